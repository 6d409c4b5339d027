/- The ninth reference's Sound, where the machine is off. The law's same, where the machine is off. (same.py turns XLb.src.) The walk of MmuPlays. -/
import Derived.Test.YtbapgngngaaojaaGreatG38
import Derived.Test.YtbapgngngaaojaaGreatG25
import Derived.Test.YtbapgngngaaojaaGreatG26
import Derived.Test.YtbapgngngaaojaaGreatG39
import Derived.Test.YtbapgngngaaojaaGreatG36
import Derived.Test.YtbapgngngaaojaaGreatG37
set_option linter.unusedSimpArgs false
set_option linter.unusedVariables false
namespace Go.Proofs.YtbapgngngaaojaaGreat
open Go.RowKit Go.Lib
set_option maxRecDepth 100000
set_option maxHeartbeats 1000000 in
theorem rsound_off (sz most root asid : Nat) (A1 A2 A3 A4 : Option Addr) (n1 n2 n3 n4 c1 c2 c3 c4 : Nat) (w : World) :
  Calls Tryz.prog 41 #[xV sz most root asid false (.slice A1 n1 c1) (.slice A2 n2 c2) (.slice A3 n3 c3) (.slice A4 n4 c4)] w fun e w' => e = .returned (.bool true) ∧ Below w.heap.size w w' := by
 unfold xV
 go_enter Tryz.func41, Tryz.ntmps41
 go_upto_region 1 with fail
 generalize hW : World.alloc w _ = W
 have HXB : Hid (Box W w.heap.size (xC sz most root asid false (.slice A1 n1 c1) (.slice A2 n2 c2) (.slice A3 n3 c3) (.slice A4 n4 c4))) := by
  rw [← hW]
  exact Box.new w (xC sz most root asid false (.slice A1 n1 c1) (.slice A2 n2 c2) (.slice A3 n3 c3) (.slice A4 n4 c4)) 36
 have HB0 : Hid (Below w.heap.size w W) := by rw [← hW]; exact below1 w _
 clear hW
 have x5 := HXB.out.at 5 _ rfl
 go_wp2
 go_ret
 exact ⟨rfl, HB0.out⟩
end Go.Proofs.YtbapgngngaaojaaGreat
namespace Go.Proofs.YtbapgngngaaojaaGreat
open Go.RowKit Go.Lib
set_option maxRecDepth 100000
attribute [local go_sem high] eqA_RE eqA_RK
set_option maxHeartbeats 3000000 in
theorem same_off {x m pt pk sz most root asid : Nat} {pv : Value} {Fm Ft Fk : Nat → Prop} {y : Ys} {w : World} (h : MmuD x m pt pk pv Fm Ft Fk ⟨sz, rdM y.ws, most, y.es, y.ks, none⟩ w) (hws : WsOk sz y.ws) (hn : y.ws.length ≤ 999999) (A1 A2 A3 A4 : Option Addr) (n4 c1 c2 c3 c4 : Nat)
  (h1 : RdRow w (.slice A1 y.ws.length c1) y.ws.length (rowL wL y.ws)) (h2 : RdRow w (.slice A2 y.es.length c2) y.es.length (rowL eL y.es)) (h3 : RdRow w (.slice A3 y.ks.length c3) y.ks.length (rowL mL y.ks)) :
  Calls Tryz.prog 12 #[.pointer (some ⟨x, 0, none⟩), xV sz most root asid false (.slice A1 y.ws.length c1) (.slice A2 y.es.length c2) (.slice A3 y.ks.length c3) (.slice A4 n4 c4)] w fun e w' => e = .returned (.bool true) ∧ Below w.heap.size w w' := by
 obtain ⟨ws, es, ks⟩ := y
 dsimp only at *
 have hok := h.ok
 have hszle := hok.szle
 have hszal := hok.szal
 dsimp only at hszle hszal
 have C39 : Hid (∀ u, Below w.heap.size w u → Calls Tryz.prog 39 #[.pointer (some ⟨x, 0, none⟩)] u (ClonePost eL es u)) := fun u hb => mentries_nat (h.below hb)
 have C40 : Hid (∀ u, Below w.heap.size w u → Calls Tryz.prog 40 #[.pointer (some ⟨x, 0, none⟩)] u (ClonePost mL ks u)) := fun u hb => mmarks_nat (h.below hb)
 have C17 : Hid (∀ u, Below w.heap.size w u → Calls Tryz.prog 17 #[.pointer (some ⟨x, 0, none⟩)] u fun e w' => e = .returned (.bool (soundM ⟨sz, rdM ws, most, es, ks, none⟩)) ∧ Below u.heap.size u w') := fun u hb => msound_nat (h.below hb)
 have C41 : Hid (∀ u, Below w.heap.size w u → Calls Tryz.prog 41 #[.agg #[.int .u64 sz, .slice A1 ws.length c1, .int .i64 most, .slice A2 es.length c2, .slice A3 ks.length c3, .bool false, .int .u64 root, .int .i64 asid, .slice A4 n4 c4]] u fun e w' => e = .returned (.bool (soundM ⟨sz, rdM ws, most, es, ks, none⟩)) ∧ Below u.heap.size u w') := fun u hb =>
  rsound_off sz most root asid A1 A2 A3 A4 ws.length es.length ks.length n4 c1 c2 c3 c4 u
 have C19 : Hid (∀ u, Below w.heap.size w u → Calls Tryz.prog 19 #[.pointer (some ⟨x, 0, none⟩)] u fun e w' => e = .returned (.pointer (some ⟨m, 0, none⟩)) ∧ w' = u) := fun u hb => mmemory_nat (h.below hb)
 have C42 : Hid (∀ u, Below w.heap.size w u → Calls Tryz.prog 42 #[.pointer (some ⟨m, 0, none⟩)] u fun e w' => e = .returned (.int .i64 ws.length) ∧ Below u.heap.size u w') := fun u hb => by
  have h9 := words_nat (h.below hb).mem hszle
  dsimp only at h9
  rw [words_len sz hszal ws hws] at h9
  exact h9
 have C22 : Hid (∀ s ∈ ws, ∀ u, Below w.heap.size w u → Calls Tryz.prog 22 #[.pointer (some ⟨m, 0, none⟩), .int .u64 s.1] u fun e w' => e = .returned (.tuple #[.int .u64 s.2, .int .i64 0]) ∧ w' = u) := fun s hs u hb => by
  have hq := hws.2 s hs
  have hlt : s.1 < 18446744073709551616 := by have := (mayP_ok hq.2.2).2; omega
  have h9 := read_nat (h.below hb).mem s.1 hlt
  unfold readP at h9
  dsimp only at h9
  rw [if_pos hq.2.2, hws.rd s hs] at h9
  exact h9
 have C43 : Hid (∀ u, Below w.heap.size w u → Calls Tryz.prog 43 #[.pointer (some ⟨x, 0, none⟩)] u fun e w' => e = .returned (.tuple #[.int .u64 0, .bool false]) ∧ Below u.heap.size u w') := fun u hb => mregister_nat (h.below hb)
 have hel : es.length ≤ 1000 := by have := hok.el; have := hok.m64; dsimp only at *; omega
 have hkl : ks.length ≤ 1000 := by have := hok.kl; have := hok.m64; dsimp only at *; omega
 have HEL := Lib.hid hel
 have HKL := Lib.hid hkl
 have HN := Lib.hid hn
 have H1 := Lib.hid h1
 have H2 := Lib.hid h2
 have H3 := Lib.hid h3
 clear h hws hn h1 h2 h3 hok hszle hszal hel hkl
 generalize soundM ⟨sz, rdM ws, most, es, ks, none⟩ = SM at *
 unfold xV
 go_enter Tryz.func12, Tryz.ntmps12
 go_upto_region 1 with fail
 have HXB : Hid (Box (w.alloc (.cells #[.int .u64 sz, .slice A1 ws.length c1, .int .i64 most, .slice A2 es.length c2, .slice A3 ks.length c3, .bool false, .int .u64 root, .int .i64 asid, .slice A4 n4 c4] 36)) w.heap.size (xC sz most root asid false (.slice A1 ws.length c1) (.slice A2 es.length c2) (.slice A3 ks.length c3) (.slice A4 n4 c4))) := Box.new w (xC sz most root asid false (.slice A1 ws.length c1) (.slice A2 es.length c2) (.slice A3 ks.length c3) (.slice A4 n4 c4)) 36
 have HB0 : Hid (Below w.heap.size w (w.alloc (.cells #[.int .u64 sz, .slice A1 ws.length c1, .int .i64 most, .slice A2 es.length c2, .slice A3 ks.length c3, .bool false, .int .u64 root, .int .i64 asid, .slice A4 n4 c4] 36))) := below1 _ _
 generalize World.alloc w _ = W at *
 have hgz : w.heap.size < W.heap.size := HXB.out.2.2
 generalize hG : w.heap.size = G at *
 go_upto_region 2 with (first | (go_at_call 39; refine (C39.out _ HB0.out).mono ?_; rintro e w1 ⟨A5, c5, rfl, hrow, hb1⟩; have HB1 := Lib.hid (HB0.out.trans (hb1.mono (by omega))); have HR5 := Lib.hid hrow; have HXB1 := Lib.hid (HXB.out.below hb1); clear hrow hb1) | (go_at_call 40; refine (C40.out _ HB1.out).mono ?_; rintro e w2 ⟨A6, c6, rfl, hrow, hb2⟩; have hz2 : G ≤ w1.heap.size := Nat.le_of_lt HXB1.out.2.2; have HB2 := Lib.hid (HB1.out.trans (hb2.mono hz2)); have HR6 := Lib.hid hrow; have HR7 := Lib.hid (HR5.out.below hb2); have HXB2 := Lib.hid (HXB1.out.below hb2); clear hrow hb2 hz2))
 clear HB0 HB1 HR5 HXB HXB1 hgz
 have hgz : G < w2.heap.size := HXB2.out.2.2
 have BX := HXB2.out
 have x0 := BX.at 0 _ rfl
 have x1 := BX.at 1 _ rfl
 have x2 := BX.at 2 _ rfl
 have x3 := BX.at 3 _ rfl
 have x4 := BX.at 4 _ rfl
 have x5 := BX.at 5 _ rfl
 have x6 := BX.at 6 _ rfl
 have x7 := BX.at 7 _ rfl
 have x8 := BX.at 8 _ rfl
 clear BX
 go_cut [51] (fun v wx => v = .bool false ∧ Hid (Below w2.heap.size w2 wx))
 case first =>
  have hC : CtxB w2 w2 := Below.refl _ _
  have hz2 : G ≤ w2.heap.size := Nat.le_of_lt hgz
  have SK : Hid (∀ u, CtxB w2 u → u.cell? ⟨G, 0, none⟩ = some (.int .u64 sz) ∧ u.cell? ⟨G, 1, none⟩ = some (.slice A1 ws.length c1) ∧ u.cell? ⟨G, 2, none⟩ = some (.int .i64 most) ∧ u.cell? ⟨G, 3, none⟩ = some (.slice A2 es.length c2) ∧ u.cell? ⟨G, 4, none⟩ = some (.slice A3 ks.length c3) ∧ u.cell? ⟨G, 5, none⟩ = some (.bool false) ∧ u.cell? ⟨G, 6, none⟩ = some (.int .u64 root) ∧ u.cell? ⟨G, 7, none⟩ = some (.int .i64 asid) ∧ u.cell? ⟨G, 8, none⟩ = some (.slice A4 n4 c4) ∧ CtxB w2 u) := fun u h => ⟨keep_cell h.out x0, keep_cell h.out x1, keep_cell h.out x2, keep_cell h.out x3, keep_cell h.out x4, keep_cell h.out x5, keep_cell h.out x6, keep_cell h.out x7, keep_cell h.out x8, h⟩
  go_region_held3 (fun u => u.cell? ⟨G, 0, none⟩ = some (.int .u64 sz) ∧ u.cell? ⟨G, 1, none⟩ = some (.slice A1 ws.length c1) ∧ u.cell? ⟨G, 2, none⟩ = some (.int .i64 most) ∧ u.cell? ⟨G, 3, none⟩ = some (.slice A2 es.length c2) ∧ u.cell? ⟨G, 4, none⟩ = some (.slice A3 ks.length c3) ∧ u.cell? ⟨G, 5, none⟩ = some (.bool false) ∧ u.cell? ⟨G, 6, none⟩ = some (.int .u64 root) ∧ u.cell? ⟨G, 7, none⟩ = some (.int .i64 asid) ∧ u.cell? ⟨G, 8, none⟩ = some (.slice A4 n4 c4) ∧ CtxB w2 u)
   (first | with_reducible assumption | ((try dsimp only); refine SK.out _ ?_; (first | with_reducible exact hC5 | with_reducible exact hC.drew)))
   (first | (go_at_call 17; refine (C17.out _ (by first | exact HB2.out.drew | exact HB2.out.trans ((CtxB.out hC5).mono hz2) | (go_split_ands; exact HB2.out.trans ((CtxB.out (by assumption)).mono hz2)))).mono ?_; rintro e w5 ⟨rfl, hb5⟩; have hC5 : CtxB w2 w5 := (by first | exact CtxB.next hC.drew hb5 | exact CtxB.next hC5 hb5 | (go_split_ands; exact CtxB.next (by assumption) hb5))) | (go_at_call 41; refine (C41.out _ (by first | exact HB2.out.drew | exact HB2.out.trans ((CtxB.out hC5).mono hz2) | (go_split_ands; exact HB2.out.trans ((CtxB.out (by assumption)).mono hz2)))).mono ?_; rintro e w5 ⟨rfl, hb5⟩; have hC5 : CtxB w2 w5 := (by first | exact CtxB.next hC.drew hb5 | exact CtxB.next hC5 hb5 | (go_split_ands; exact CtxB.next (by assumption) hb5))) | (go_at_call 42; refine (C42.out _ (by first | exact HB2.out.drew | exact HB2.out.trans ((CtxB.out hC5).mono hz2) | (go_split_ands; exact HB2.out.trans ((CtxB.out (by assumption)).mono hz2)))).mono ?_; rintro e w5 ⟨rfl, hb5⟩; have hC5 : CtxB w2 w5 := (by first | exact CtxB.next hC.drew hb5 | exact CtxB.next hC5 hb5 | (go_split_ands; exact CtxB.next (by assumption) hb5))) | (go_at_call 19; refine (C19.out _ (by first | exact HB2.out.trans ((CtxB.out hC5).mono hz2) | exact HB2.out.drew)).mono ?_; rintro e w6 ⟨rfl, rfl⟩))
  all_goals
   go_split_ands
   have HBX : Hid (Below w2.heap.size w2 w5) := CtxB.out (by assumption)
   go_wp2_with fail
   go_meet
   exact ⟨rfl, HBX⟩
 case rest =>
  obtain ⟨rfl, HBC⟩ := hcut
  have HXC := Lib.hid (HXB2.out.below HBC.out)
  have HBW : Hid (Below G w wc) := HB2.out.trans (HBC.out.mono (Nat.le_of_lt hgz))
  have HE := Lib.hid (HR7.out.below HBC.out)
  have HK := Lib.hid (HR6.out.below HBC.out)
  clear x0 x1 x2 x3 x4 x5 x6 x7 x8 HB2 HR6 HR7 HXB2 hgz HBC C39 C40 C17 C41 C42
  have hgc : G < wc.heap.size := HXC.out.2.2
  go_wp2
  go_loopw [54] (fun iv wr => ∃ i : Nat, iv = .int .i64 i ∧ i ≤ es.length ∧ Hid (Below wc.heap.size wc wr)) (fun iv _ => es.length - (RowKit.intOf iv).toNat)
  case atStart => exact ⟨0, rfl, by omega, Below.refl _ _⟩
  case round =>
   obtain ⟨i, rfl, hi, HB⟩ := hrel
   have hel2 : es.length ≤ 1000 := HEL.out
   have HWR : Hid (Below G w wr) := HBW.out.trans (HB.out.mono (Nat.le_of_lt hgc))
   by_cases hlt : i < es.length
   ·obtain ⟨g, o, rfl, hr⟩ := HE.out.get (by omega)
    have hrng : wr.rangeAt g o (rowL eL es) := fun j v hj => keep_cell HB.out (hr j v hj)
    obtain ⟨g2, o2, rfl, hr2⟩ := H2.out.get (by omega)
    have hrng2 : wr.rangeAt g2 o2 (rowL eL es) := fun j v hj => keep_cell (by rw [hG]; exact HWR.out) (hr2 j v hj)
    have k0 := row_at0 eL_len hrng i hlt _ rfl
    have k1 := row_at eL_len hrng i hlt 1 _ rfl
    have k2 := row_at eL_len hrng i hlt 2 _ rfl
    have k3 := row_at eL_len hrng i hlt 3 _ rfl
    have k4 := row_at eL_len hrng i hlt 4 _ rfl
    have k5 := row_at eL_len hrng i hlt 5 _ rfl
    have k6 := row_at eL_len hrng i hlt 6 _ rfl
    have k7 := row_at eL_len hrng i hlt 7 _ rfl
    have k8 := row_at eL_len hrng i hlt 8 _ rfl
    have k9 := row_at eL_len hrng i hlt 9 _ rfl
    have q0 := row_at0 eL_len hrng2 i hlt _ rfl
    have q1 := row_at eL_len hrng2 i hlt 1 _ rfl
    have q2 := row_at eL_len hrng2 i hlt 2 _ rfl
    have q3 := row_at eL_len hrng2 i hlt 3 _ rfl
    have q4 := row_at eL_len hrng2 i hlt 4 _ rfl
    have q5 := row_at eL_len hrng2 i hlt 5 _ rfl
    have q6 := row_at eL_len hrng2 i hlt 6 _ rfl
    have q7 := row_at eL_len hrng2 i hlt 7 _ rfl
    have q8 := row_at eL_len hrng2 i hlt 8 _ rfl
    have q9 := row_at eL_len hrng2 i hlt 9 _ rfl
    have x3 := (HXC.out.below HB.out).at 3 _ rfl
    have xz := (HXC.out.below HB.out).2.2
    have i1 : (0 : Int) ≤ (i : Int) := by omega
    have i2 : (i : Int) < (es.length : Int) := by omega
    clear hrng hr hrng2 hr2
    generalize es[i] = y at *
    obtain ⟨ya, yv, yl, ⟨yk, yo, y1, y2, y3, y4, yt⟩⟩ := y
    dsimp only at k0 k1 k2 k3 k4 k5 k6 k7 k8 k9 q0 q1 q2 q3 q4 q5 q6 q7 q8 q9
    have gz : g < wr.heap.size := World.block_lt_of_cell? wr _ k0
    have gz2 : g2 < wr.heap.size := World.block_lt_of_cell? wr _ q0
    go_wp2_with fail
    go_quiet (fail)
    go_wp2
    go_roundw
    case rel => exact ⟨i + 1, by first | rfl | go_num, by omega, below_drewN (HB.out.alloc HB.out.size _) _⟩
    case measure => simp [RowKit.intOf]; omega
   ·clear HE HWR
    go_wp2
    go_loopw [77] (fun iv wq => ∃ i : Nat, iv = .int .i64 i ∧ i ≤ ks.length ∧ Hid (Below wc.heap.size wc wq)) (fun iv _ => ks.length - (RowKit.intOf iv).toNat)
    case atStart => exact ⟨0, rfl, by omega, HB⟩
    case round =>
     clear HB hi hlt
     obtain ⟨j, rfl, hj, HB⟩ := hrel
     have hkl2 : ks.length ≤ 1000 := HKL.out
     have HWR : Hid (Below G w wr) := HBW.out.trans (HB.out.mono (Nat.le_of_lt hgc))
     by_cases hlt : j < ks.length
     ·obtain ⟨g, o, rfl, hr⟩ := HK.out.get (by omega)
      have hrng : wr.rangeAt g o (rowL mL ks) := fun j v hj => keep_cell HB.out (hr j v hj)
      obtain ⟨g2, o2, rfl, hr2⟩ := H3.out.get (by omega)
      have hrng2 : wr.rangeAt g2 o2 (rowL mL ks) := fun j v hj => keep_cell (by rw [hG]; exact HWR.out) (hr2 j v hj)
      have k0 := row_at0 mL_len hrng j hlt _ rfl
      have k1 := row_at mL_len hrng j hlt 1 _ rfl
      have k2 := row_at mL_len hrng j hlt 2 _ rfl
      have k3 := row_at mL_len hrng j hlt 3 _ rfl
      have q0 := row_at0 mL_len hrng2 j hlt _ rfl
      have q1 := row_at mL_len hrng2 j hlt 1 _ rfl
      have q2 := row_at mL_len hrng2 j hlt 2 _ rfl
      have q3 := row_at mL_len hrng2 j hlt 3 _ rfl
      have x4 := (HXC.out.below HB.out).at 4 _ rfl
      have xz := (HXC.out.below HB.out).2.2
      have i1 : (0 : Int) ≤ (j : Int) := by omega
      have i2 : (j : Int) < (ks.length : Int) := by omega
      clear hrng hr hrng2 hr2
      generalize ks[j] = y at *
      obtain ⟨ya, yv, yl, yt⟩ := y
      dsimp only at k0 k1 k2 k3 q0 q1 q2 q3
      have gz : g < wr.heap.size := World.block_lt_of_cell? wr _ k0
      have gz2 : g2 < wr.heap.size := World.block_lt_of_cell? wr _ q0
      go_wp2_with fail
      go_quiet (fail)
      go_wp2
      go_roundw
      case rel => exact ⟨j + 1, by first | rfl | go_num, by omega, below_drewN (HB.out.alloc HB.out.size _) _⟩
      case measure => simp [RowKit.intOf]; omega
     ·clear HK HWR
      have x1 := (HXC.out.below HB.out).at 1 _ rfl
      have xz := (HXC.out.below HB.out).2.2
      go_wp2
      clear x1 xz
      go_loopw [94] (fun iv wq => ∃ i : Nat, iv = .int .i64 i ∧ i ≤ ws.length ∧ Hid (Below wc.heap.size wc wq)) (fun iv _ => ws.length - (RowKit.intOf iv).toNat)
      case atStart => exact ⟨0, rfl, by omega, HB⟩
      case round =>
       clear HB hj hlt
       obtain ⟨n, rfl, hnn, HB⟩ := hrel
       have hnl2 : ws.length ≤ 999999 := HN.out
       have HWR : Hid (Below G w wr) := HBW.out.trans (HB.out.mono (Nat.le_of_lt hgc))
       by_cases hlt : n < ws.length
       ·obtain ⟨g2, o2, rfl, hr2⟩ := H1.out.get (by omega)
        have hrng2 : wr.rangeAt g2 o2 (rowL wL ws) := fun j v hj => keep_cell (by rw [hG]; exact HWR.out) (hr2 j v hj)
        have q0 := row_at0 wL_len hrng2 n hlt _ rfl
        have q1 := row_at wL_len hrng2 n hlt 1 _ rfl
        have i1 : (0 : Int) ≤ (n : Int) := by omega
        have i2 : (n : Int) < (ws.length : Int) := by omega
        have D22 := Lib.hid (C22.out ws[n] (List.getElem_mem hlt))
        clear hrng2 hr2
        have gz2 : g2 < wr.heap.size := World.block_lt_of_cell? wr _ q0
        generalize ws[n] = y at *
        obtain ⟨ya, yx⟩ := y
        dsimp only at q0 q1 D22
        have HWA := Lib.hid (HWR.out.alloc (Nat.le_trans (Nat.le_of_lt hgc) HB.out.size) (.cells #[.int .u64 ya, .int .u64 yx] 123))
        go_wp2_with fail
        go_quiet (first | (go_at_call 19; exact Calls.quiet_of_same (C19.out _ (by first | exact HWA.out | exact HWA.out.drew | exact below_drewN HWA.out _))) | (go_at_call 22; exact Calls.quiet_of_same (D22.out _ (by first | exact HWA.out | exact HWA.out.drew | exact below_drewN HWA.out _))))
        go_wp2
        go_roundw
        case rel => exact ⟨n + 1, by first | rfl | go_num, by omega, below_drewN (HB.out.alloc HB.out.size _) _⟩
        case measure => simp [RowKit.intOf]; omega
       ·have D43 := Lib.hid (C43.out wr HWR.out)
        go_upto_region 24 with (go_at_call 43; refine D43.out.mono ?_; rintro e w9 ⟨rfl, hb9⟩; have HB9 := Lib.hid (HB.out.trans (hb9.mono HB.out.size)); clear hb9)
        have BX := HXC.out.below HB9.out
        have x4 := BX.at 4 _ rfl
        have x5 := BX.at 5 _ rfl
        have x6 := BX.at 6 _ rfl
        have x7 := BX.at 7 _ rfl
        have xz := BX.2.2
        clear BX
        go_wp2
        go_ret
        exact ⟨rfl, hG ▸ HBW.out.trans (HB9.out.mono (Nat.le_of_lt hgc))⟩
end Go.Proofs.YtbapgngngaaojaaGreat
namespace Go.Proofs.YtbapgngngaaojaaGreat
open Go.RowKit Go.Lib
set_option maxRecDepth 100000
theorem MB.alike {x m pt pk : Nat} {pv : Value} {R B : Nat → Prop} {w0 w : World} {y : Yr} {q : Sl} (h : MB x m pt pk pv y.st B w0 w) (hq : YAt R y q w) (hi : PI y) (hn : y.ws.length ≤ 999999) :
  Calls Tryz.prog 12 #[.pointer (some ⟨x, 0, none⟩), yV y q] w fun e w' => e = .returned (.bool true) ∧ Below w.heap.size w w' := by
 refine h.of (fun Fm Ft Fk hd => ?_)
 cases ho : y.on with
 | true =>
  have hr : y.st = Ys.st y.sz y.most y.root y.asid ⟨y.ws, y.es, y.ks⟩ := by unfold Yr.st regO Ys.st; rw [ho]; rfl
  rw [hr] at hd
  have hyv : yV y q = xV y.sz y.most y.root y.asid true (.slice q.A1 y.ws.length q.c1) (.slice q.A2 y.es.length q.c2) (.slice q.A3 y.ks.length q.c3) (.slice q.A4 y.ps.length q.c4) := by unfold yV; rw [ho]
  rw [hyv]
  exact same_nat hd hi.1 hn q.A1 q.A2 q.A3 q.A4 y.ps.length q.c1 q.c2 q.c3 q.c4 hq.1.rd hq.2.1.rd hq.2.2.1.rd
 | false =>
  have hr : y.st = ⟨y.sz, rdM y.ws, y.most, y.es, y.ks, none⟩ := by unfold Yr.st regO; rw [ho]; rfl
  rw [hr] at hd
  have hyv : yV y q = xV y.sz y.most y.root y.asid false (.slice q.A1 y.ws.length q.c1) (.slice q.A2 y.es.length q.c2) (.slice q.A3 y.ks.length q.c3) (.slice q.A4 y.ps.length q.c4) := by unfold yV; rw [ho]
  rw [hyv]
  exact same_off (y := ⟨y.ws, y.es, y.ks⟩) hd hi.1 hn q.A1 q.A2 q.A3 q.A4 y.ps.length q.c1 q.c2 q.c3 q.c4 hq.1.rd hq.2.1.rd hq.2.2.1.rd
set_option maxHeartbeats 4000000 in
theorem plays_long (n0 : Nat) (most : Int) (A0 AO : Option Addr) (c0 nO cO : Nat) (w : World) (h60 : 60 < n0) :
  Calls Tryz.prog 5 #[.slice A0 n0 c0, .int .i64 most, .slice AO nO cO] w fun e w' => e = .returned (.bool true) ∧ Below w.heap.size w w' := by
 have C1 := Lib.hid (fun u => opened_longJ most n0 A0 c0 u h60)
 have d60 : decide ((60 : Int) < (n0 : Int)) = true := by simp; omega
 clear h60
 go_enter Tryz.func5, Tryz.ntmps5
 go_upto_region 3 with (go_at_call 7; refine (anchor_nat _).mono ?_; rintro e w1 ⟨rfl, hb1⟩; have HB1 := Lib.hid hb1; clear hb1)
 go_upto_region 4 with (go_at_call 8; refine (C1.out w1).mono ?_; rintro e w2 ⟨rfl, hb⟩; dsimp only [xW]; have HB2 := Lib.hid hb; clear hb)
 have HB3 := Lib.hid ((HB1.out.trans (HB2.out.mono HB1.out.size)).trans ((below1 w2 (.cells (xJ 1048576 most 0 0 false (.slice none 0 0) (.slice none 0 0) (.slice none 0 0) (.slice none 0 0)).toArray 36)).mono (HB1.out.trans (HB2.out.mono HB1.out.size)).size))
 dsimp only [xJ, List.toArray] at HB3
 generalize World.alloc w2 _ = W3 at *
 go_wp2
 go_ret
 exact ⟨rfl, HB3.out⟩
set_option maxHeartbeats 4000000 in
theorem plays_bad (W0 : List (Nat × Nat)) (most : Int) (hm : most < 1 ∨ 64 < most) (A0 AO : Option Addr) (c0 nO cO : Nat) (w : World) (h60 : W0.length ≤ 60) (hW : ∀ s ∈ W0, s.1 < 18446744073709551616 ∧ s.2 < 18446744073709551616) (hr0 : RdRow w (.slice A0 W0.length c0) W0.length (rowL wL W0)) :
  Calls Tryz.prog 5 #[.slice A0 W0.length c0, .int .i64 most, .slice AO nO cO] w fun e w' => e = .returned (.bool true) ∧ Below w.heap.size w w' := by
 have C1 : Hid (∀ u, Below w.heap.size w u → Calls Tryz.prog 8 #[.slice A0 W0.length c0, .int .i64 most] u (OpenBad most (wsI 1048576 W0) u)) := fun u hb => opened_bad most W0 A0 c0 u hm h60 hW (hr0.below hb)
 have d60 : decide ((60 : Int) < (W0.length : Int)) = false := by simp; omega
 have hcase : (decide (most < 1) = true) ∨ (decide (most < 1) = false ∧ decide (64 < most) = true) := by
  by_cases h1 : most < 1
  ·exact .inl (decide_eq_true h1)
  ·exact .inr ⟨decide_eq_false h1, decide_eq_true (hm.resolve_left h1)⟩
 clear hm h60 hW hr0
 generalize wsI 1048576 W0 = ws at *
 go_enter Tryz.func5, Tryz.ntmps5
 go_upto_region 3 with (go_at_call 7; refine (anchor_nat _).mono ?_; rintro e w1 ⟨rfl, hb1⟩; have HB1 := Lib.hid hb1; clear hb1)
 go_upto_region 4 with (go_at_call 8; refine (C1.out w1 HB1.out).mono ?_; rintro e w2 ⟨A, c, rfl, hb⟩; dsimp only [xW]; have HB2 := Lib.hid hb; clear hb)
 have HB3 := Lib.hid ((HB1.out.trans (HB2.out.mono HB1.out.size)).trans ((below1 w2 (.cells (xJ 1048576 most 0 0 false (.slice A ws.length c) (.slice none 0 0) (.slice none 0 0) (.slice none 0 0)).toArray 36)).mono (HB1.out.trans (HB2.out.mono HB1.out.size)).size))
 dsimp only [xJ, List.toArray] at HB3
 generalize World.alloc w2 _ = W3 at *
 rcases hcase with d1 | ⟨d1, d2⟩
 ·go_wp2
  go_ret
  exact ⟨rfl, HB3.out⟩
 ·go_wp2
  go_ret
  exact ⟨rfl, HB3.out⟩
set_option maxHeartbeats 4000000 in
theorem plays_nat (W0 : List (Nat × Nat)) (most : Nat) (hm1 : 1 ≤ most) (hm2 : most ≤ 64) (A0 : Option Addr) (c0 : Nat) (O : List OpT) (AO : Option Addr) (cO : Nat) (w : World) (h60 : W0.length ≤ 60) (hW : ∀ s ∈ W0, s.1 < 18446744073709551616 ∧ s.2 < 18446744073709551616) (hr0 : RdRow w (.slice A0 W0.length c0) W0.length (rowL wL W0))
  (hO : ∀ o ∈ O, o.va < 18446744073709551616 ∧ o.wd < 18446744073709551616) (hrO : RdRow w (.slice AO O.length cO) O.length (rowL opL O)) :
  Calls Tryz.prog 5 #[.slice A0 W0.length c0, .int .i64 most, .slice AO O.length cO] w fun e w' => e = .returned (.bool true) ∧ Below w.heap.size w w' := by
 have C1 : Hid (∀ u, Below w.heap.size w u → Calls Tryz.prog 8 #[.slice A0 W0.length c0, .int .i64 most] u fun e w' => ∃ x m pt pk B A c, e = .returned (.tuple #[.pointer (some ⟨x, 0, none⟩), .agg #[.int .u64 1048576, .slice A (wsI 1048576 W0).length c, .int .i64 most, .slice none 0 0, .slice none 0 0, .bool false, .int .u64 0, .int .i64 0, .slice none 0 0], .bool true]) ∧ MB x m pt pk (.slice none 0 0) (st0 1048576 (rdM (wsI 1048576 W0)) most) B w w' ∧ RowAt w' B 2 (.slice A (wsI 1048576 W0).length c) (wsI 1048576 W0).length (rowL wL (wsI 1048576 W0))) := fun u hb => by
  refine (opened_nat most W0 A0 c0 u hm1 hm2 h60 hW (hr0.below hb)).mono ?_
  rintro e w' ⟨x, m, pt, pk, Fm, A, c, rfl, ho⟩
  obtain ⟨B, hB, hR, -⟩ := ho.mb hb
  exact ⟨x, m, pt, pk, B, A, c, rfl, hB, hR⟩
 have HWS := Lib.hid (wsI_ok 1048576 W0 (fun s hs => (hW s hs).2))
 have HWL : Hid ((wsI 1048576 W0).length ≤ 60) := Nat.le_trans (wsI_len _ _) h60
 have HO := Lib.hid hO
 have HRO := Lib.hid hrO
 have d60 : decide ((60 : Int) < (W0.length : Int)) = false := by simp; omega
 have dm1 : decide ((most : Int) < 1) = false := by simp; omega
 have dm2 : decide ((64 : Int) < (most : Int)) = false := by simp; omega
 clear h60 hW hr0 hO hrO hm1 hm2
 generalize wsI 1048576 W0 = ws at *
 go_enter Tryz.func5, Tryz.ntmps5
 go_upto_region 3 with (go_at_call 7; refine (anchor_nat _).mono ?_; rintro e w1 ⟨rfl, hb1⟩; have HB1 := Lib.hid hb1; clear hb1)
 go_upto_region 4 with (go_at_call 8; refine (C1.out _ HB1.out).mono ?_; rintro e w2 ⟨x, m, pt, pk, B, A, c, rfl, hB, hR⟩; have HM2 := Lib.hid hB; have HR2 := Lib.hid hR; clear hB hR)
 have hb3 := below1 w2 (.cells #[.int .u64 1048576, .slice A ws.length c, .int .i64 most, .slice none 0 0, .slice none 0 0, .bool false, .int .u64 0, .int .i64 0, .slice none 0 0] 36)
 have HX3 : Hid (Box (w2.alloc (.cells #[.int .u64 1048576, .slice A ws.length c, .int .i64 most, .slice none 0 0, .slice none 0 0, .bool false, .int .u64 0, .int .i64 0, .slice none 0 0] 36)) w2.heap.size (xC 1048576 most 0 0 false (.slice A ws.length c) (.slice none 0 0) (.slice none 0 0) (.slice none 0 0))) := Box.new w2 (xC 1048576 most 0 0 false (.slice A ws.length c) (.slice none 0 0) (.slice none 0 0) (.slice none 0 0)) 36
 have HM3 := Lib.hid (HM2.out.add hb3 (Nat.le_refl _) HX3.out.2.2)
 have HR3 := Lib.hid (HR2.out.below hb3)
 have HRT : Hid (∀ k, B k → k < w2.heap.size) := fun k z => HM2.out.mine z
 clear C1 HB1 HM2 HR2 hb3
 generalize World.alloc w2 _ = W3 at *
 generalize w2.heap.size = t8 at *
 by_cases hl40 : 40 < O.length
 ·have d1 : decide ((40 : Int) < (O.length : Int)) = true := by simp; omega
  go_wp2
  go_ret
  exact ⟨rfl, HM3.out.base⟩
 ·have d1 : decide ((40 : Int) < (O.length : Int)) = false := by simp; omega
  have hl : O.length ≤ 40 := by omega
  clear hl40
  go_wp2_with fail
  go_loopw [9, 46] (fun ov iv wr => ∃ (i : Nat) (y : Yr) (q : Sl) (pv : Value) (R B : Nat → Prop), ov = .bool true ∧ iv = .int .i64 i ∧ i ≤ O.length ∧ Hid (MB x m pt pk pv y.st B w wr) ∧ Hid (YAt R y q wr) ∧ Hid (RowAt wr R 4 pv y.ps.length (rowL pL y.ps)) ∧ Hid (PI y) ∧ Hid (y.ws.length ≤ 60 + i) ∧ Hid (Box wr t8 (xC y.sz y.most y.root y.asid y.on (.slice q.A1 y.ws.length q.c1) (.slice q.A2 y.es.length q.c2) (.slice q.A3 y.ks.length q.c3) (.slice q.A4 y.ps.length q.c4))) ∧ Hid (B t8 ∧ ¬ R t8 ∧ ∀ k, R k → B k)) (fun _ iv _ => O.length - (RowKit.intOf iv).toNat)
  case atStart => exact ⟨0, ⟨1048576, most, 0, 0, false, ws, [], [], []⟩, ⟨A, c, none, 0, none, 0, none, 0⟩, .slice none 0 0, B, _, rfl, rfl, by omega, HM3, ⟨HR3.out, RowAt.nil _ _ _, RowAt.nil _ _ _, RowAt.nil _ _ _⟩, RowAt.nil _ _ _, ⟨HWS.out, fun p (hp : p ∈ ([] : List Pl)) => (List.not_mem_nil hp).elim, by simp⟩, by have := HWL.out; rw [Hid]; dsimp only; omega, HX3, ⟨.inr rfl, fun z => by have := HRT.out _ z; omega, fun k z => .inl z⟩⟩
  case round =>
   obtain ⟨i, y, q, pv, R, B2, rfl, rfl, hi, HM, HQ, HP, HI, HN, HX, HT⟩ := hrel
   by_cases hlt : i < O.length
   ·obtain ⟨g, o, rfl, hr⟩ := HRO.out.get (by omega)
    have hrng : wr.rangeAt g o (rowL opL O) := fun j v hj => keep_cell HM.out.base (hr j v hj)
    have k0 := row_at0 opL_len hrng i hlt _ rfl
    have k1 := row_at opL_len hrng i hlt 1 _ rfl
    have k2 := row_at opL_len hrng i hlt 2 _ rfl
    have k3 := row_at opL_len hrng i hlt 3 _ rfl
    have k4 := row_at opL_len hrng i hlt 4 _ rfl
    have k5 := row_at opL_len hrng i hlt 5 _ rfl
    have k6 := row_at opL_len hrng i hlt 6 _ rfl
    have k7 := row_at opL_len hrng i hlt 7 _ rfl
    have i1 : (0 : Int) ≤ (i : Int) := by omega
    have i2 : (i : Int) < (O.length : Int) := by omega
    have hol := HO.out _ (List.getElem_mem hlt)
    clear hrng hr
    generalize O[i] = op at *
    obtain ⟨kind, sort, nn, ova, owd, f, l, k⟩ := op
    dsimp only at k0 k1 k2 k3 k4 k5 k6 k7 hol
    obtain ⟨hova, howd⟩ := hol
    go_upto_region 9 with fail
    have HOB : Hid (Box (wr.alloc (.cells #[.int .i64 kind, .int .i64 sort, .int .i64 nn, .int .u64 ova, .int .u64 owd, .bool f, .bool l, .bool k] 55)) wr.heap.size [.int .i64 kind, .int .i64 sort, .int .i64 nn, .int .u64 ova, .int .u64 owd, .bool f, .bool l, .bool k]) := Box.new wr [.int .i64 kind, .int .i64 sort, .int .i64 nn, .int .u64 ova, .int .u64 owd, .bool f, .bool l, .bool k] 55
    have hb5 := below1 wr (.cells #[.int .i64 kind, .int .i64 sort, .int .i64 nn, .int .u64 ova, .int .u64 owd, .bool f, .bool l, .bool k] 55)
    have HM5 := Lib.hid (HM.out.below hb5)
    have HQ5 := Lib.hid (HQ.out.below hb5)
    have HP5 := Lib.hid (HP.out.below hb5)
    have HX5 := Lib.hid (HX.out.below hb5)
    clear hb5 k0 k1 k2 k3 k4 k5 k6 k7
    generalize World.alloc wr _ = W5 at *
    have j0 := HOB.out.at 0 _ rfl
    have j1 := HOB.out.at 1 _ rfl
    have j2 := HOB.out.at 2 _ rfl
    have j3 := HOB.out.at 3 _ rfl
    have j4 := HOB.out.at 4 _ rfl
    have j5 := HOB.out.at 5 _ rfl
    have j6 := HOB.out.at 6 _ rfl
    have j7 := HOB.out.at 7 _ rfl
    have x0 := HX5.out.at 0 _ rfl
    have x1 := HX5.out.at 1 _ rfl
    have x2 := HX5.out.at 2 _ rfl
    have x3 := HX5.out.at 3 _ rfl
    have x4 := HX5.out.at 4 _ rfl
    have x5 := HX5.out.at 5 _ rfl
    have x6 := HX5.out.at 6 _ rfl
    have x7 := HX5.out.at 7 _ rfl
    have x8 := HX5.out.at 8 _ rfl
    have HT5 : Hid (t8 < W5.heap.size) := HX5.out.2.2
    have CS := Lib.hid (step_pl HM5.out HT.out.2.2 HQ5.out HP5.out HI.out (by have := HN.out; omega) kind sort nn ova owd hova howd f l k)
    unfold yV xV at CS
    go_upto_region 10 with (go_at_call 14; refine CS.out.mono ?_; rintro e w6 ⟨y2, q2, B3, pv2, rfl, hm, hq2, hr2, hi2, hn2, hs2, hk⟩; dsimp only [yV, xV]; have HM6 := Lib.hid hm; have HQ6 := Lib.hid hq2; have HP6 := Lib.hid hr2; have HI6 := Lib.hid hi2; have HN6 := Lib.hid hn2; have HS6 := Lib.hid hs2; have HX6 := Lib.hid (HX5.out.mb hk HT.out.1); clear hm hq2 hr2 hi2 hn2 hs2 hk; have x0 := HX6.out.at 0 _ rfl; have x1 := HX6.out.at 1 _ rfl; have x2 := HX6.out.at 2 _ rfl; have x3 := HX6.out.at 3 _ rfl; have x4 := HX6.out.at 4 _ rfl; have x5 := HX6.out.at 5 _ rfl; have x6 := HX6.out.at 6 _ rfl; have x7 := HX6.out.at 7 _ rfl; have x8 := HX6.out.at 8 _ rfl; have fx := HX6.out.2.1; have zx := HX6.out.2.2)
    rw [set9_eq]
    have hkT : Kp (fun k => k = t8) w6 (w6.setCells t8 0 [.int .u64 y2.sz, .slice q2.A1 y2.ws.length q2.c1, .int .i64 y2.most, .slice q2.A2 y2.es.length q2.c2, .slice q2.A3 y2.ks.length q2.c3, .bool y2.on, .int .u64 y2.root, .int .i64 y2.asid, .slice q2.A4 y2.ps.length q2.c4]) := (Kp.refl (fun k => k = t8) w6).setCells (.inl rfl) 0 _
    have HX7 : Hid (Box (w6.setCells t8 0 [.int .u64 y2.sz, .slice q2.A1 y2.ws.length q2.c1, .int .i64 y2.most, .slice q2.A2 y2.es.length q2.c2, .slice q2.A3 y2.ks.length q2.c3, .bool y2.on, .int .u64 y2.root, .int .i64 y2.asid, .slice q2.A4 y2.ps.length q2.c4]) t8 (xC y2.sz y2.most y2.root y2.asid y2.on (.slice q2.A1 y2.ws.length q2.c1) (.slice q2.A2 y2.es.length q2.c2) (.slice q2.A3 y2.ks.length q2.c3) (.slice q2.A4 y2.ps.length q2.c4))) := HX6.out.put rfl
    have HT2 : Hid (¬ ((R t8 ∨ W5.heap.size ≤ t8) ∧ B3 t8)) := fun z => z.1.elim HT.out.2.1 (fun z => by have := HT5.out; omega)
    have HM7 := Lib.hid (HM6.out.own (hkT.mono (fun k e => by rw [e]; exact HS6.out t8 HT.out.1)))
    have HQ7 := Lib.hid (HQ6.out.kept hkT (fun k z e => HT2.out (e ▸ z)))
    have HP7 := Lib.hid (HP6.out.kept hkT (fun k z e => HT2.out (e ▸ z)))
    clear hkT HM5 HQ5 HP5 HX5 HOB CS HM6 HQ6 HP6 HX6 j0 j1 j2 j3 j4 j5 j6 j7 x0 x1 x2 x3 x4 x5 x6 x7 x8 fx zx
    generalize World.setCells w6 t8 0 _ = W7 at *
    have HN7 : Hid (y2.ws.length ≤ 60 + (i + 1)) := by have := HN6.out; have := HN.out; rw [Hid]; omega
    have C7 := Lib.hid (HM7.out.alike HQ7.out HI6.out (by have := HN7.out; omega))
    unfold yV xV at C7
    have x0 := HX7.out.at 0 _ rfl
    have x1 := HX7.out.at 1 _ rfl
    have x2 := HX7.out.at 2 _ rfl
    have x3 := HX7.out.at 3 _ rfl
    have x4 := HX7.out.at 4 _ rfl
    have x5 := HX7.out.at 5 _ rfl
    have x6 := HX7.out.at 6 _ rfl
    have x7 := HX7.out.at 7 _ rfl
    have x8 := HX7.out.at 8 _ rfl
    go_wp2_with (go_at_call 12; refine C7.out.mono ?_; rintro e w8 ⟨rfl, hb⟩; have HM8 := Lib.hid (HM7.out.below hb); have HQ8 := Lib.hid (HQ7.out.below hb); have HP8 := Lib.hid (HP7.out.below hb); have HX8 := Lib.hid (HX7.out.below hb); clear hb)
    go_roundw
    case rel => exact ⟨i + 1, y2, q2, pv2, _, B3, rfl, by first | rfl | go_num, by omega, HM8, HQ8, HP8, HI6, HN7, HX8, ⟨HS6.out t8 HT.out.1, HT2.out, fun k z => z.2⟩⟩
    case measure => simp [RowKit.intOf]; omega
   ·obtain rfl : i = O.length := by omega
    go_wp2
    go_ret
    exact ⟨rfl, HM.out.base⟩
end Go.Proofs.YtbapgngngaaojaaGreat
