/- The law's same: a machine has what the document's has. -/
import Derived.Test.YtbapgngngaaojaaGreatG25
import Derived.Test.YtbapgngngaaojaaGreatG26
import Derived.Test.YtbapgngngaaojaaGreatG38
set_option linter.unusedSimpArgs false
set_option linter.unusedVariables false
namespace Go.Proofs.YtbapgngngaaojaaGreat
open Go.RowKit Go.Lib
set_option maxRecDepth 100000
attribute [local go_sem high] eqA_RE eqA_RK
theorem or_root (root asid : Nat) (hr : Tb root) (ha : asid < 256) : (((root : Int) + (asid : Int) * 281474976710656) == bits BinOp.or IntKind.u64 (root : Int) (IntKind.u64.wrap (IntKind.u64.wrap (asid : Int) * 281474976710656))) = true := by
 have e1 : IntKind.u64.wrap (asid : Int) = asid := IntWalk.u64_in _ (by omega)
 have e2 : IntKind.u64.wrap ((asid : Int) * 281474976710656) = ((asid * 281474976710656 : Nat) : Int) := by
  rw [show (asid : Int) * 281474976710656 = ((asid * 281474976710656 : Nat) : Int) by omega]
  exact IntWalk.u64_in _ (by omega)
 rw [e1, e2, bits_or_u64_nat root (asid * 281474976710656) (by have := hr.1; omega) (by omega)]
 have e3 := or_sum (a := root) (b := asid) 48 hr.1
 rw [show (2 ^ 48 : Nat) = 281474976710656 from rfl] at e3
 rw [e3, beq_iff_eq]
 omega
set_option maxHeartbeats 3000000 in
theorem same_nat {x m pt pk sz most root asid : Nat} {pv : Value} {Fm Ft Fk : Nat → Prop} {y : Ys} {w : World} (h : MmuD x m pt pk pv Fm Ft Fk (y.st sz most root asid) w) (hws : WsOk sz y.ws) (hn : y.ws.length ≤ 999999) (A1 A2 A3 A4 : Option Addr) (n4 c1 c2 c3 c4 : Nat)
  (h1 : RdRow w (.slice A1 y.ws.length c1) y.ws.length (rowL wL y.ws)) (h2 : RdRow w (.slice A2 y.es.length c2) y.es.length (rowL eL y.es)) (h3 : RdRow w (.slice A3 y.ks.length c3) y.ks.length (rowL mL y.ks)) :
  Calls Tryz.prog 12 #[.pointer (some ⟨x, 0, none⟩), xV sz most root asid true (.slice A1 y.ws.length c1) (.slice A2 y.es.length c2) (.slice A3 y.ks.length c3) (.slice A4 n4 c4)] w fun e w' => e = .returned (.bool true) ∧ Below w.heap.size w w' := by
 obtain ⟨ws, es, ks⟩ := y
 unfold Ys.st at h
 dsimp only at *
 have hok := h.ok
 have hszle := hok.szle
 have hszal := hok.szal
 dsimp only at hszle hszal
 have C39 : Hid (∀ u, Below w.heap.size w u → Calls Tryz.prog 39 #[.pointer (some ⟨x, 0, none⟩)] u (ClonePost eL es u)) := fun u hb => mentries_nat (h.below hb)
 have C40 : Hid (∀ u, Below w.heap.size w u → Calls Tryz.prog 40 #[.pointer (some ⟨x, 0, none⟩)] u (ClonePost mL ks u)) := fun u hb => mmarks_nat (h.below hb)
 have C17 : Hid (∀ u, Below w.heap.size w u → Calls Tryz.prog 17 #[.pointer (some ⟨x, 0, none⟩)] u fun e w' => e = .returned (.bool (soundM ⟨sz, rdM ws, most, es, ks, some (root, asid)⟩)) ∧ Below u.heap.size u w') := fun u hb => msound_nat (h.below hb)
 have C41 : Hid (∀ u, Below w.heap.size w u → Calls Tryz.prog 41 #[.agg #[.int .u64 sz, .slice A1 ws.length c1, .int .i64 most, .slice A2 es.length c2, .slice A3 ks.length c3, .bool true, .int .u64 root, .int .i64 asid, .slice A4 n4 c4]] u fun e w' => e = .returned (.bool (soundM ⟨sz, rdM ws, most, es, ks, some (root, asid)⟩)) ∧ Below u.heap.size u w') := fun u hb =>
  rsound_nat sz most root asid ws es ks A1 A2 A3 A4 n4 c1 c2 c3 c4 u hok (by omega) hws.lt (h1.below hb) (h2.below hb) (h3.below hb)
 have C19 : Hid (∀ u, Below w.heap.size w u → Calls Tryz.prog 19 #[.pointer (some ⟨x, 0, none⟩)] u fun e w' => e = .returned (.pointer (some ⟨m, 0, none⟩)) ∧ w' = u) := fun u hb => mmemory_nat (h.below hb)
 have C42 : Hid (∀ u, Below w.heap.size w u → Calls Tryz.prog 42 #[.pointer (some ⟨m, 0, none⟩)] u fun e w' => e = .returned (.int .i64 ws.length) ∧ Below u.heap.size u w') := fun u hb => by
  have h9 := words_nat (h.below hb).mem hszle
  dsimp only at h9
  rw [words_len sz hszal ws hws] at h9
  exact h9
 have C22 : Hid (∀ s ∈ ws, ∀ u, Below w.heap.size w u → Calls Tryz.prog 22 #[.pointer (some ⟨m, 0, none⟩), .int .u64 s.1] u fun e w' => e = .returned (.tuple #[.int .u64 s.2, .int .i64 0]) ∧ w' = u) := fun s hs u hb => by
  have hq := hws.2 s hs
  have hlt : s.1 < 18446744073709551616 := by have := (mayP_ok hq.2.2).2; omega
  have h9 := read_nat (h.below hb).mem s.1 hlt
  unfold readP at h9
  dsimp only at h9
  rw [if_pos hq.2.2, hws.rd s hs] at h9
  exact h9
 have C43 : Hid (∀ u, Below w.heap.size w u → Calls Tryz.prog 43 #[.pointer (some ⟨x, 0, none⟩)] u fun e w' => e = .returned (.tuple #[.int .u64 (root + asid * 281474976710656 : Nat), .bool true]) ∧ Below u.heap.size u w') := fun u hb => mregister_nat (h.below hb)
 have HR := Lib.hid (hok.rok root asid rfl)
 have hel : es.length ≤ 1000 := by have := hok.el; have := hok.m64; dsimp only at *; omega
 have hkl : ks.length ≤ 1000 := by have := hok.kl; have := hok.m64; dsimp only at *; omega
 have HEL := Lib.hid hel
 have HKL := Lib.hid hkl
 have HN := Lib.hid hn
 have H1 := Lib.hid h1
 have H2 := Lib.hid h2
 have H3 := Lib.hid h3
 clear h hws hn h1 h2 h3 hok hszle hszal hel hkl
 generalize soundM ⟨sz, rdM ws, most, es, ks, some (root, asid)⟩ = SM at *
 unfold xV
 go_enter Tryz.func12, Tryz.ntmps12
 go_upto_region 1 with fail
 have HXB : Hid (Box (w.alloc (.cells #[.int .u64 sz, .slice A1 ws.length c1, .int .i64 most, .slice A2 es.length c2, .slice A3 ks.length c3, .bool true, .int .u64 root, .int .i64 asid, .slice A4 n4 c4] 36)) w.heap.size (xC sz most root asid true (.slice A1 ws.length c1) (.slice A2 es.length c2) (.slice A3 ks.length c3) (.slice A4 n4 c4))) := Box.new w (xC sz most root asid true (.slice A1 ws.length c1) (.slice A2 es.length c2) (.slice A3 ks.length c3) (.slice A4 n4 c4)) 36
 have HB0 : Hid (Below w.heap.size w (w.alloc (.cells #[.int .u64 sz, .slice A1 ws.length c1, .int .i64 most, .slice A2 es.length c2, .slice A3 ks.length c3, .bool true, .int .u64 root, .int .i64 asid, .slice A4 n4 c4] 36))) := below1 _ _
 generalize World.alloc w _ = W at *
 have hgz : w.heap.size < W.heap.size := HXB.out.2.2
 generalize hG : w.heap.size = G at *
 go_upto_region 2 with (first | (go_at_call 39; refine (C39.out _ HB0.out).mono ?_; rintro e w1 ⟨A5, c5, rfl, hrow, hb1⟩; have HB1 := Lib.hid (HB0.out.trans (hb1.mono (by omega))); have HR5 := Lib.hid hrow; have HXB1 := Lib.hid (HXB.out.below hb1); clear hrow hb1) | (go_at_call 40; refine (C40.out _ HB1.out).mono ?_; rintro e w2 ⟨A6, c6, rfl, hrow, hb2⟩; have hz2 : G ≤ w1.heap.size := Nat.le_of_lt HXB1.out.2.2; have HB2 := Lib.hid (HB1.out.trans (hb2.mono hz2)); have HR6 := Lib.hid hrow; have HR7 := Lib.hid (HR5.out.below hb2); have HXB2 := Lib.hid (HXB1.out.below hb2); clear hrow hb2 hz2))
 clear HB0 HB1 HR5 HXB HXB1 hgz
 have hgz : G < w2.heap.size := HXB2.out.2.2
 have BX := HXB2.out
 have x0 := BX.at 0 _ rfl
 have x1 := BX.at 1 _ rfl
 have x2 := BX.at 2 _ rfl
 have x3 := BX.at 3 _ rfl
 have x4 := BX.at 4 _ rfl
 have x5 := BX.at 5 _ rfl
 have x6 := BX.at 6 _ rfl
 have x7 := BX.at 7 _ rfl
 have x8 := BX.at 8 _ rfl
 clear BX
 go_cut [51] (fun v wx => v = .bool false ∧ Hid (Below w2.heap.size w2 wx))
 case first =>
  have hC : CtxB w2 w2 := Below.refl _ _
  have hz2 : G ≤ w2.heap.size := Nat.le_of_lt hgz
  have SK : Hid (∀ u, CtxB w2 u → u.cell? ⟨G, 0, none⟩ = some (.int .u64 sz) ∧ u.cell? ⟨G, 1, none⟩ = some (.slice A1 ws.length c1) ∧ u.cell? ⟨G, 2, none⟩ = some (.int .i64 most) ∧ u.cell? ⟨G, 3, none⟩ = some (.slice A2 es.length c2) ∧ u.cell? ⟨G, 4, none⟩ = some (.slice A3 ks.length c3) ∧ u.cell? ⟨G, 5, none⟩ = some (.bool true) ∧ u.cell? ⟨G, 6, none⟩ = some (.int .u64 root) ∧ u.cell? ⟨G, 7, none⟩ = some (.int .i64 asid) ∧ u.cell? ⟨G, 8, none⟩ = some (.slice A4 n4 c4) ∧ CtxB w2 u) := fun u h => ⟨keep_cell h.out x0, keep_cell h.out x1, keep_cell h.out x2, keep_cell h.out x3, keep_cell h.out x4, keep_cell h.out x5, keep_cell h.out x6, keep_cell h.out x7, keep_cell h.out x8, h⟩
  go_region_held3 (fun u => u.cell? ⟨G, 0, none⟩ = some (.int .u64 sz) ∧ u.cell? ⟨G, 1, none⟩ = some (.slice A1 ws.length c1) ∧ u.cell? ⟨G, 2, none⟩ = some (.int .i64 most) ∧ u.cell? ⟨G, 3, none⟩ = some (.slice A2 es.length c2) ∧ u.cell? ⟨G, 4, none⟩ = some (.slice A3 ks.length c3) ∧ u.cell? ⟨G, 5, none⟩ = some (.bool true) ∧ u.cell? ⟨G, 6, none⟩ = some (.int .u64 root) ∧ u.cell? ⟨G, 7, none⟩ = some (.int .i64 asid) ∧ u.cell? ⟨G, 8, none⟩ = some (.slice A4 n4 c4) ∧ CtxB w2 u)
   (first | with_reducible assumption | ((try dsimp only); refine SK.out _ ?_; (first | with_reducible exact hC5 | with_reducible exact hC.drew)))
   (first | (go_at_call 17; refine (C17.out _ (by first | exact HB2.out.drew | exact HB2.out.trans ((CtxB.out hC5).mono hz2) | (go_split_ands; exact HB2.out.trans ((CtxB.out (by assumption)).mono hz2)))).mono ?_; rintro e w5 ⟨rfl, hb5⟩; have hC5 : CtxB w2 w5 := (by first | exact CtxB.next hC.drew hb5 | exact CtxB.next hC5 hb5 | (go_split_ands; exact CtxB.next (by assumption) hb5))) | (go_at_call 41; refine (C41.out _ (by first | exact HB2.out.drew | exact HB2.out.trans ((CtxB.out hC5).mono hz2) | (go_split_ands; exact HB2.out.trans ((CtxB.out (by assumption)).mono hz2)))).mono ?_; rintro e w5 ⟨rfl, hb5⟩; have hC5 : CtxB w2 w5 := (by first | exact CtxB.next hC.drew hb5 | exact CtxB.next hC5 hb5 | (go_split_ands; exact CtxB.next (by assumption) hb5))) | (go_at_call 42; refine (C42.out _ (by first | exact HB2.out.drew | exact HB2.out.trans ((CtxB.out hC5).mono hz2) | (go_split_ands; exact HB2.out.trans ((CtxB.out (by assumption)).mono hz2)))).mono ?_; rintro e w5 ⟨rfl, hb5⟩; have hC5 : CtxB w2 w5 := (by first | exact CtxB.next hC.drew hb5 | exact CtxB.next hC5 hb5 | (go_split_ands; exact CtxB.next (by assumption) hb5))) | (go_at_call 19; refine (C19.out _ (by first | exact HB2.out.trans ((CtxB.out hC5).mono hz2) | exact HB2.out.drew)).mono ?_; rintro e w6 ⟨rfl, rfl⟩))
  all_goals
   go_split_ands
   have HBX : Hid (Below w2.heap.size w2 w5) := CtxB.out (by assumption)
   go_wp2_with fail
   go_meet
   exact ⟨rfl, HBX⟩
 case rest =>
  obtain ⟨rfl, HBC⟩ := hcut
  have HXC := Lib.hid (HXB2.out.below HBC.out)
  have HBW : Hid (Below G w wc) := HB2.out.trans (HBC.out.mono (Nat.le_of_lt hgz))
  have HE := Lib.hid (HR7.out.below HBC.out)
  have HK := Lib.hid (HR6.out.below HBC.out)
  clear x0 x1 x2 x3 x4 x5 x6 x7 x8 HB2 HR6 HR7 HXB2 hgz HBC C39 C40 C17 C41 C42
  have hgc : G < wc.heap.size := HXC.out.2.2
  go_wp2
  go_loopw [54] (fun iv wr => ∃ i : Nat, iv = .int .i64 i ∧ i ≤ es.length ∧ Hid (Below wc.heap.size wc wr)) (fun iv _ => es.length - (RowKit.intOf iv).toNat)
  case atStart => exact ⟨0, rfl, by omega, Below.refl _ _⟩
  case round =>
   obtain ⟨i, rfl, hi, HB⟩ := hrel
   have hel2 : es.length ≤ 1000 := HEL.out
   have HWR : Hid (Below G w wr) := HBW.out.trans (HB.out.mono (Nat.le_of_lt hgc))
   by_cases hlt : i < es.length
   ·obtain ⟨g, o, rfl, hr⟩ := HE.out.get (by omega)
    have hrng : wr.rangeAt g o (rowL eL es) := fun j v hj => keep_cell HB.out (hr j v hj)
    obtain ⟨g2, o2, rfl, hr2⟩ := H2.out.get (by omega)
    have hrng2 : wr.rangeAt g2 o2 (rowL eL es) := fun j v hj => keep_cell (by rw [hG]; exact HWR.out) (hr2 j v hj)
    have k0 := row_at0 eL_len hrng i hlt _ rfl
    have k1 := row_at eL_len hrng i hlt 1 _ rfl
    have k2 := row_at eL_len hrng i hlt 2 _ rfl
    have k3 := row_at eL_len hrng i hlt 3 _ rfl
    have k4 := row_at eL_len hrng i hlt 4 _ rfl
    have k5 := row_at eL_len hrng i hlt 5 _ rfl
    have k6 := row_at eL_len hrng i hlt 6 _ rfl
    have k7 := row_at eL_len hrng i hlt 7 _ rfl
    have k8 := row_at eL_len hrng i hlt 8 _ rfl
    have k9 := row_at eL_len hrng i hlt 9 _ rfl
    have q0 := row_at0 eL_len hrng2 i hlt _ rfl
    have q1 := row_at eL_len hrng2 i hlt 1 _ rfl
    have q2 := row_at eL_len hrng2 i hlt 2 _ rfl
    have q3 := row_at eL_len hrng2 i hlt 3 _ rfl
    have q4 := row_at eL_len hrng2 i hlt 4 _ rfl
    have q5 := row_at eL_len hrng2 i hlt 5 _ rfl
    have q6 := row_at eL_len hrng2 i hlt 6 _ rfl
    have q7 := row_at eL_len hrng2 i hlt 7 _ rfl
    have q8 := row_at eL_len hrng2 i hlt 8 _ rfl
    have q9 := row_at eL_len hrng2 i hlt 9 _ rfl
    have x3 := (HXC.out.below HB.out).at 3 _ rfl
    have xz := (HXC.out.below HB.out).2.2
    have i1 : (0 : Int) ≤ (i : Int) := by omega
    have i2 : (i : Int) < (es.length : Int) := by omega
    clear hrng hr hrng2 hr2
    generalize es[i] = y at *
    obtain ⟨ya, yv, yl, ⟨yk, yo, y1, y2, y3, y4, yt⟩⟩ := y
    dsimp only at k0 k1 k2 k3 k4 k5 k6 k7 k8 k9 q0 q1 q2 q3 q4 q5 q6 q7 q8 q9
    have gz : g < wr.heap.size := World.block_lt_of_cell? wr _ k0
    have gz2 : g2 < wr.heap.size := World.block_lt_of_cell? wr _ q0
    go_wp2_with fail
    go_quiet (fail)
    go_wp2
    go_roundw
    case rel => exact ⟨i + 1, by first | rfl | go_num, by omega, below_drewN (HB.out.alloc HB.out.size _) _⟩
    case measure => simp [RowKit.intOf]; omega
   ·clear HE HWR
    go_wp2
    go_loopw [77] (fun iv wq => ∃ i : Nat, iv = .int .i64 i ∧ i ≤ ks.length ∧ Hid (Below wc.heap.size wc wq)) (fun iv _ => ks.length - (RowKit.intOf iv).toNat)
    case atStart => exact ⟨0, rfl, by omega, HB⟩
    case round =>
     clear HB hi hlt
     obtain ⟨j, rfl, hj, HB⟩ := hrel
     have hkl2 : ks.length ≤ 1000 := HKL.out
     have HWR : Hid (Below G w wr) := HBW.out.trans (HB.out.mono (Nat.le_of_lt hgc))
     by_cases hlt : j < ks.length
     ·obtain ⟨g, o, rfl, hr⟩ := HK.out.get (by omega)
      have hrng : wr.rangeAt g o (rowL mL ks) := fun j v hj => keep_cell HB.out (hr j v hj)
      obtain ⟨g2, o2, rfl, hr2⟩ := H3.out.get (by omega)
      have hrng2 : wr.rangeAt g2 o2 (rowL mL ks) := fun j v hj => keep_cell (by rw [hG]; exact HWR.out) (hr2 j v hj)
      have k0 := row_at0 mL_len hrng j hlt _ rfl
      have k1 := row_at mL_len hrng j hlt 1 _ rfl
      have k2 := row_at mL_len hrng j hlt 2 _ rfl
      have k3 := row_at mL_len hrng j hlt 3 _ rfl
      have q0 := row_at0 mL_len hrng2 j hlt _ rfl
      have q1 := row_at mL_len hrng2 j hlt 1 _ rfl
      have q2 := row_at mL_len hrng2 j hlt 2 _ rfl
      have q3 := row_at mL_len hrng2 j hlt 3 _ rfl
      have x4 := (HXC.out.below HB.out).at 4 _ rfl
      have xz := (HXC.out.below HB.out).2.2
      have i1 : (0 : Int) ≤ (j : Int) := by omega
      have i2 : (j : Int) < (ks.length : Int) := by omega
      clear hrng hr hrng2 hr2
      generalize ks[j] = y at *
      obtain ⟨ya, yv, yl, yt⟩ := y
      dsimp only at k0 k1 k2 k3 q0 q1 q2 q3
      have gz : g < wr.heap.size := World.block_lt_of_cell? wr _ k0
      have gz2 : g2 < wr.heap.size := World.block_lt_of_cell? wr _ q0
      go_wp2_with fail
      go_quiet (fail)
      go_wp2
      go_roundw
      case rel => exact ⟨j + 1, by first | rfl | go_num, by omega, below_drewN (HB.out.alloc HB.out.size _) _⟩
      case measure => simp [RowKit.intOf]; omega
     ·clear HK HWR
      have x1 := (HXC.out.below HB.out).at 1 _ rfl
      have xz := (HXC.out.below HB.out).2.2
      go_wp2
      clear x1 xz
      go_loopw [94] (fun iv wq => ∃ i : Nat, iv = .int .i64 i ∧ i ≤ ws.length ∧ Hid (Below wc.heap.size wc wq)) (fun iv _ => ws.length - (RowKit.intOf iv).toNat)
      case atStart => exact ⟨0, rfl, by omega, HB⟩
      case round =>
       clear HB hj hlt
       obtain ⟨n, rfl, hnn, HB⟩ := hrel
       have hnl2 : ws.length ≤ 999999 := HN.out
       have HWR : Hid (Below G w wr) := HBW.out.trans (HB.out.mono (Nat.le_of_lt hgc))
       by_cases hlt : n < ws.length
       ·obtain ⟨g2, o2, rfl, hr2⟩ := H1.out.get (by omega)
        have hrng2 : wr.rangeAt g2 o2 (rowL wL ws) := fun j v hj => keep_cell (by rw [hG]; exact HWR.out) (hr2 j v hj)
        have q0 := row_at0 wL_len hrng2 n hlt _ rfl
        have q1 := row_at wL_len hrng2 n hlt 1 _ rfl
        have i1 : (0 : Int) ≤ (n : Int) := by omega
        have i2 : (n : Int) < (ws.length : Int) := by omega
        have D22 := Lib.hid (C22.out ws[n] (List.getElem_mem hlt))
        clear hrng2 hr2
        have gz2 : g2 < wr.heap.size := World.block_lt_of_cell? wr _ q0
        generalize ws[n] = y at *
        obtain ⟨ya, yx⟩ := y
        dsimp only at q0 q1 D22
        have HWA := Lib.hid (HWR.out.alloc (Nat.le_trans (Nat.le_of_lt hgc) HB.out.size) (.cells #[.int .u64 ya, .int .u64 yx] 123))
        go_wp2_with fail
        go_quiet (first | (go_at_call 19; exact Calls.quiet_of_same (C19.out _ (by first | exact HWA.out | exact HWA.out.drew | exact below_drewN HWA.out _))) | (go_at_call 22; exact Calls.quiet_of_same (D22.out _ (by first | exact HWA.out | exact HWA.out.drew | exact below_drewN HWA.out _))))
        go_wp2
        go_roundw
        case rel => exact ⟨n + 1, by first | rfl | go_num, by omega, below_drewN (HB.out.alloc HB.out.size _) _⟩
        case measure => simp [RowKit.intOf]; omega
       ·have D43 := Lib.hid (C43.out wr HWR.out)
        go_upto_region 24 with (go_at_call 43; refine D43.out.mono ?_; rintro e w9 ⟨rfl, hb9⟩; have HB9 := Lib.hid (HB.out.trans (hb9.mono HB.out.size)); clear hb9)
        have BX := HXC.out.below HB9.out
        have x4 := BX.at 4 _ rfl
        have x5 := BX.at 5 _ rfl
        have x6 := BX.at 6 _ rfl
        have x7 := BX.at 7 _ rfl
        have xz := BX.2.2
        clear BX
        have hor := or_root root asid HR.out.1 HR.out.2
        go_wp2
        go_ret
        exact ⟨rfl, hG ▸ HBW.out.trans (HB9.out.mono (Nat.le_of_lt hgc))⟩
end Go.Proofs.YtbapgngngaaojaaGreat
