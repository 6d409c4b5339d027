/- The walk of the ninth reference's Sound, where the machine is on: soundM. -/
import Derived.Test.YtbapgngngaaojaaGreatG37
import Derived.Test.YtbapgngngaaojaaGreatG25
set_option linter.unusedSimpArgs false
set_option linter.unusedVariables false
namespace Go.Proofs.YtbapgngngaaojaaGreat
open Go.RowKit Go.Lib
set_option maxRecDepth 100000
attribute [local go_sem high] eqA_RD
theorem dd_eq (xk xo xt yk yo yt : Nat) (x1 x2 x3 x4 y1 y2 y3 y4 : Bool) : ((xk : Int) == (yk : Int) && ((xo : Int) == (yo : Int) && (x1 == y1 && (x2 == y2 && (x3 == y3 && (x4 == y4 && ((xt : Int) == (yt : Int))))))))
  = decide ((⟨xk, xo, x1, x2, x3, x4, xt⟩ : Dd) = ⟨yk, yo, y1, y2, y3, y4, yt⟩) := by
 rw [Bool.eq_iff_iff]
 simp [Int.ofNat_inj]
set_option maxHeartbeats 3000000 in
theorem rsound_nat (sz most root asid : Nat) (ws : List (Nat × Nat)) (es : List Ent) (ks : List Mk) (A1 A2 A3 A4 : Option Addr) (n4 c1 c2 c3 c4 : Nat) (w : World) (hs : OkSt ⟨sz, rdM ws, most, es, ks, some (root, asid)⟩) (hn : ws.length ≤ 1000000) (hws : ∀ a, rdM ws a < 18446744073709551616)
  (h1 : RdRow w (.slice A1 ws.length c1) ws.length (rowL wL ws)) (h2 : RdRow w (.slice A2 es.length c2) es.length (rowL eL es)) (h3 : RdRow w (.slice A3 ks.length c3) ks.length (rowL mL ks)) :
  Calls Tryz.prog 41 #[xV sz most root asid true (.slice A1 ws.length c1) (.slice A2 es.length c2) (.slice A3 ks.length c3) (.slice A4 n4 c4)] w fun e w' => e = .returned (.bool (soundM ⟨sz, rdM ws, most, es, ks, some (root, asid)⟩)) ∧ Below w.heap.size w w' := by
 have ht := (hs.rok root asid rfl).1
 have hsz : sz < 9223372036854775808 := by have := hs.szle; dsimp only at this; omega
 have hel : es.length ≤ 1000 := by have := hs.el; have := hs.m64; dsimp only at *; omega
 have hkl : ks.length ≤ 1000 := by have := hs.kl; have := hs.m64; dsimp only at *; omega
 have C3 : Hid (∀ va : Nat, va < 18446744073709551616 → ∀ u, Below w.heap.size w u → Calls Tryz.prog 83 #[.agg #[.int .u64 sz, .slice A1 ws.length c1], .int .i64 0, .int .u64 root, .int .u64 va] u (RFromPost (fromP sz (rdM ws) 0 root va) u)) := fun va hv u hb =>
  rfrom_nat sz 0 root va ws A1 c1 u (by omega) ht hv hn hws hsz (h1.below hb)
 have C4 : Hid (∀ va level : Nat, va < 18446744073709551616 → level ≤ 3 → ∀ u, Below w.heap.size w u → Calls Tryz.prog 89 #[.agg #[.int .u64 sz, .slice A1 ws.length c1, .int .i64 most, .slice A2 es.length c2, .slice A3 ks.length c3, .bool true, .int .u64 root, .int .i64 asid, .slice A4 n4 c4], .int .u64 va, .int .i64 level] u fun e w' => e = .returned (.tuple #[.int .u64 (tableM ⟨sz, rdM ws, most, es, ks, some (root, asid)⟩ root va level).1, .bool (tableM ⟨sz, rdM ws, most, es, ks, some (root, asid)⟩ root va level).2]) ∧ Below u.heap.size u w') := fun va level hv hl u hb =>
  rtable_nat sz most root asid va level true ws A1 A2 A3 A4 es.length ks.length n4 c1 c2 c3 c4 u ht hl hv hn hws hsz (h1.below hb)
 have HEV : Hid (∀ e ∈ es, e.va < 18446744073709551616) := fun e he => by have := (hs.eok e he).2.2.2.1; omega
 have HKV : Hid (∀ k ∈ ks, k.va < 18446744073709551616 ∧ k.level ≤ 3) := fun k hk => ⟨by have := (hs.kok k hk).2.2.2.1; omega, (hs.kok k hk).2.2.1⟩
 obtain ⟨R, hR⟩ : ∃ R, soundM ⟨sz, rdM ws, most, es, ks, some (root, asid)⟩ = R := ⟨_, rfl⟩
 rw [hR]
 unfold soundM at hR
 dsimp only at hR
 have HBE : Hid (∀ e, badE ⟨sz, rdM ws, most, es, ks, some (root, asid)⟩ root asid e = (decide (e.asid = asid) && (decide ((fromP sz (rdM ws) 0 root e.va).f.1 ≠ 0) || (decide ((fromP sz (rdM ws) 0 root e.va).level ≠ e.level) || !decide ((fromP sz (rdM ws) 0 root e.va).d = e.d))))) := fun e => by
  unfold badE
  have hf := fromP_f sz (rdM ws) 0 root e.va
  dsimp only
  generalize fromP sz (rdM ws) 0 root e.va = F at *
  by_cases h0 : F.f.1 = 0
  ·rw [hf h0]
   by_cases h1 : F.level = e.level <;> by_cases h2 : F.d = e.d <;> simp [h1, h2]
  ·have h2 : F.f ≠ (0, 0) := fun h => h0 (by rw [h])
   simp [h0, h2]
 have HBK : Hid (∀ k, badK ⟨sz, rdM ws, most, es, ks, some (root, asid)⟩ root asid k = (decide (k.asid = asid) && (!(tableM ⟨sz, rdM ws, most, es, ks, some (root, asid)⟩ root k.va k.level).2 || decide ((tableM ⟨sz, rdM ws, most, es, ks, some (root, asid)⟩ root k.va k.level).1 ≠ k.table)))) := fun k => rfl
 generalize badE ⟨sz, rdM ws, most, es, ks, some (root, asid)⟩ root asid = BE at *
 generalize badK ⟨sz, rdM ws, most, es, ks, some (root, asid)⟩ root asid = BK at *
 generalize tableM ⟨sz, rdM ws, most, es, ks, some (root, asid)⟩ root = TM at *
 have HBadE : Hid (∀ i (hi : i < es.length), BE es[i] = true → false = R) := fun i hi h => by
  rw [← hR, show es.any BE = true from List.any_eq_true.2 ⟨_, List.getElem_mem hi, h⟩]; rfl
 have HBadK : Hid (∀ i (hi : i < ks.length), BK ks[i] = true → false = R) := fun i hi h => by
  rw [← hR, show ks.any BK = true from List.any_eq_true.2 ⟨_, List.getElem_mem hi, h⟩]; simp
 have HGood : Hid ((∀ i (hi : i < es.length), BE es[i] = false) → (∀ i (hi : i < ks.length), BK ks[i] = false) → true = R) := fun h4 h5 => by
  have a1 : es.any BE = false := List.any_eq_false.2 fun y hy => by obtain ⟨j, hj, e⟩ := List.getElem_of_mem hy; rw [← e, h4 j hj]; simp
  have a2 : ks.any BK = false := List.any_eq_false.2 fun y hy => by obtain ⟨j, hj, e⟩ := List.getElem_of_mem hy; rw [← e, h5 j hj]; simp
  rw [← hR, a1, a2]; rfl
 have H2 := Lib.hid h2
 have H3 := Lib.hid h3
 have HEL := Lib.hid hel
 have HKL := Lib.hid hkl
 clear h1 h2 h3 hs hn hws hsz ht hel hkl hR
 unfold xV
 go_enter Tryz.func41, Tryz.ntmps41
 go_upto_region 1 with fail
 have HXB : Hid (Box (w.alloc (.cells #[.int .u64 sz, .slice A1 ws.length c1, .int .i64 most, .slice A2 es.length c2, .slice A3 ks.length c3, .bool true, .int .u64 root, .int .i64 asid, .slice A4 n4 c4] 36)) w.heap.size (xC sz most root asid true (.slice A1 ws.length c1) (.slice A2 es.length c2) (.slice A3 ks.length c3) (.slice A4 n4 c4))) := Box.new w (xC sz most root asid true (.slice A1 ws.length c1) (.slice A2 es.length c2) (.slice A3 ks.length c3) (.slice A4 n4 c4)) 36
 have HB0 : Hid (Below w.heap.size w (w.alloc (.cells #[.int .u64 sz, .slice A1 ws.length c1, .int .i64 most, .slice A2 es.length c2, .slice A3 ks.length c3, .bool true, .int .u64 root, .int .i64 asid, .slice A4 n4 c4] 36))) := below1 _ _
 generalize World.alloc w _ = W at *
 have x5 := HXB.out.at 5 _ rfl
 go_wp2
 go_loopw [3] (fun iv wr => ∃ i : Nat, iv = .int .i64 i ∧ i ≤ es.length ∧ Hid (∀ j (hj : j < es.length), j < i → BE es[j] = false) ∧ Hid (Below W.heap.size W wr)) (fun iv _ => es.length - (RowKit.intOf iv).toNat)
 case atStart => exact ⟨0, rfl, by omega, fun j hj h => by omega, Below.refl _ _⟩
 case round =>
  obtain ⟨i, rfl, hi, HALL, HB⟩ := hrel
  have hel2 : es.length ≤ 1000 := HEL.out
  have BX := HXB.out.below HB.out
  have x0 := BX.at 0 _ rfl
  have x1 := BX.at 1 _ rfl
  have x2 := BX.at 2 _ rfl
  have x3 := BX.at 3 _ rfl
  have x4 := BX.at 4 _ rfl
  have x5 := BX.at 5 _ rfl
  have x6 := BX.at 6 _ rfl
  have x7 := BX.at 7 _ rfl
  have x8 := BX.at 8 _ rfl
  have zx := BX.2.2
  have HWR : Hid (Below w.heap.size w wr) := HB0.out.trans (HB.out.mono HB0.out.size)
  by_cases hlt : i < es.length
  ·obtain ⟨g, o, rfl, hr⟩ := H2.out.get (by omega)
   have hrng : wr.rangeAt g o (rowL eL es) := fun j v hj => keep_cell HWR.out (hr j v hj)
   have k0 := row_at0 eL_len hrng i hlt _ rfl
   have k1 := row_at eL_len hrng i hlt 1 _ rfl
   have k2 := row_at eL_len hrng i hlt 2 _ rfl
   have k3 := row_at eL_len hrng i hlt 3 _ rfl
   have k4 := row_at eL_len hrng i hlt 4 _ rfl
   have k5 := row_at eL_len hrng i hlt 5 _ rfl
   have k6 := row_at eL_len hrng i hlt 6 _ rfl
   have k7 := row_at eL_len hrng i hlt 7 _ rfl
   have k8 := row_at eL_len hrng i hlt 8 _ rfl
   have k9 := row_at eL_len hrng i hlt 9 _ rfl
   have D3 := Lib.hid (C3.out es[i].va (HEV.out _ (List.getElem_mem hlt)))
   have HBi := Lib.hid (HBE.out es[i])
   have HBad := Lib.hid (HBadE.out i hlt)
   clear hrng hr BX
   generalize hx : es[i] = y at *
   have HX2 := Lib.hid hx
   clear hx
   obtain ⟨ya, yv, yl, ⟨yk, yo, y1, y2, y3, y4, yt⟩⟩ := y
   dsimp only at k0 k1 k2 k3 k4 k5 k6 k7 k8 k9 D3
   generalize fromP sz (rdM ws) 0 root yv = F at *
   obtain ⟨Fl, ⟨Fk, Fo, F1, F2, F3, F4, Ft⟩, ⟨f1, f2⟩, Fs⟩ := F
   go_upto_region 8 with (go_at_call 83; refine (D3.out _ (HWR.out.alloc HWR.out.size _)).mono ?_; rintro e w5 ⟨A5, c5, rfl, -, hb5⟩; dsimp only [lV]; have HBW5 := Lib.hid hb5; clear hb5)
   have HEB : Hid (Box w5 wr.heap.size (eL ⟨ya, yv, yl, ⟨yk, yo, y1, y2, y3, y4, yt⟩⟩)) := (Box.new wr (eL ⟨ya, yv, yl, ⟨yk, yo, y1, y2, y3, y4, yt⟩⟩) 101).below HBW5.out
   have HLB : Hid (Box (w5.alloc (.cells #[.int .i64 Fl, .int .i64 Fk, .int .u64 Fo, .bool F1, .bool F2, .bool F3, .bool F4, .int .i64 Ft, .int .i64 f1, .int .i64 f2, .slice A5 Fs.length c5] 106)) w5.heap.size (lC Fl ⟨Fk, Fo, F1, F2, F3, F4, Ft⟩ (f1, f2) (.slice A5 Fs.length c5))) := Box.new w5 (lC Fl ⟨Fk, Fo, F1, F2, F3, F4, Ft⟩ (f1, f2) (.slice A5 Fs.length c5)) 106
   have HB5 : Hid (Below W.heap.size W w5) := (HB.out.alloc HB.out.size _).trans (HBW5.out.mono (HB.out.alloc HB.out.size _).size)
   replace HEB := Lib.hid (HEB.out.below (below1 w5 (.cells #[.int .i64 Fl, .int .i64 Fk, .int .u64 Fo, .bool F1, .bool F2, .bool F3, .bool F4, .int .i64 Ft, .int .i64 f1, .int .i64 f2, .slice A5 Fs.length c5] 106)))
   have HBV : Hid (Below W.heap.size W (w5.alloc (.cells #[.int .i64 Fl, .int .i64 Fk, .int .u64 Fo, .bool F1, .bool F2, .bool F3, .bool F4, .int .i64 Ft, .int .i64 f1, .int .i64 f2, .slice A5 Fs.length c5] 106))) := HB5.out.alloc HB5.out.size _
   generalize World.alloc w5 _ = V at *
   clear x0 x1 x2 x3 x4 x5 x6 x7 x8 zx k0 k1 k2 k3 k4 k5 k6 k7 k8 k9 HB5 HBW5 HB D3
   have BV := HXB.out.below HBV.out
   have x7 := BV.at 7 _ rfl
   have BE1 := HEB.out
   have e0 := BE1.at 0 _ rfl
   have e2 := BE1.at 2 _ rfl
   have e3 := BE1.at 3 _ rfl
   have e4 := BE1.at 4 _ rfl
   have e5 := BE1.at 5 _ rfl
   have e6 := BE1.at 6 _ rfl
   have e7 := BE1.at 7 _ rfl
   have e8 := BE1.at 8 _ rfl
   have e9 := BE1.at 9 _ rfl
   have BL := HLB.out
   have l0 := BL.at 0 _ rfl
   have l1 := BL.at 1 _ rfl
   have l2 := BL.at 2 _ rfl
   have l3 := BL.at 3 _ rfl
   have l4 := BL.at 4 _ rfl
   have l5 := BL.at 5 _ rfl
   have l6 := BL.at 6 _ rfl
   have l7 := BL.at 7 _ rfl
   have l8 := BL.at 8 _ rfl
   clear BV BE1 BL
   have hB := dd_eq Fk Fo Ft yk yo yt F1 F2 F3 F4 y1 y2 y3 y4
   have hbi := HBi.out
   dsimp only at hbi
   by_cases a1 : ya = asid
   ·have d1 : ((ya : Int) == (asid : Int)) = true := by simp; omega
    rw [decide_eq_true a1] at hbi
    by_cases a2 : f1 = 0
    ·have d2 : ((f1 : Int) != 0) = false := by simp; omega
     rw [decide_eq_false (show ¬ f1 ≠ 0 from fun h => h a2)] at hbi
     by_cases a3 : Fl = yl
     ·have d3 : ((Fl : Int) != (yl : Int)) = false := by simp; omega
      rw [decide_eq_false (show ¬ Fl ≠ yl from fun h => h a3)] at hbi
      by_cases a4 : (⟨Fk, Fo, F1, F2, F3, F4, Ft⟩ : Dd) = ⟨yk, yo, y1, y2, y3, y4, yt⟩
      ·rw [decide_eq_true a4] at hbi hB
       clear a1 a2 a3 a4
       have HBI : Hid (BE ⟨ya, yv, yl, ⟨yk, yo, y1, y2, y3, y4, yt⟩⟩ = false) := by rw [Hid, hbi]; rfl
       clear hbi
       go_wp2
       go_roundw
       case rel => exact ⟨i + 1, by first | rfl | go_num, by omega, fun j hj h => by
        by_cases e : j = i
        ·subst e; rw [HX2.out]; exact HBI.out
        ·exact HALL.out j hj (by omega), HBV⟩
       case measure => simp [RowKit.intOf]; omega
      ·rw [decide_eq_false a4] at hbi hB
       clear a1 a2 a3 a4
       have HQ := Lib.hid (HBad.out (by rw [hbi]; rfl))
       clear hbi
       go_wp2
       go_ret
       exact ⟨by rw [← HQ.out]; rfl, HB0.out.trans (HBV.out.mono HB0.out.size)⟩
     ·have d3 : ((Fl : Int) != (yl : Int)) = true := by simp; omega
      rw [decide_eq_true (show Fl ≠ yl from a3)] at hbi
      clear a1 a2 a3 hB
      have HQ := Lib.hid (HBad.out (by rw [hbi]; rfl))
      clear hbi
      go_wp2
      go_ret
      exact ⟨by rw [← HQ.out]; rfl, HB0.out.trans (HBV.out.mono HB0.out.size)⟩
    ·have d2 : ((f1 : Int) != 0) = true := by simp; omega
     rw [decide_eq_true (show f1 ≠ 0 from a2)] at hbi
     clear a1 a2 hB
     have HQ := Lib.hid (HBad.out (by rw [hbi]; rfl))
     clear hbi
     go_wp2
     go_ret
     exact ⟨by rw [← HQ.out]; rfl, HB0.out.trans (HBV.out.mono HB0.out.size)⟩
   ·have d1 : ((ya : Int) == (asid : Int)) = false := by simp; omega
    rw [decide_eq_false a1] at hbi
    clear a1 hB
    have HBI : Hid (BE ⟨ya, yv, yl, ⟨yk, yo, y1, y2, y3, y4, yt⟩⟩ = false) := by rw [Hid, hbi]; rfl
    clear hbi
    go_wp2
    go_roundw
    case rel => exact ⟨i + 1, by first | rfl | go_num, by omega, fun j hj h => by
     by_cases e : j = i
     ·subst e; rw [HX2.out]; exact HBI.out
     ·exact HALL.out j hj (by omega), HBV⟩
    case measure => simp [RowKit.intOf]; omega
  ·go_wp2
   have HALLE : Hid (∀ j (hj : j < es.length), BE es[j] = false) := fun j hj => HALL.out j hj (by omega)
   clear HALL x0 x1 x2 x3 x4 x5 x6 x7 x8 zx BX HWR
   go_loopw [6] (fun iv wq => ∃ i : Nat, iv = .int .i64 i ∧ i ≤ ks.length ∧ Hid (∀ j (hj : j < ks.length), j < i → BK ks[j] = false) ∧ Hid (Below W.heap.size W wq)) (fun iv _ => ks.length - (RowKit.intOf iv).toNat)
   case atStart => exact ⟨0, rfl, by omega, fun j hj h => by omega, HB⟩
   case round =>
    obtain ⟨m, rfl, hm, HALK, HBq⟩ := hrel
    have hkl2 : ks.length ≤ 1000 := HKL.out
    have BX := HXB.out.below HBq.out
    have x0 := BX.at 0 _ rfl
    have x1 := BX.at 1 _ rfl
    have x2 := BX.at 2 _ rfl
    have x3 := BX.at 3 _ rfl
    have x4 := BX.at 4 _ rfl
    have x5 := BX.at 5 _ rfl
    have x6 := BX.at 6 _ rfl
    have x7 := BX.at 7 _ rfl
    have x8 := BX.at 8 _ rfl
    have zx := BX.2.2
    have HWQ : Hid (Below w.heap.size w wr) := HB0.out.trans (HBq.out.mono HB0.out.size)
    by_cases hlt : m < ks.length
    ·obtain ⟨g, o, rfl, hr⟩ := H3.out.get (by omega)
     have hrng : wr.rangeAt g o (rowL mL ks) := fun j v hj => keep_cell HWQ.out (hr j v hj)
     have k0 := row_at0 mL_len hrng m hlt _ rfl
     have k1 := row_at mL_len hrng m hlt 1 _ rfl
     have k2 := row_at mL_len hrng m hlt 2 _ rfl
     have k3 := row_at mL_len hrng m hlt 3 _ rfl
     have D4 := Lib.hid (C4.out ks[m].va ks[m].level (HKV.out _ (List.getElem_mem hlt)).1 (HKV.out _ (List.getElem_mem hlt)).2)
     have HBi := Lib.hid (HBK.out ks[m])
     have HBad := Lib.hid (HBadK.out m hlt)
     clear hrng hr BX
     generalize hx : ks[m] = y at *
     have HX2 := Lib.hid hx
     clear hx
     obtain ⟨ya, yv, yl, yt⟩ := y
     dsimp only at k0 k1 k2 k3 D4
     generalize TM yv yl = T at *
     obtain ⟨Ta, Tb2⟩ := T
     have i1 : (0 : Int) ≤ (m : Int) := by omega
     have i2 : (m : Int) < (ks.length : Int) := by omega
     go_upto_region 13 with fail
     go_cut [7, 8] (fun s7 s8 wx => s7 = .int .u64 Ta ∧ s8 = .bool Tb2 ∧ Hid (Below wr.heap.size wr wx))
     case first =>
      have hC : CtxB wr wr := Below.refl _ _
      go_region_held3 (fun u => u.cell? ⟨w.heap.size, 0, none⟩ = some (.int .u64 sz) ∧ u.cell? ⟨w.heap.size, 1, none⟩ = some (.slice A1 ws.length c1) ∧ u.cell? ⟨w.heap.size, 2, none⟩ = some (.int .i64 most) ∧ u.cell? ⟨w.heap.size, 3, none⟩ = some (.slice A2 es.length c2) ∧ u.cell? ⟨w.heap.size, 4, none⟩ = some (.slice (some ⟨g, o, none⟩) ks.length c3) ∧ u.cell? ⟨w.heap.size, 5, none⟩ = some (.bool true) ∧ u.cell? ⟨w.heap.size, 6, none⟩ = some (.int .u64 root) ∧ u.cell? ⟨w.heap.size, 7, none⟩ = some (.int .i64 asid) ∧ u.cell? ⟨w.heap.size, 8, none⟩ = some (.slice A4 n4 c4) ∧ u.cell? ⟨g, o + m * 4 + 1, none⟩ = some (.int .u64 yv) ∧ u.cell? ⟨g, o + m * 4 + 2, none⟩ = some (.int .i64 yl) ∧ CtxB wr u)
       (first | with_reducible assumption | (with_reducible exact ⟨drew_cell x0, drew_cell x1, drew_cell x2, drew_cell x3, drew_cell x4, drew_cell x5, drew_cell x6, drew_cell x7, drew_cell x8, drew_cell k1, drew_cell k2, hC.drew⟩) | (go_split_ands; exact ⟨keep_cell hb5 (by assumption), keep_cell hb5 (by assumption), keep_cell hb5 (by assumption), keep_cell hb5 (by assumption), keep_cell hb5 (by assumption), keep_cell hb5 (by assumption), keep_cell hb5 (by assumption), keep_cell hb5 (by assumption), keep_cell hb5 (by assumption), keep_cell hb5 (by assumption), keep_cell hb5 (by assumption), CtxB.next (by assumption) hb5⟩))
       (first | (go_at_call 89; refine (D4.out _ (HWQ.out.drew)).mono ?_; rintro e w5 ⟨rfl, hb5⟩))
      all_goals
       go_split_ands
       have HBX5 : Hid (Below wr.heap.size wr w5) := CtxB.out (by assumption)
       go_wp2_with fail
       go_meet
       exact ⟨rfl, rfl, HBX5⟩
     case rest =>
      obtain ⟨rfl, rfl, HB5⟩ := hcut
      have HBV : Hid (Below W.heap.size W wc) := HBq.out.trans (HB5.out.mono HBq.out.size)
      replace k0 := keep_cell HB5.out k0
      replace k3 := keep_cell HB5.out k3
      replace x4 := keep_cell HB5.out x4
      replace x7 := keep_cell HB5.out x7
      clear x0 x1 x2 x3 x5 x6 x8 zx k1 k2 HB5 HBq
      have hbi := HBi.out
      dsimp only at hbi
      by_cases a1 : ya = asid
      ·have d1 : ((ya : Int) == (asid : Int)) = true := by simp; omega
       rw [decide_eq_true a1] at hbi
       clear a1
       cases Tb2 with
       | true =>
        by_cases a3 : Ta = yt
        ·have d3 : ((Ta : Int) != (yt : Int)) = false := by simp; omega
         rw [decide_eq_false (show ¬ Ta ≠ yt from fun h => h a3)] at hbi
         clear a3
         have HBI : Hid (BK ⟨ya, yv, yl, yt⟩ = false) := by rw [Hid, hbi]; rfl
         clear hbi
         go_wp2
         go_quiet (fail)
         go_wp2
         go_roundw
         case rel => exact ⟨m + 1, by first | rfl | go_num, by omega, fun j hj h => by
          by_cases e : j = m
          ·subst e; rw [HX2.out]; exact HBI.out
          ·exact HALK.out j hj (by omega), below_drewN HBV.out _⟩
         case measure => simp [RowKit.intOf]; omega
        ·have d3 : ((Ta : Int) != (yt : Int)) = true := by simp; omega
         rw [decide_eq_true (show Ta ≠ yt from a3)] at hbi
         clear a3
         have HQ := Lib.hid (HBad.out (by rw [hbi]; rfl))
         clear hbi
         go_wp2
         go_quiet (fail)
         go_wp2
         go_ret
         exact ⟨by rw [← HQ.out]; rfl, HB0.out.trans ((below_drewN HBV.out _).mono HB0.out.size)⟩
       | false =>
        have HQ := Lib.hid (HBad.out (by rw [hbi]; rfl))
        clear hbi
        go_wp2
        go_quiet (fail)
        go_wp2
        go_ret
        exact ⟨by rw [← HQ.out]; rfl, HB0.out.trans ((below_drewN HBV.out _).mono HB0.out.size)⟩
      ·have d1 : ((ya : Int) == (asid : Int)) = false := by simp; omega
       rw [decide_eq_false a1] at hbi
       clear a1
       have HBI : Hid (BK ⟨ya, yv, yl, yt⟩ = false) := by rw [Hid, hbi]; rfl
       clear hbi
       go_wp2
       go_quiet (fail)
       go_wp2
       go_roundw
       case rel => exact ⟨m + 1, by first | rfl | go_num, by omega, fun j hj h => by
        by_cases e : j = m
        ·subst e; rw [HX2.out]; exact HBI.out
        ·exact HALK.out j hj (by omega), below_drewN HBV.out _⟩
       case measure => simp [RowKit.intOf]; omega
    ·have HQ := Lib.hid (HGood.out HALLE.out (fun j hj => HALK.out j hj (by omega)))
     clear BX
     go_wp2
     go_ret
     exact ⟨by rw [← HQ.out]; rfl, HB0.out.trans (HBq.out.mono HB0.out.size)⟩
end Go.Proofs.YtbapgngngaaojaaGreat
