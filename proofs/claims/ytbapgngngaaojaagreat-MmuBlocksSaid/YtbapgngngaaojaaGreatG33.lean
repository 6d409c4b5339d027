/- The walk of MmuBlocks. -/
import Derived.Test.YtbapgngngaaojaaGreatG32
import Derived.Deep.CutBlock
set_option linter.unusedSimpArgs false
set_option linter.unusedVariables false
namespace Go.Proofs.YtbapgngngaaojaaGreat
open Go.RowKit Go.Lib
set_option maxRecDepth 100000
theorem set_blocks (rd : Nat → Nat) : setP (st0 1048576 rd 8) 844424930136064 = (0, ⟨1048576, rd, 8, [], [], some (4096, 3)⟩) := by
  unfold setP regV st0
  rfl
theorem addr_eq (va d : Nat) (hd : d < 1000000) : IntKind.u64.wrap ((va : Int) + IntKind.u64.wrap (IntKind.u64.wrap (d : Int) * 8)) = ((addrP va d : Nat) : Int) := by
  have e1 : IntKind.u64.wrap (d : Int) = d := IntWalk.u64_in _ (by omega)
  have e2 : IntKind.u64.wrap ((d : Int) * 8) = ((d * 8 : Nat) : Int) := by
    rw [show (d : Int) * 8 = ((d * 8 : Nat) : Int) by omega]; exact IntWalk.u64_in _ (by omega)
  rw [e1, e2, show (va : Int) + ((d * 8 : Nat) : Int) = ((va + d * 8 : Nat) : Int) by omega]
  unfold addrP
  rw [IntKind.wrap_u64]
  omega
theorem sizeX : (Tryz.prog.info? 36).map (·.size) = some 9 := by kernel_rfl
theorem sizeF : (Tryz.prog.info? 46).map (·.size) = some 2 := by kernel_rfl
theorem eqA_RF (d : Nat) (w : World) (x0 y0 : Int) (x1 y1 : Int) :
    (Op.equalIn (d + 2) 46 (.agg #[.int .i64 x0, .int .i64 x1]) (.agg #[.int .i64 y0, .int .i64 y1])).run Tryz.prog w = .ok (x0 == y0 && (x1 == y1)) w := by
  refine eqA_of Tryz.underlying46 (by kernel_rfl) ?_
  refine eqf_cons (by rfl) (by go_simp; rfl) (by go_simp; rfl) (by go_simp) ?_
  exact eqf_last (by rfl) (by go_simp; rfl) (by go_simp; rfl) (by go_simp)
attribute [local go_sem high] eqA_RF
theorem blocks_long (n0 : Nat) (A0 : Option Addr) (c0 va : Nat) (nL : Nat) (AL : Option Addr) (cL : Nat) (n : Int) (fill led keep : Bool) (w : World) (h60 : 60 < n0) :
    Calls Tryz.prog 3 #[.slice A0 n0 c0, .int .u64 va, .slice AL nL cL, .int .i64 n, .agg #[.bool fill, .bool led, .bool keep]] w fun e w' => e = .returned (.bool true) ∧ Below w.heap.size w w' := by
  go_enter Tryz.func3, Tryz.ntmps3
  go_upto_region 1 with fail
  have H9 : Hid (Box (w.alloc (.cells #[.bool fill, .bool led, .bool keep] 26)) w.heap.size [.bool fill, .bool led, .bool keep]) := Box.new w [.bool fill, .bool led, .bool keep] 26
  have HB0 : Hid (Below w.heap.size w (w.alloc (.cells #[.bool fill, .bool led, .bool keep] 26))) := below1 _ _
  generalize World.alloc w _ = V0 at *
  go_upto_region 3 with (go_at_call 7; refine (anchor_nat _).mono ?_; rintro e w1 ⟨rfl, hb1⟩; have H91 := Lib.hid (H9.out.below hb1); have HB1 : Hid (Below w.heap.size w w1) := HB0.out.trans (hb1.mono HB0.out.size); clear hb1)
  clear H9 HB0
  have C1 := Lib.hid (fun u => opened_long 8 n0 A0 c0 u h60)
  dsimp only [xV] at C1
  go_wp2_with (go_at_call 8; refine (C1.out _).mono ?_; rintro e w2 ⟨rfl, hb2⟩; have HB2 := Lib.hid (HB1.out.trans (hb2.mono HB1.out.size)); clear hb2)
  go_ret
  exact ⟨rfl, HB2.out.alloc HB2.out.size _⟩
set_option maxHeartbeats 4000000 in
theorem blocks_nat (W0 : List (Nat × Nat)) (A0 : Option Addr) (c0 va : Nat) (L : List Nat) (AL : Option Addr) (cL : Nat) (n : Int) (fill led keep : Bool) (w : World) (h60 : W0.length ≤ 60) (hW : ∀ s ∈ W0, s.1 < 18446744073709551616 ∧ s.2 < 18446744073709551616) (hr0 : RdRow w (.slice A0 W0.length c0) W0.length (rowL wL W0)) (hva : va < 18446744073709551616)
    (hL : ∀ n ∈ L, n < 18446744073709551616) (hrL : RdRow w (.slice AL L.length cL) L.length (wordsV L)) :
    Calls Tryz.prog 3 #[.slice A0 W0.length c0, .int .u64 va, .slice AL L.length cL, .int .i64 n, .agg #[.bool fill, .bool led, .bool keep]] w fun e w' => e = .returned (.bool true) ∧ Below w.heap.size w w' := by
  have C1 : Hid (∀ u, Below w.heap.size w u → Calls Tryz.prog 8 #[.slice A0 W0.length c0, .int .i64 8] u fun e w' => ∃ x m pt pk B A c, e = .returned (.tuple #[.pointer (some ⟨x, 0, none⟩), .agg #[.int .u64 1048576, .slice A (wsI 1048576 W0).length c, .int .i64 8, .slice none 0 0, .slice none 0 0, .bool false, .int .u64 0, .int .i64 0, .slice none 0 0], .bool true]) ∧ MB x m pt pk (st0 1048576 (rdM (wsI 1048576 W0)) 8) B u w' ∧ RowAt w' B 2 (.slice A (wsI 1048576 W0).length c) (wsI 1048576 W0).length (rowL wL (wsI 1048576 W0)) ∧ Below u.heap.size u w' ∧ ∀ k, B k → u.heap.size ≤ k) := fun u hb => by
    refine (opened_nat 8 W0 A0 c0 u (by omega) (by omega) h60 hW (hr0.below hb)).mono ?_
    rintro e w' ⟨x, m, pt, pk, Fm, A, c, rfl, ho⟩
    have ho2 := ho
    obtain ⟨-, -, -, hbb⟩ := ho2
    obtain ⟨B, hB, hR, hBu⟩ := ho.mb (Below.refl _ _)
    exact ⟨x, m, pt, pk, B, A, c, rfl, hB, hR, hbb, hBu⟩
  have HWS := Lib.hid (wsI_ok 1048576 W0 (fun s hs => (hW s hs).2))
  have HWL : Hid ((wsI 1048576 W0).length ≤ 60) := Nat.le_trans (wsI_len _ _) h60
  clear h60 hW hr0
  generalize wsI 1048576 W0 = ws at *
  have HLL := Lib.hid hL
  have HRL := Lib.hid hrL
  clear hL hrL
  go_enter Tryz.func3, Tryz.ntmps3
  go_upto_region 1 with fail
  have H9 : Hid (Box (w.alloc (.cells #[.bool fill, .bool led, .bool keep] 26)) w.heap.size [.bool fill, .bool led, .bool keep]) := Box.new w [.bool fill, .bool led, .bool keep] 26
  have HB0 : Hid (Below w.heap.size w (w.alloc (.cells #[.bool fill, .bool led, .bool keep] 26))) := below1 _ _
  generalize World.alloc w _ = V0 at *
  go_upto_region 3 with (go_at_call 7; refine (anchor_nat _).mono ?_; rintro e w1 ⟨rfl, hb1⟩; have H91 := Lib.hid (H9.out.below hb1); have HB1 : Hid (Below w.heap.size w w1) := HB0.out.trans (hb1.mono HB0.out.size); clear hb1)
  clear H9 HB0
  go_upto_region 4 with (go_at_call 8; refine (C1.out _ HB1.out).mono ?_; rintro e w2 ⟨x, m, pt, pk, B, A, c, rfl, hB, hR, hb2, hBu⟩; have HM := Lib.hid hB; have HR := Lib.hid hR; have HB2 := Lib.hid hb2; have HBU := Lib.hid hBu; clear hB hR hb2 hBu)
  have h9lt : w.heap.size < w1.heap.size := H91.out.2.2
  have hs12 : w1.heap.size ≤ w2.heap.size := HB2.out.size
  have H12 : Hid (Box (w2.alloc (.cells #[.int .u64 1048576, .slice A ws.length c, .int .i64 8, .slice none 0 0, .slice none 0 0, .bool false, .int .u64 0, .int .i64 0, .slice none 0 0] 36)) w2.heap.size (xC 1048576 8 0 0 false (.slice A ws.length c) (.slice none 0 0) (.slice none 0 0) (.slice none 0 0))) := Box.new w2 (xC 1048576 8 0 0 false (.slice A ws.length c) (.slice none 0 0) (.slice none 0 0) (.slice none 0 0)) 36
  have HB3 : Hid (Below w2.heap.size w2 (w2.alloc (.cells #[.int .u64 1048576, .slice A ws.length c, .int .i64 8, .slice none 0 0, .slice none 0 0, .bool false, .int .u64 0, .int .i64 0, .slice none 0 0] 36))) := below1 _ _
  generalize World.alloc w2 _ = W3 at *
  have HM3 := Lib.hid (HM.out.add HB3.out (Nat.le_refl _) H12.out.2.2)
  have HR3 := Lib.hid (HR.out.below HB3.out)
  have H93 := Lib.hid (H91.out.below (HB2.out.trans (HB3.out.mono hs12)))
  have HY0 : Hid (∀ k, B k → w1.heap.size ≤ k ∧ k < w2.heap.size) := fun k y => ⟨HBU.out k y, HM.out.mine y⟩
  clear HM HR HB2 HBU H91
  by_cases hl40 : 40 < L.length
  · have d1 : decide ((40 : Int) < (L.length : Int)) = true := by simp; omega
    go_wp2
    go_ret
    exact ⟨rfl, HB1.out.trans (HM3.out.base.mono HB1.out.size)⟩
  · have d1 : decide ((40 : Int) < (L.length : Int)) = false := by simp; omega
    have HL40 : Hid (L.length ≤ 40) := by rw [Hid]; omega
    clear hl40
    by_cases hn60 : 60 < n
    · have d2 : decide ((60 : Int) < n) = true := by simp; omega
      go_wp2
      go_ret
      exact ⟨rfl, HB1.out.trans (HM3.out.base.mono HB1.out.size)⟩
    · have d2 : decide ((60 : Int) < n) = false := by simp; omega
      have HN60 : Hid (n ≤ 60) := by rw [Hid]; omega
      clear hn60
      have C2 : Hid (Calls Tryz.prog 9 #[.pointer (some ⟨x, 0, none⟩), .int .u64 844424930136064] W3 fun e w' => e = .returned (.int .i64 0) ∧ MB x m pt pk ⟨1048576, rdM ws, 8, [], [], some (4096, 3)⟩ (fun k => B k ∨ k = w2.heap.size) w1 w' ∧ Kp (KB (fun k => B k ∨ k = w2.heap.size) w1) W3 w') := by
        have h := HM3.out.set 844424930136064 (by omega)
        rw [set_blocks] at h
        exact h
      go_upto_region 7 with (go_at_call 9; refine C2.out.mono ?_; rintro e w4 ⟨rfl, hm, hk⟩; have HM4 := Lib.hid hm; have HOK := Lib.hid hm.ok; have HR4 := Lib.hid (HR3.out.mb hk (fun k y => .inl y)); have H124 := Lib.hid (H12.out.mb hk (.inr rfl)); have H94 := Lib.hid (H93.out.kept hk (fun y => by have := y.2; omega)); clear hm hk)
      clear C2 HM3 HR3 H12 H93 HB3
      have z5 := H124.out.at 5 _ rfl
      have z6 := H124.out.at 6 _ rfl
      have z7 := H124.out.at 7 _ rfl
      have zf := H124.out.2.1
      have zz := H124.out.2.2
      go_upto_region 8 with fail
      have hk5 : Kp (fun k => k = w2.heap.size) w4 (((w4.setCell ⟨w2.heap.size, 5, none⟩ (.bool true)).setCell ⟨w2.heap.size, 6, none⟩ (.int .u64 4096)).setCell ⟨w2.heap.size, 7, none⟩ (.int .i64 3)) := (((Kp.refl (fun k => k = w2.heap.size) w4).setCell (p := ⟨w2.heap.size, 5, none⟩) (.inl rfl) _).setCell (p := ⟨w2.heap.size, 6, none⟩) (.inl rfl) _).setCell (p := ⟨w2.heap.size, 7, none⟩) (.inl rfl) _
      have H125 : Hid (Box (((w4.setCell ⟨w2.heap.size, 5, none⟩ (.bool true)).setCell ⟨w2.heap.size, 6, none⟩ (.int .u64 4096)).setCell ⟨w2.heap.size, 7, none⟩ (.int .i64 3)) w2.heap.size (xC 1048576 8 4096 3 true (.slice A ws.length c) (.slice none 0 0) (.slice none 0 0) (.slice none 0 0))) :=
        ((H124.out.setAt 5 (by simp [xC]) (.bool true)).setAt 6 (by simp [xC]) (.int .u64 4096)).setAt 7 (by simp [xC]) (.int .i64 3)
      have HM5 := Lib.hid (HM4.out.own (hk5.mono (fun k e => .inr e)))
      have HR5 := Lib.hid (HR4.out.kept hk5 (fun k y e => by have := (HY0.out k y).2; omega))
      have H95 := Lib.hid (H94.out.kept hk5 (fun e => by omega))
      clear HM4 HR4 H124 H94 hk5 z5 z6 z7 zf zz
      generalize World.setCell (World.setCell (World.setCell w4 _ _) _ _) _ _ = W5 at *
      have z0 := H95.out.at 0 _ rfl
      have z1 := H95.out.at 1 _ rfl
      have z2 := H95.out.at 2 _ rfl
      go_upto_region 9 with fail
      have H14 : Hid (Box (W5.alloc (.cells #[.bool fill, .bool led, .bool keep] 41)) W5.heap.size [.bool fill, .bool led, .bool keep]) := Box.new W5 [.bool fill, .bool led, .bool keep] 41
      have hb6 := below1 W5 (.cells #[.bool fill, .bool led, .bool keep] 41)
      have HM6 := Lib.hid (HM5.out.add hb6 (Nat.le_refl _) H14.out.2.2)
      have HR6 := Lib.hid (HR5.out.below hb6)
      have H96 := Lib.hid (H95.out.below hb6)
      have H126 := Lib.hid (H125.out.below hb6)
      have hlt14 : w2.heap.size < W5.heap.size := H125.out.2.2
      clear HM5 HR5 H95 H125 z0 z1 z2 hb6
      generalize World.alloc W5 _ = W6 at *
      generalize ht14 : W5.heap.size = t14 at *
      clear ht14 W5
      have z0 := H96.out.at 0 _ rfl
      have z1 := H96.out.at 1 _ rfl
      have z2 := H96.out.at 2 _ rfl
      have HST := Lib.hid (store_same 1048576 8 4096 3 va fill led keep L 0 ⟨ws, [], []⟩)
      have C3 := Lib.hid (HM6.out.store va hva L HLL.out (by have := HL40.out; omega) AL cL (HRL.out.below HB1.out) fill led keep)
      rw [show (⟨1048576, rdM ws, 8, [], [], some (4096, 3)⟩ : St) = Ys.st 1048576 8 4096 3 ⟨ws, [], []⟩ from rfl, HST.out] at C3
      generalize hRS : storeY 1048576 8 4096 3 va fill led keep L 0 ⟨ws, [], []⟩ = RS at *
      have HRS := Lib.hid hRS
      clear HST hRS
      obtain ⟨⟨cnt, ⟨F1, F2⟩⟩, yS⟩ := RS
      dsimp only at C3
      go_upto_region 10 with (go_at_call 10; refine C3.out.mono ?_; rintro e w7 ⟨rfl, hm, hk⟩; have HM7 := Lib.hid hm; have HR7 := Lib.hid (HR6.out.mb hk (fun k y => .inl (.inl y))); have H127 := Lib.hid (H126.out.mb hk (.inl (.inr rfl))); have H147 := Lib.hid (H14.out.mb hk (.inr rfl)); have H97 := Lib.hid (H96.out.kept hk (fun y => by have := y.2; omega)); clear hm hk)
      clear C3 HM6 HR6 H126 H14 H96 z0 z1 z2
      have H16 : Hid (Box (w7.alloc (.cells #[.int .i64 F1, .int .i64 F2] 43)) w7.heap.size [.int .i64 F1, .int .i64 F2]) := Box.new w7 [.int .i64 F1, .int .i64 F2] 43
      have hb8 := below1 w7 (.cells #[.int .i64 F1, .int .i64 F2] 43)
      have HM8 := Lib.hid (HM7.out.add hb8 (Nat.le_refl _) H16.out.2.2)
      have HR8 := Lib.hid (HR7.out.below hb8)
      have H98 := Lib.hid (H97.out.below hb8)
      have H128 := Lib.hid (H127.out.below hb8)
      have H148 := Lib.hid (H147.out.below hb8)
      have hlt16 : t14 < w7.heap.size := H147.out.2.2
      clear HM7 HR7 H97 H127 H147 hb8
      generalize World.alloc w7 _ = W8 at *
      generalize ht16 : w7.heap.size = t16 at *
      clear ht16 w7
      go_upto_region 11 with fail
      have H17 : Hid (Box (W8.alloc (.cells #[.int .i64 0, .int .i64 0] 46)) W8.heap.size [.int .i64 0, .int .i64 0]) := Box.new W8 [.int .i64 0, .int .i64 0] 46
      have hb9 := below1 W8 (.cells #[.int .i64 0, .int .i64 0] 46)
      have hlt17 : t16 < W8.heap.size := H16.out.2.2
      have HBI : Hid (BI x m pt pk w1 w.heap.size w2.heap.size t14 t16 W8.heap.size fill led keep (yS.st 1048576 8 4096 3) ⟨ws, [], []⟩ (F1, F2) (0, 0) A none none c 0 0 (fun k => ((((B k ∨ k = w2.heap.size) ∨ k = t14) ∨ k = t16) ∨ k = W8.heap.size)) B (W8.alloc (.cells #[.int .i64 0, .int .i64 0] 46))) := by
        have h0 := HM8.out
        have hok0 : OkSt (Ys.st 1048576 8 4096 3 ⟨ws, [], []⟩) := HOK.out
        refine ⟨h0.add hb9 (Nat.le_refl _) H17.out.2.2, HR8.out.below hb9, RowAt.nil _ _ _, RowAt.nil _ _ _, H128.out.below hb9, H98.out.below hb9, H148.out.below hb9, H16.out.below hb9, H17.out, ⟨h9lt, ?_, ?_, ?_, ?_⟩, fun k y => ?_, ⟨by omega, by omega, by omega, by omega⟩, HWS.out, hok0⟩
        · exact .inl (.inl (.inl (.inr rfl)))
        · exact .inl (.inl (.inr rfl))
        · exact .inl (.inr rfl)
        · exact .inr rfl
        · have := HY0.out k y
          exact ⟨.inl (.inl (.inl (.inl y))), by omega, by omega, by omega⟩
      clear HM8 HR8 H16 H98 H128 H148 H17 hb9
      generalize World.alloc W8 _ = W9 at *
      generalize ht17 : W8.heap.size = t17 at *
      clear ht17 W8
      have HT12 : Hid (w1.heap.size ≤ w2.heap.size) := hs12
      have HBW1 := HB1
      clear HY0 hs12 h9lt HB1 HWS HOK
      have hne12 : t14 ≠ w2.heap.size := by omega
      have hne17 : t14 ≠ t17 := by omega
      have hn1217 : w2.heap.size ≠ t17 := by omega
      generalize ht12 : w2.heap.size = t12 at *
      clear ht12
      generalize hBB : (fun k => (((B k ∨ k = t12) ∨ k = t14) ∨ k = t16) ∨ k = t17) = B9 at *
      clear hBB
      generalize hw9 : w.heap.size = t9 at HBI
      go_upto_block 0 with fail
      go_cut [18] (fun dv wx => ∃ (d : Nat) (y : Ys) (G : Nat × Nat) (A1 A2 A3 : Option Addr) (c1 c2 c3 : Nat) (B Y : Nat → Prop), dv = .int .i64 d ∧ Hid (BI x m pt pk w1 t9 t12 t14 t16 t17 fill led keep (yS.st 1048576 8 4096 3) y (F1, F2) G A1 A2 A3 c1 c2 c3 B Y wx) ∧ Hid (y.ws.length ≤ 100) ∧ Hid (((cnt, (F1, F2)), yS) = ((d, G), y)))
      case first =>
        go_wp2_with fail
        go_loopw [18, 19] (fun dv iv wr => ∃ (i d : Nat) (y : Ys) (G : Nat × Nat) (A1 A2 A3 : Option Addr) (c1 c2 c3 : Nat) (B Y : Nat → Prop), iv = .int .i64 i ∧ dv = .int .i64 d ∧ i ≤ L.length ∧ Hid (BI x m pt pk w1 t9 t12 t14 t16 t17 fill led keep (yS.st 1048576 8 4096 3) y (F1, F2) G A1 A2 A3 c1 c2 c3 B Y wr) ∧ Hid (y.ws.length ≤ 60 + i) ∧ Hid ((G = (0, 0) ∧ d = i ∧ storeY 1048576 8 4096 3 va fill led keep (L.drop i) i y = ((cnt, (F1, F2)), yS)) ∨ (G.1 ≠ 0 ∧ ((cnt, (F1, F2)), yS) = ((d, G), y)))) (fun _ iv _ => L.length - (RowKit.intOf iv).toNat)
        case atStart => exact ⟨0, 0, ⟨ws, [], []⟩, (0, 0), A, none, none, c, 0, 0, B9, B, rfl, rfl, by omega, HBI, HWL, .inl ⟨rfl, rfl, HRS.out⟩⟩
        case round =>
          obtain ⟨i, d, y, G, A1, A2, A3, c1, c2, c3, B, Y, rfl, rfl, hi, HI, HLN, HS⟩ := hrel
          have hl40 : L.length ≤ 40 := HL40.out
          have g0 := HI.out.b17.at 0 _ rfl
          have z17 := HI.out.b17.2.2
          by_cases hlt : i < L.length
          · by_cases hG : G.1 = 0
            · have hS := HS.out.resolve_right (fun h => h.1 hG)
              obtain ⟨rfl, rfl, hst⟩ := hS
              have HST := Lib.hid hst
              clear hst hG HS
              dsimp only at g0
              go_upto_region 15 with fail
              have HU : Hid (BI x m pt pk w1 t9 t12 t14 t16 t17 fill led keep (yS.st 1048576 8 4096 3) y (F1, F2) (0, 0) A1 A2 A3 c1 c2 c3 B Y wr.drew) := HI.out.below (Below.refl _ _).drew
              have hLi := HLL.out _ (List.getElem_mem hlt)
              have hav : addrP va d < 18446744073709551616 := Nat.mod_lt _ (by omega)
              have HQ1 : Hid (∀ u1 A1' A2' A3' c1' c2' c3', RowAt u1 (fun k => Y k ∨ wr.drew.heap.size ≤ k) 2 (.slice A1' (y.acc 1048576 8 4096 3 2 (addrP va d) L[d] fill led keep).2.ws.length c1') (y.acc 1048576 8 4096 3 2 (addrP va d) L[d] fill led keep).2.ws.length (rowL wL (y.acc 1048576 8 4096 3 2 (addrP va d) L[d] fill led keep).2.ws) → RowAt u1 (fun k => Y k ∨ wr.drew.heap.size ≤ k) 10 (.slice A2' (y.acc 1048576 8 4096 3 2 (addrP va d) L[d] fill led keep).2.es.length c2') (y.acc 1048576 8 4096 3 2 (addrP va d) L[d] fill led keep).2.es.length (rowL eL (y.acc 1048576 8 4096 3 2 (addrP va d) L[d] fill led keep).2.es) → RowAt u1 (fun k => Y k ∨ wr.drew.heap.size ≤ k) 4 (.slice A3' (y.acc 1048576 8 4096 3 2 (addrP va d) L[d] fill led keep).2.ks.length c3') (y.acc 1048576 8 4096 3 2 (addrP va d) L[d] fill led keep).2.ks.length (rowL mL (y.acc 1048576 8 4096 3 2 (addrP va d) L[d] fill led keep).2.ks) → Below wr.drew.heap.size wr.drew u1 → ∃ B' Y', BI x m pt pk w1 t9 t12 t14 t16 t17 fill led keep (yS.st 1048576 8 4096 3) (y.acc 1048576 8 4096 3 2 (addrP va d) L[d] fill led keep).2 (F1, F2) (y.acc 1048576 8 4096 3 2 (addrP va d) L[d] fill led keep).1.1 A1' A2' A3' c1' c2' c3' B' Y' ((u1.setCells t12 0 (xC 1048576 8 4096 3 true (.slice A1' (y.acc 1048576 8 4096 3 2 (addrP va d) L[d] fill led keep).2.ws.length c1') (.slice A2' (y.acc 1048576 8 4096 3 2 (addrP va d) L[d] fill led keep).2.es.length c2') (.slice A3' (y.acc 1048576 8 4096 3 2 (addrP va d) L[d] fill led keep).2.ks.length c3') (.slice none 0 0))).setCells t17 0 [.int .i64 (y.acc 1048576 8 4096 3 2 (addrP va d) L[d] fill led keep).1.1.1, .int .i64 (y.acc 1048576 8 4096 3 2 (addrP va d) L[d] fill led keep).1.1.2])) :=
                fun u1 A1' A2' A3' c1' c2' c3' q1 q2 q3 hb => ⟨_, _, HU.out.acc 2 (addrP va d) L[d] hLi q1 q2 q3 hb⟩
              have C11 : Hid (Calls Tryz.prog 11 #[.agg #[.int .u64 1048576, .slice A1 y.ws.length c1, .int .i64 8, .slice A2 y.es.length c2, .slice A3 y.ks.length c3, .bool true, .int .u64 4096, .int .i64 3, .slice none 0 0], .int .i64 2, .int .u64 (addrP va d), .int .u64 L[d], .agg #[.bool fill, .bool led, .bool keep]] wr.drew fun e u1 => ∃ A1' c1' A2' c2' A3' c3', e = .returned (.tuple #[.agg #[.int .u64 1048576, .slice A1' (y.acc 1048576 8 4096 3 2 (addrP va d) L[d] fill led keep).2.ws.length c1', .int .i64 8, .slice A2' (y.acc 1048576 8 4096 3 2 (addrP va d) L[d] fill led keep).2.es.length c2', .slice A3' (y.acc 1048576 8 4096 3 2 (addrP va d) L[d] fill led keep).2.ks.length c3', .bool true, .int .u64 4096, .int .i64 3, .slice none 0 0], .agg #[.int .i64 (y.acc 1048576 8 4096 3 2 (addrP va d) L[d] fill led keep).1.1.1, .int .i64 (y.acc 1048576 8 4096 3 2 (addrP va d) L[d] fill led keep).1.1.2], .int .u64 (y.acc 1048576 8 4096 3 2 (addrP va d) L[d] fill led keep).1.2]) ∧ RowAt u1 (fun k => Y k ∨ wr.drew.heap.size ≤ k) 2 (.slice A1' (y.acc 1048576 8 4096 3 2 (addrP va d) L[d] fill led keep).2.ws.length c1') (y.acc 1048576 8 4096 3 2 (addrP va d) L[d] fill led keep).2.ws.length (rowL wL (y.acc 1048576 8 4096 3 2 (addrP va d) L[d] fill led keep).2.ws) ∧ RowAt u1 (fun k => Y k ∨ wr.drew.heap.size ≤ k) 10 (.slice A2' (y.acc 1048576 8 4096 3 2 (addrP va d) L[d] fill led keep).2.es.length c2') (y.acc 1048576 8 4096 3 2 (addrP va d) L[d] fill led keep).2.es.length (rowL eL (y.acc 1048576 8 4096 3 2 (addrP va d) L[d] fill led keep).2.es) ∧ RowAt u1 (fun k => Y k ∨ wr.drew.heap.size ≤ k) 4 (.slice A3' (y.acc 1048576 8 4096 3 2 (addrP va d) L[d] fill led keep).2.ks.length c3') (y.acc 1048576 8 4096 3 2 (addrP va d) L[d] fill led keep).2.ks.length (rowL mL (y.acc 1048576 8 4096 3 2 (addrP va d) L[d] fill led keep).2.ks) ∧ Below wr.drew.heap.size wr.drew u1) :=
                rxaccess_nat (ok := Y) 1048576 8 4096 3 (addrP va d) L[d] 2 y.ws y.es y.ks fill led keep A1 A2 A3 none 0 c1 c2 c3 0 wr.drew HU.out.ok hav (by have := HLN.out; omega) HU.out.ws.lt (fun k z => HU.out.mb.mine (HU.out.yb k z).1) HU.out.r1 HU.out.r2 HU.out.r3
              have HQ2 := Lib.hid (Ys.acc_f 1048576 8 4096 3 y 2 (addrP va d) L[d] fill led keep)
              have HQ3 := Lib.hid (Ys.acc_len 1048576 8 4096 3 y 2 (addrP va d) L[d] fill led keep)
              have HQ4 : Hid (storeY 1048576 8 4096 3 va fill led keep (L.drop d) d y = if (y.acc 1048576 8 4096 3 2 (addrP va d) L[d] fill led keep).1.1 = (0, 0) then storeY 1048576 8 4096 3 va fill led keep (L.drop (d + 1)) (d + 1) (y.acc 1048576 8 4096 3 2 (addrP va d) L[d] fill led keep).2 else ((d, (y.acc 1048576 8 4096 3 2 (addrP va d) L[d] fill led keep).1.1), (y.acc 1048576 8 4096 3 2 (addrP va d) L[d] fill led keep).2)) := by
                rw [Hid, List.drop_eq_getElem_cons hlt]; rfl
              have haddr : IntKind.u64.wrap ((va : Int) + IntKind.u64.wrap (IntKind.u64.wrap (d : Int) * 8)) = ((addrP va d : Nat) : Int) := addr_eq va d (by omega)
              generalize y.acc 1048576 8 4096 3 2 (addrP va d) L[d] fill led keep = Q at *
              obtain ⟨⟨⟨g1, g2⟩, v2⟩, y2⟩ := Q
              dsimp only at HQ1 C11 HQ2 HQ3 HQ4
              go_cut [] (fun wx => ∃ (A1' A2' A3' : Option Addr) (c1' c2' c3' : Nat) (B' Y' : Nat → Prop), Hid (BI x m pt pk w1 t9 t12 t14 t16 t17 fill led keep (yS.st 1048576 8 4096 3) y2 (F1, F2) (g1, g2) A1' A2' A3' c1' c2' c3' B' Y' wx))
              case first =>
                obtain ⟨gL, oL, rfl, hrg⟩ := HRL.out.get (by omega)
                have hLc : wr.cell? ⟨gL, oL + d, none⟩ = some (.int .u64 L[d]) := by
                  have h1 := hrg d (.int .u64 L[d]) (by simp [wordsV, List.getElem?_eq_getElem hlt])
                  exact keep_cell HI.out.mb.base (keep_cell HBW1.out h1)
                have hgL : gL ≠ t12 ∧ gL ≠ t17 := by
                  have h1 := hrg d (.int .u64 L[d]) (by simp [wordsV, List.getElem?_eq_getElem hlt])
                  have h2 := World.block_lt_of_cell? w _ h1
                  have h3 := HBW1.out.size
                  have h4 := HT12.out
                  have h5 := HI.out.ne
                  dsimp only at h2
                  omega
                have hl14 := HI.out.b14
                have e0 := hl14.at 0 _ rfl
                have e1 := hl14.at 1 _ rfl
                have e2 := hl14.at 2 _ rfl
                have hl12 := HU.out.b12
                have x0 := hl12.at 0 _ rfl
                have x1 := hl12.at 1 _ rfl
                have x2 := hl12.at 2 _ rfl
                have x3 := hl12.at 3 _ rfl
                have x4 := hl12.at 4 _ rfl
                have x5 := hl12.at 5 _ rfl
                have x6 := hl12.at 6 _ rfl
                have x7 := hl12.at 7 _ rfl
                have x8 := hl12.at 8 _ rfl
                have i1 : (0 : Int) ≤ (d : Int) := by omega
                have i2 : (d : Int) < (L.length : Int) := by omega
                have HI' := HI
                have HU' := HU
                obtain ⟨S, hSdef⟩ : ∃ S : World → Prop, S = fun u => u.cell? ⟨gL, oL + d, none⟩ = some (.int .u64 L[d]) ∧ u.cell? ⟨t14, 0, none⟩ = some (.bool fill) ∧ u.cell? ⟨t14, 1, none⟩ = some (.bool led) ∧ u.cell? ⟨t14, 2, none⟩ = some (.bool keep) := ⟨_, rfl⟩
                have hSu : ∀ u, S u → u.cell? ⟨gL, oL + d, none⟩ = some (.int .u64 L[d]) ∧ u.cell? ⟨t14, 0, none⟩ = some (.bool fill) ∧ u.cell? ⟨t14, 1, none⟩ = some (.bool led) ∧ u.cell? ⟨t14, 2, none⟩ = some (.bool keep) := fun u h => by rw [hSdef] at h; exact h
                have hSi : ∀ u, (u.cell? ⟨gL, oL + d, none⟩ = some (.int .u64 L[d]) ∧ u.cell? ⟨t14, 0, none⟩ = some (.bool fill) ∧ u.cell? ⟨t14, 1, none⟩ = some (.bool led) ∧ u.cell? ⟨t14, 2, none⟩ = some (.bool keep)) → S u := fun u h => by rw [hSdef]; exact h
                clear hSdef
                have hS0 : S wr.drew := hSi _ ⟨drew_cell hLc, drew_cell e0, drew_cell e1, drew_cell e2⟩
                have SK : Hid (∀ u u' F, Kp F u u' → ¬ F gL → ¬ F t14 → S u → S u') := fun u u' F hk n1 n2 h => by
                  obtain ⟨q0, q1, q2, q3⟩ := hSu _ h
                  exact hSi _ ⟨hk.cell q0 n1, hk.cell q1 n2, hk.cell q2 n2, hk.cell q3 n2⟩
                clear hLc e0 e1 e2 hl14 hl12 hrg
                refine wp_region_held_drew (S := S) (by kernel_rfl) hS0 (fun hHeld => ?_)
                clear hS0
                refine wpAnyH_take (i := 1) (v := ?_) rfl (by kernel_rfl) (by kernel_rfl) (by kernel_rfl) (fun _ _ _ h => h) (Or.inl ⟨by rfl, ?_⟩) (by assumption) ?_
                rotate_left
                · intro w hSw
                  have hSw := hSu _ hSw
                  try dsimp only at hSw
                  go_simp
                  try with_reducible rfl
                try simp only [Act.put, List.setIfInBounds_toArray, List.set_cons_zero, List.set_cons_succ]
                refine wpAnyH_take (i := 2) (v := ?_) rfl (by kernel_rfl) (by kernel_rfl) (by kernel_rfl) (fun _ _ _ h => h) (Or.inl ⟨by rfl, ?_⟩) (by assumption) ?_
                rotate_left
                · intro w hSw
                  have hSw := hSu _ hSw
                  try dsimp only at hSw
                  go_simp
                  try with_reducible rfl
                try simp only [Act.put, List.setIfInBounds_toArray, List.set_cons_zero, List.set_cons_succ]
                refine wpAnyH_take (i := 3) (v := ?_) rfl (by kernel_rfl) (by kernel_rfl) (by kernel_rfl) (fun _ _ _ h => h) (Or.inl ⟨by rfl, ?_⟩) (by assumption) ?_
                rotate_left
                · intro w hSw
                  have hSw := hSu _ hSw
                  try dsimp only at hSw
                  go_simp
                  try with_reducible rfl
                try simp only [Act.put, List.setIfInBounds_toArray, List.set_cons_zero, List.set_cons_succ]
                refine wpAnyH_take (i := 4) (v := ?_) rfl (by kernel_rfl) (by kernel_rfl) (by kernel_rfl) (fun _ _ _ h => h) (Or.inl ⟨by rfl, ?_⟩) (by assumption) ?_
                rotate_left
                · intro w hSw
                  have hSw := hSu _ hSw
                  try dsimp only at hSw
                  go_simp
                  try with_reducible rfl
                try simp only [Act.put, List.setIfInBounds_toArray, List.set_cons_zero, List.set_cons_succ]
                refine wpAnyH_take (i := 5) (v := ?_) rfl (by kernel_rfl) (by kernel_rfl) (by kernel_rfl) (fun _ _ _ h => h) (Or.inl ⟨by rfl, ?_⟩) (by assumption) ?_
                rotate_left
                · intro w hSw
                  have hSw := hSu _ hSw
                  try dsimp only at hSw
                  go_simp
                  try with_reducible rfl
                try simp only [Act.put, List.setIfInBounds_toArray, List.set_cons_zero, List.set_cons_succ]
                refine wpAnyH_take (i := 6) (v := ?_) rfl (by kernel_rfl) (by kernel_rfl) (by kernel_rfl) (fun _ _ _ h => h) (Or.inl ⟨by rfl, ?_⟩) (by assumption) ?_
                rotate_left
                · intro w hSw
                  have hSw := hSu _ hSw
                  try dsimp only at hSw
                  go_simp
                  try with_reducible rfl
                try simp only [Act.put, List.setIfInBounds_toArray, List.set_cons_zero, List.set_cons_succ]
                refine wpAnyH_take (i := 7) (v := ?_) rfl (by kernel_rfl) (by kernel_rfl) (by kernel_rfl) (fun _ _ _ h => h) (Or.inl ⟨by rfl, ?_⟩) (by assumption) ?_
                rotate_left
                · intro w hSw
                  have hSw := hSu _ hSw
                  try dsimp only at hSw
                  go_simp
                  try with_reducible rfl
                try simp only [Act.put, List.setIfInBounds_toArray, List.set_cons_zero, List.set_cons_succ]
                refine wpAnyH_take (i := 8) (v := ?_) rfl (by kernel_rfl) (by kernel_rfl) (by kernel_rfl) (fun _ _ _ h => h) (Or.inl ⟨by rfl, ?_⟩) (by assumption) ?_
                rotate_left
                · intro w hSw
                  have hSw := hSu _ hSw
                  try dsimp only at hSw
                  go_simp
                  try with_reducible rfl
                try simp only [Act.put, List.setIfInBounds_toArray, List.set_cons_zero, List.set_cons_succ]
                refine wpAnyH_take (i := 9) (v := ?_) rfl (by kernel_rfl) (by kernel_rfl) (by kernel_rfl) (fun _ _ _ h => h) (Or.inl ⟨by rfl, ?_⟩) (by assumption) ?_
                rotate_left
                · intro w hSw
                  have hSw := hSu _ hSw
                  try dsimp only at hSw
                  go_simp
                  try with_reducible rfl
                try simp only [Act.put, List.setIfInBounds_toArray, List.set_cons_zero, List.set_cons_succ]
                refine wpAnyH_take (i := 10) (v := ?_) rfl (by kernel_rfl) (by kernel_rfl) (by kernel_rfl) (fun _ _ _ h => h) (Or.inl ⟨by rfl, ?_⟩) (by assumption) ?_
                rotate_left
                · intro w hSw
                  have hSw := hSu _ hSw
                  try dsimp only at hSw
                  go_simp
                  try with_reducible rfl
                try simp only [Act.put, List.setIfInBounds_toArray, List.set_cons_zero, List.set_cons_succ]
                try rw [haddr]
                refine wpAnyH_ready (rs := [0]) (by kernel_rfl) (by simp) ?_
                refine AllReadyH.cons rfl (fun K hK => ?_) AllReadyH.nil
                go_simp
                refine hK.out _ _ hHeld (fun _ => ?_)
                clear hK K
                try simp only [Act.put, List.setIfInBounds_toArray, List.set_cons_zero, List.set_cons_succ]
                refine wpAnyH_ready (rs := [11]) (by kernel_rfl) (by simp) ?_
                refine AllReadyH.cons rfl (fun K hK => ?_) AllReadyH.nil
                go_simp
                try rw [haddr]
                refine C11.out.mono ?_
                rintro e u1 ⟨A1', c1', A2', c2', A3', c3', rfl, q1, q2, q3, hb⟩
                go_wp2_with fail
                have hS5 : S u1 := SK.out _ _ (fun _ => False) (.ofBelow hb) (fun h => h) (fun h => h) hHeld
                refine hK.out _ _ hS5 (fun hHeld => ?_)
                clear hK K hS5
                try simp only [Act.put, List.setIfInBounds_toArray, List.set_cons_zero, List.set_cons_succ]
                obtain ⟨B', Y', HF⟩ := HQ1.out u1 A1' A2' A3' c1' c2' c3' q1 q2 q3 hb
                have b12 := HU'.out.b12.below hb
                have b17 := HU'.out.b17.below hb
                have O9 : Hid ((#[.int .u64 1048576, .slice A1' y2.ws.length c1', .int .i64 8, .slice A2' y2.es.length c2', .slice A3' y2.ks.length c3', .bool true, .int .u64 4096, .int .i64 3, .slice none 0 0] : Array Value).all (·.oneCell') = true) := all_oneCell_toArray (cs := [.int .u64 1048576, .slice A1' y2.ws.length c1', .int .i64 8, .slice A2' y2.es.length c2', .slice A3' y2.ks.length c3', .bool true, .int .u64 4096, .int .i64 3, .slice none 0 0]) (by intro u hu; simp only [List.mem_cons, List.not_mem_nil, or_false] at hu; rcases hu with rfl | rfl | rfl | rfl | rfl | rfl | rfl | rfl | rfl <;> rfl)
                have O2 : Hid ((#[.int .i64 g1, .int .i64 g2] : Array Value).all (·.oneCell') = true) := all_oneCell_toArray (cs := [.int .i64 g1, .int .i64 g2]) (by intro u hu; simp only [List.mem_cons, List.not_mem_nil, or_false] at hu; rcases hu with rfl | rfl <;> rfl)
                clear q1 q2 q3 hb HQ1 C11 x0 x1 x2 x3 x4 x5 x6 x7 x8
                refine wpAnyH_take (i := 12) (v := ?_) rfl (by kernel_rfl) (by kernel_rfl) (by kernel_rfl) (fun _ _ _ h => h) (Or.inl ⟨by rfl, ?_⟩) (by assumption) ?_
                rotate_left
                · intro w hSw
                  have hSw := hSu _ hSw
                  try dsimp only at hSw
                  go_simp
                  try with_reducible rfl
                try simp only [Act.put, List.setIfInBounds_toArray, List.set_cons_zero, List.set_cons_succ]
                refine wpAnyH_take (i := 13) (v := ?_) rfl (by kernel_rfl) (by kernel_rfl) (by kernel_rfl) (fun _ _ _ h => h) (Or.inl ⟨by rfl, ?_⟩) (by assumption) ?_
                rotate_left
                · intro w hSw
                  have hSw := hSu _ hSw
                  try dsimp only at hSw
                  go_simp
                  try with_reducible rfl
                try simp only [Act.put, List.setIfInBounds_toArray, List.set_cons_zero, List.set_cons_succ]
                refine wpAnyH_take (i := 14) (v := ?_) rfl (by kernel_rfl) (by kernel_rfl) (by kernel_rfl) (fun _ _ _ h => h) (Or.inl ⟨by rfl, ?_⟩) (by assumption) ?_
                rotate_left
                · intro w hSw
                  have hSw := hSu _ hSw
                  try dsimp only at hSw
                  go_simp
                  try with_reducible rfl
                try simp only [Act.put, List.setIfInBounds_toArray, List.set_cons_zero, List.set_cons_succ]
                refine wpAnyH_take (i := 15) (v := ?_) rfl (by kernel_rfl) (by kernel_rfl) (by kernel_rfl) (fun _ _ _ h => h) (Or.inl ⟨by rfl, ?_⟩) (by assumption) ?_
                rotate_left
                · intro w hSw
                  have hSw := hSu _ hSw
                  try dsimp only at hSw
                  go_simp
                  try with_reducible rfl
                try simp only [Act.put, List.setIfInBounds_toArray, List.set_cons_zero, List.set_cons_succ]
                refine wpAnyH_ready (rs := [16]) (by kernel_rfl) (by simp) ?_
                refine AllReadyH.cons rfl (fun K hK => ?_) AllReadyH.nil
                rw [if_pos (by rfl)]
                try simp only [List.getElem_toArray, List.getElem_cons_succ, List.getElem_cons_zero]
                refine wp_store_mid 36 _ _ (by rfl) t12 0 #[.int .u64 1048576, .slice A1' y2.ws.length c1', .int .i64 8, .slice A2' y2.es.length c2', .slice A3' y2.ks.length c3', .bool true, .int .u64 4096, .int .i64 3, .slice none 0 0] (by rfl) (by rfl) (b12.there rfl) sizeX O9.out ?_
                obtain ⟨u2, hu2⟩ : ∃ u2, World.setCells u1 t12 0 [.int .u64 1048576, .slice A1' y2.ws.length c1', .int .i64 8, .slice A2' y2.es.length c2', .slice A3' y2.ks.length c3', .bool true, .int .u64 4096, .int .i64 3, .slice none 0 0] = u2 := ⟨_, rfl⟩
                have hk16 : Kp (fun i => i = t12) u1 u2 := hu2 ▸ (Kp.refl (fun i => i = t12) u1).setCells (.inl rfl) 0 [.int .u64 1048576, .slice A1' y2.ws.length c1', .int .i64 8, .slice A2' y2.es.length c2', .slice A3' y2.ks.length c3', .bool true, .int .u64 4096, .int .i64 3, .slice none 0 0]
                have hS6 : S u2 := SK.out _ _ _ hk16 hgL.1 hne12 hHeld
                have b17' := b17.kept hk16 (fun e => hn1217 e.symm)
                have hu2' : u1.setCells t12 0 (xC 1048576 8 4096 3 true (.slice A1' y2.ws.length c1') (.slice A2' y2.es.length c2') (.slice A3' y2.ks.length c3') (.slice none 0 0)) = u2 := hu2
                rw [hu2'] at HF
                simp only [List.toList_toArray]
                rw [hu2]
                refine hK.out _ _ hS6 (fun hHeld => ?_)
                clear hK K hS6 b17 b12 hu2 hu2' O9 hk16
                try simp only [List.getElem_toArray, List.getElem_cons_succ, List.getElem_cons_zero, Act.put, List.setIfInBounds_toArray, List.set_cons_zero, List.set_cons_succ]
                refine wpAnyH_ready (rs := [17]) (by kernel_rfl) (by simp) ?_
                refine AllReadyH.cons rfl (fun K hK => ?_) AllReadyH.nil
                rw [if_pos (by rfl)]
                try simp only [List.getElem_toArray, List.getElem_cons_succ, List.getElem_cons_zero]
                refine wp_store_mid 46 _ _ (by rfl) t17 0 #[.int .i64 g1, .int .i64 g2] (by rfl) (by rfl) (b17'.there rfl) sizeF O2.out ?_
                obtain ⟨u3, hu3⟩ : ∃ u3, World.setCells u2 t17 0 [.int .i64 g1, .int .i64 g2] = u3 := ⟨_, rfl⟩
                have hk17 : Kp (fun i => i = t17) u2 u3 := hu3 ▸ (Kp.refl (fun i => i = t17) u2).setCells (.inl rfl) 0 [.int .i64 g1, .int .i64 g2]
                have hS7 : S u3 := SK.out _ _ _ hk17 hgL.2 hne17 hHeld
                rw [hu3] at HF
                simp only [List.toList_toArray]
                rw [hu3]
                refine hK.out _ _ hS7 (fun hHeld => ?_)
                clear hK K hS7 hk17 hu3 b17' O2
                have HFH := Lib.hid HF
                clear HF
                try simp only [List.getElem_toArray, List.getElem_cons_succ, List.getElem_cons_zero, Act.put, List.setIfInBounds_toArray, List.set_cons_zero, List.set_cons_succ]
                refine wpAnyH_done (by kernel_rfl) ?_ _
                go_wp2_with fail
                go_meet
                exact ⟨A1', A2', A3', c1', c2', c3', B', Y', HFH⟩
              case rest =>
                obtain ⟨A1', A2', A3', c1', c2', c3', B', Y', HI2⟩ := hcut
                have HLN2 : Hid (y2.ws.length ≤ 60 + (d + 1)) := by have := HQ3.out; have := HLN.out; rw [Hid]; omega
                have z0 := HI2.out.b17.at 0 _ rfl
                clear HI HU HLN HQ1 C11 HQ3 haddr g0 z17 hLi hav
                have HST2 : Hid ((if (g1, g2) = ((0, 0) : Nat × Nat) then storeY 1048576 8 4096 3 va fill led keep (L.drop (d + 1)) (d + 1) y2 else ((d, (g1, g2)), y2)) = ((cnt, (F1, F2)), yS)) := by rw [Hid, ← HQ4.out]; exact HST.out
                by_cases hg : g1 = 0
                · have he : (g1, g2) = ((0, 0) : Nat × Nat) := HQ2.out hg
                  have HST3 : Hid (storeY 1048576 8 4096 3 va fill led keep (L.drop (d + 1)) (d + 1) y2 = ((cnt, (F1, F2)), yS)) := by have := HST2.out; rw [if_pos he] at this; exact this
                  obtain ⟨rfl, rfl⟩ := Prod.mk.inj he
                  clear he hg HST2 HST HQ4 HQ2
                  go_wp2
                  go_roundw
                  case rel => exact ⟨d + 1, d + 1, y2, (0, 0), A1', A2', A3', c1', c2', c3', B', Y', by first | rfl | go_num, by first | rfl | go_num, by omega, HI2, HLN2, .inl ⟨rfl, rfl, HST3.out⟩⟩
                  case measure => simp [RowKit.intOf]; omega
                · have he : ¬ (g1, g2) = ((0, 0) : Nat × Nat) := fun h => hg (Prod.mk.inj h).1
                  have HST3 : Hid (((d, (g1, g2)), y2) = ((cnt, (F1, F2)), yS)) := by have := HST2.out; rw [if_neg he] at this; exact this
                  have hgb : ((g1 : Int) == 0) = false := by rw [beq_eq_false_iff_ne]; omega
                  have HG := Lib.hid hg
                  clear he hg HST2 HST HQ4 HQ2
                  go_wp2
                  go_roundw
                  case rel => exact ⟨d + 1, d, y2, (g1, g2), A1', A2', A3', c1', c2', c3', B', Y', by first | rfl | go_num, rfl, by omega, HI2, HLN2, .inr ⟨HG.out, HST3.out.symm⟩⟩
                  case measure => simp [RowKit.intOf]; omega
            · have hS := HS.out.resolve_left (fun h => hG (by rw [h.1]))
              have HE := Lib.hid hS.2
              have HL9 : Hid (y.ws.length ≤ 100) := by have := HLN.out; rw [Hid]; omega
              have hgb : ((G.1 : Int) == 0) = false := by rw [beq_eq_false_iff_ne]; omega
              clear hS HS hG HLN
              go_wp2
              go_meet
              exact ⟨d, y, G, A1, A2, A3, c1, c2, c3, B, Y, rfl, HI, HL9, HE⟩
          · obtain rfl : i = L.length := by omega
            have HE : Hid (((cnt, (F1, F2)), yS) = ((d, G), y)) := by
              rcases HS.out with ⟨rfl, rfl, h⟩ | h
              · rw [List.drop_length] at h; exact h.symm
              · exact h.2
            have HL9 : Hid (y.ws.length ≤ 100) := by have := HLN.out; rw [Hid]; omega
            clear HS HLN
            go_wp2
            go_meet
            exact ⟨d, y, G, A1, A2, A3, c1, c2, c3, B, Y, rfl, HI, HL9, HE⟩
      case rest =>
        obtain ⟨d, y, G, A1, A2, A3, c1, c2, c3, B2, Y2, rfl, HI, HL9, HE⟩ := hcut
        obtain ⟨hE1, rfl⟩ := Prod.mk.inj HE.out
        obtain ⟨hE2, hE3⟩ := Prod.mk.inj hE1
        subst hE2 hE3
        clear HE hE1 HRS HBI HWL
        have C12 := Lib.hid (HI.out.same (by have := HL9.out; omega))
        have q0 := HI.out.b16.at 0 _ rfl
        have q1 := HI.out.b16.at 1 _ rfl
        have r0 := HI.out.b17.at 0 _ rfl
        have r1 := HI.out.b17.at 1 _ rfl
        have hx := HI.out.b12
        have x0 := hx.at 0 _ rfl
        have x1 := hx.at 1 _ rfl
        have x2 := hx.at 2 _ rfl
        have x3 := hx.at 3 _ rfl
        have x4 := hx.at 4 _ rfl
        have x5 := hx.at 5 _ rfl
        have x6 := hx.at 6 _ rfl
        have x7 := hx.at 7 _ rfl
        have x8 := hx.at 8 _ rfl
        clear hx
        go_upto_region 20 with (go_at_call 12; refine C12.out.mono ?_; rintro e wA ⟨rfl, hb⟩; have HIA := Lib.hid (HI.out.below hb); clear hb)
        clear C12 q0 q1 r0 r1 x0 x1 x2 x3 x4 x5 x6 x7 x8 HI
        have HLS := Lib.hid (load_same 1048576 8 4096 3 va fill led keep (loadN n) 0 [] yS)
        have C13 := Lib.hid (HIA.out.mb.load va hva n fill led keep)
        rw [HLS.out] at C13
        generalize hRL : loadY 1048576 8 4096 3 va fill led keep (loadN n) 0 [] yS = RL at *
        have HRL2 := Lib.hid hRL
        clear HLS hRL
        obtain ⟨⟨gotL, ⟨H1, H2⟩⟩, yL⟩ := RL
        dsimp only at C13
        have z0 := HIA.out.b9.at 0 _ rfl
        have z1 := HIA.out.b9.at 1 _ rfl
        have z2 := HIA.out.b9.at 2 _ rfl
        have OH : Hid ((#[.int .i64 H1, .int .i64 H2] : Array Value).all (·.oneCell') = true) := all_oneCell_toArray (cs := [.int .i64 H1, .int .i64 H2]) (by intro u hu; simp only [List.mem_cons, List.not_mem_nil, or_false] at hu; rcases hu with rfl | rfl <;> rfl)
        have OZ : Hid ((#[.int .i64 0, .int .i64 0] : Array Value).all (·.oneCell') = true) := all_oneCell_toArray (cs := [.int .i64 0, .int .i64 0]) (by intro u hu; simp only [List.mem_cons, List.not_mem_nil, or_false] at hu; rcases hu with rfl | rfl <;> rfl)
        go_upto_region 21 with (first | (go_at_call 13; refine C13.out.mono ?_; rintro e wB ⟨Ag, cg, Gt, rfl, hm, hk, hg, hgt⟩; have HIB := Lib.hid (HIA.out.mach' hm (fun k y => .inl y) hk); have HIO := HIA; have HG := Lib.hid hg; have HGT := Lib.hid hgt; have HGM := Lib.hid (fun k (y : Gt k) => hm.mine (.inr y)); clear hm hk hg hgt) | (refine wpList_store_mid (by rfl) 43 _ _ (by rfl) t16 0 #[.int .i64 H1, .int .i64 H2] (by rfl) (by rfl) (HIB.out.b16.there rfl) sizeFault OH.out ?_; have HIC := Lib.hid (HIB.out.setF (H1, H2)); have HG2 := Lib.hid (HG.out.kept ((Kp.refl (fun i => i = t16) wB).setCells (.inl rfl) 0 [.int .i64 H1, .int .i64 H2]) (fun k y e => by have h1 := HGT.out k y; have h2 := HIA.out.b16.2.2; omega)); simp only [List.toList_toArray]; dsimp only at HIC; generalize World.setCells wB t16 0 _ = wC at *))
        clear HIA HIB z0 z1 z2 HG C13
        have HGB : Hid (∀ k, Gt k → (B2 k ∨ Gt k) ∧ ¬ Y2 k ∧ k ≠ t12 ∧ k ≠ t16 ∧ k ≠ t17) := fun k y => by
          have h1 := HGT.out k y
          have h2 := HIO.out.b12.2.2
          have h3 := HIO.out.b16.2.2
          have h4 := HIO.out.b17.2.2
          exact ⟨.inr y, fun z => by have := HIO.out.mb.mine (HIO.out.yb k z).1; omega, by omega, by omega, by omega⟩
        clear HGT HIO HGM
        go_upto_block 2 with (refine wpList_store_mid (by rfl) 46 _ _ (by rfl) t17 0 #[.int .i64 0, .int .i64 0] (by rfl) (by rfl) (HIC.out.b17.there rfl) sizeF OZ.out ?_; have HID := Lib.hid HIC.out.setG0; have HG3 := Lib.hid (HG2.out.kept ((Kp.refl (fun i => i = t17) wC).setCells (.inl rfl) 0 [.int .i64 0, .int .i64 0]) (fun k y e => (HGB.out k y).2.2.2.2 e)); simp only [List.toList_toArray]; generalize World.setCells wC t17 0 _ = D at *)
        clear HIC HG2 OZ OH
        have HN : Hid (∀ i : Nat, ((i : Int) < n ↔ i < loadN n)) := fun i => by have := HN60.out; unfold loadN; omega
        have HNL : Hid (loadN n ≤ 60) := by have := HN60.out; rw [Hid]; unfold loadN; omega
        generalize loadN n = N at *
        go_cut [21] (fun wv wx => ∃ (acc : List Nat) (Aw : Option Addr) (cw : Nat) (y : Ys) (G : Nat × Nat) (A1 A2 A3 : Option Addr) (c1 c2 c3 : Nat) (B Y : Nat → Prop), wv = .slice Aw acc.length cw ∧ acc.length ≤ 60 ∧ Hid (BI x m pt pk w1 t9 t12 t14 t16 t17 fill led keep (yL.st 1048576 8 4096 3) y (H1, H2) G A1 A2 A3 c1 c2 c3 B Y wx) ∧ Hid (RdRow wx (.slice Aw acc.length cw) acc.length (wordsV acc)) ∧ Hid (RdRow wx (.slice Ag gotL.length cg) gotL.length (wordsV gotL)) ∧ Hid (y.ws.length ≤ 200) ∧ Hid (((gotL, (H1, H2)), yL) = ((acc, G), y)))
        case first =>
          go_wp2_with fail
          go_loopw [21, 22] (fun wv iv wr => ∃ (i : Nat) (acc : List Nat) (Aw : Option Addr) (cw : Nat) (y : Ys) (G : Nat × Nat) (A1 A2 A3 : Option Addr) (c1 c2 c3 : Nat) (B Y Wn : Nat → Prop), iv = .int .i64 i ∧ wv = .slice Aw acc.length cw ∧ i ≤ N ∧ acc.length ≤ i ∧ Hid (BI x m pt pk w1 t9 t12 t14 t16 t17 fill led keep (yL.st 1048576 8 4096 3) y (H1, H2) G A1 A2 A3 c1 c2 c3 B Y wr) ∧ Hid (RowAt wr Wn 1 (.slice Aw acc.length cw) acc.length (wordsV acc)) ∧ Hid (RowAt wr Gt 1 (.slice Ag gotL.length cg) gotL.length (wordsV gotL)) ∧ Hid (∀ k, Wn k → B k ∧ ¬ Y k ∧ ¬ Gt k ∧ k ≠ t9 ∧ k ≠ t12 ∧ k ≠ t14 ∧ k ≠ t16 ∧ k ≠ t17) ∧ Hid (∀ k, Gt k → B k ∧ k ≠ t12 ∧ k ≠ t17) ∧ Hid (y.ws.length ≤ 100 + i) ∧ Hid ((G = (0, 0) ∧ acc.length = i ∧ loadY 1048576 8 4096 3 va fill led keep (N - i) i acc y = ((gotL, (H1, H2)), yL)) ∨ (G.1 ≠ 0 ∧ ((gotL, (H1, H2)), yL) = ((acc, G), y)))) (fun _ iv _ => N - (RowKit.intOf iv).toNat)
          case atStart => exact ⟨0, [], none, 0, yS, (0, 0), A1, A2, A3, c1, c2, c3, _, Y2, noF, rfl, rfl, by omega, by simp, HID, RowAt.nil _ _ _, HG3, fun k y => y.elim, fun k y => ⟨(HGB.out k y).1, (HGB.out k y).2.2.1, (HGB.out k y).2.2.2.2⟩, HL9, .inl ⟨rfl, rfl, HRL2.out⟩⟩
          case round =>
            clear HID HG3 HGB HL9 HRL2
            obtain ⟨i, acc, Aw, cw, y, G, A1, A2, A3, c1, c2, c3, B, Y, Wn, rfl, rfl, hi, hai, HI, HW, HGR, HWN, HGN, HLN, HS⟩ := hrel
            have hn60 : N ≤ 60 := HNL.out
            have g0 := HI.out.b17.at 0 _ rfl
            have z17 := HI.out.b17.2.2
            by_cases hlt : i < N
            · have d3 : decide ((i : Int) < n) = true := decide_eq_true ((HN.out i).2 hlt)
              by_cases hG : G.1 = 0
              · have hS := HS.out.resolve_right (fun h => h.1 hG)
                obtain ⟨rfl, hal, hst⟩ := hS
                have HST := Lib.hid hst
                have HAL := Lib.hid hal
                clear hst hG HS hal
                dsimp only at g0
                have hav : addrP va i < 18446744073709551616 := Nat.mod_lt _ (by omega)
                have C11 := Lib.hid (HI.out.call (by have := HLN.out; omega) 1 (addrP va i) 0 hav)
                have HQ1 := Lib.hid (fun u1 A1' A2' A3' c1' c2' c3' q1 q2 q3 hb => HI.out.acc (u' := u1) (A1' := A1') (A2' := A2') (A3' := A3') (c1' := c1') (c2' := c2') (c3' := c3') 1 (addrP va i) 0 (by omega) q1 q2 q3 hb)
                have HQ2 := Lib.hid (Ys.acc_f 1048576 8 4096 3 y 1 (addrP va i) 0 fill led keep)
                have HQ3 := Lib.hid (Ys.acc_len 1048576 8 4096 3 y 1 (addrP va i) 0 fill led keep)
                have HQ4 : Hid (loadY 1048576 8 4096 3 va fill led keep (N - i) i acc y = if (y.acc 1048576 8 4096 3 1 (addrP va i) 0 fill led keep).1.1 = (0, 0) then loadY 1048576 8 4096 3 va fill led keep (N - (i + 1)) (i + 1) (acc ++ [(y.acc 1048576 8 4096 3 1 (addrP va i) 0 fill led keep).1.2]) (y.acc 1048576 8 4096 3 1 (addrP va i) 0 fill led keep).2 else ((acc, (y.acc 1048576 8 4096 3 1 (addrP va i) 0 fill led keep).1.1), (y.acc 1048576 8 4096 3 1 (addrP va i) 0 fill led keep).2)) := by
                  rw [Hid, show N - i = (N - (i + 1)) + 1 by omega]; rfl
                have haddr : IntKind.u64.wrap ((va : Int) + IntKind.u64.wrap (IntKind.u64.wrap (i : Int) * 8)) = ((addrP va i : Nat) : Int) := addr_eq va i (by omega)
                generalize (y.acc 1048576 8 4096 3 1 (addrP va i) 0 fill led keep) = Q at *
                obtain ⟨⟨⟨g1, g2⟩, v2⟩, y2⟩ := Q
                dsimp only at HQ1 C11 HQ2 HQ3 HQ4
                have hl12 := HI.out.b12
                have x0 := hl12.at 0 _ rfl
                have x1 := hl12.at 1 _ rfl
                have x2 := hl12.at 2 _ rfl
                have x3 := hl12.at 3 _ rfl
                have x4 := hl12.at 4 _ rfl
                have x5 := hl12.at 5 _ rfl
                have x6 := hl12.at 6 _ rfl
                have x7 := hl12.at 7 _ rfl
                have x8 := hl12.at 8 _ rfl
                have e0 := HI.out.b14.at 0 _ rfl
                have e1 := HI.out.b14.at 1 _ rfl
                have e2 := HI.out.b14.at 2 _ rfl
                clear hl12
                have O9 : Hid (∀ (A1' A2' A3' : Option Addr) (c1' c2' c3' : Nat), (#[.int .u64 1048576, .slice A1' y2.ws.length c1', .int .i64 8, .slice A2' y2.es.length c2', .slice A3' y2.ks.length c3', .bool true, .int .u64 4096, .int .i64 3, .slice none 0 0] : Array Value).all (·.oneCell') = true) := fun A1' A2' A3' c1' c2' c3' => all_oneCell_toArray (cs := [.int .u64 1048576, .slice A1' y2.ws.length c1', .int .i64 8, .slice A2' y2.es.length c2', .slice A3' y2.ks.length c3', .bool true, .int .u64 4096, .int .i64 3, .slice none 0 0]) (by intro u hu; simp only [List.mem_cons, List.not_mem_nil, or_false] at hu; rcases hu with rfl | rfl | rfl | rfl | rfl | rfl | rfl | rfl | rfl <;> rfl)
                have O2 : Hid ((#[.int .i64 g1, .int .i64 g2] : Array Value).all (·.oneCell') = true) := all_oneCell_toArray (cs := [.int .i64 g1, .int .i64 g2]) (by intro u hu; simp only [List.mem_cons, List.not_mem_nil, or_false] at hu; rcases hu with rfl | rfl <;> rfl)
                have h1217 := hn1217
                go_upto_region 28 with (first | (go_at_call 11; (try rw [haddr]); refine C11.out.mono ?_; rintro e u1 ⟨A1', c1', A2', c2', A3', c3', rfl, q1, q2, q3, hb⟩; have HF := Lib.hid (HQ1.out u1 A1' A2' A3' c1' c2' c3' q1 q2 q3 hb); have b12 := Lib.hid (HI.out.b12.below hb); have b17 := Lib.hid (HI.out.b17.below hb); have HW1 := Lib.hid (HW.out.below hb); have HG1 := Lib.hid (HGR.out.below hb); have HSZ : Hid (wr.heap.size ≤ u1.heap.size) := hb.size; clear q1 q2 q3 hb x0 x1 x2 x3 x4 x5 x6 x7 x8 e0 e1 e2) | (refine wpList_store_mid (by rfl) 36 _ _ (by rfl) t12 0 #[.int .u64 1048576, .slice A1' y2.ws.length c1', .int .i64 8, .slice A2' y2.es.length c2', .slice A3' y2.ks.length c3', .bool true, .int .u64 4096, .int .i64 3, .slice none 0 0] (by rfl) (by rfl) (b12.out.there rfl) sizeX (O9.out A1' A2' A3' c1' c2' c3') ?_; have hUU : ∃ u2, World.setCells u1 t12 0 [.int .u64 1048576, .slice A1' y2.ws.length c1', .int .i64 8, .slice A2' y2.es.length c2', .slice A3' y2.ks.length c3', .bool true, .int .u64 4096, .int .i64 3, .slice none 0 0] = u2 := ⟨_, rfl⟩; obtain ⟨u2, hu2⟩ := hUU; have hk16 : Kp (fun i => i = t12) u1 u2 := hu2 ▸ (Kp.refl (fun i => i = t12) u1).setCells (.inl rfl) 0 [.int .u64 1048576, .slice A1' y2.ws.length c1', .int .i64 8, .slice A2' y2.es.length c2', .slice A3' y2.ks.length c3', .bool true, .int .u64 4096, .int .i64 3, .slice none 0 0]; have b17' := Lib.hid (b17.out.kept hk16 (fun e => h1217 e.symm)); have HU2 : Hid (u1.heap.size ≤ u2.heap.size) := hk16.size; have HW2 := Lib.hid (HW1.out.kept hk16 (fun k y e => (HWN.out k y).2.2.2.2.1 e)); have HG2 := Lib.hid (HG1.out.kept hk16 (fun k y e => (HGN.out k y).2.1 e)); have hu2' : u1.setCells t12 0 (xC 1048576 8 4096 3 true (.slice A1' y2.ws.length c1') (.slice A2' y2.es.length c2') (.slice A3' y2.ks.length c3') (.slice none 0 0)) = u2 := hu2; rw [hu2'] at HF; simp only [List.toList_toArray]; rw [hu2]; clear hu2 hu2' hk16 b12 b17 HW1 HG1) | (refine wpList_store_mid (by rfl) 46 _ _ (by rfl) t17 0 #[.int .i64 g1, .int .i64 g2] (by rfl) (by rfl) (b17'.out.there rfl) sizeF O2.out ?_; have hUU : ∃ u3, World.setCells u2 t17 0 [.int .i64 g1, .int .i64 g2] = u3 := ⟨_, rfl⟩; obtain ⟨u3, hu3⟩ := hUU; have hk17 : Kp (fun i => i = t17) u2 u3 := hu3 ▸ (Kp.refl (fun i => i = t17) u2).setCells (.inl rfl) 0 [.int .i64 g1, .int .i64 g2]; have HW3 := Lib.hid (HW2.out.kept hk17 (fun k y e => (HWN.out k y).2.2.2.2.2.2.2 e)); have HG3 := Lib.hid (HG2.out.kept hk17 (fun k y e => (HGN.out k y).2.2 e)); have HU3 := Lib.hid (Nat.le_trans HU2.out hk17.size); rw [hu3] at HF; simp only [List.toList_toArray]; rw [hu3]; clear hu3 hk17 b17' HW2 HG2))
                have HLN2 : Hid (y2.ws.length ≤ 100 + (i + 1)) := by have := HQ3.out; have := HLN.out; rw [Hid]; omega
                have f0 := HF.out.b17.at 0 _ rfl
                have HMI := Lib.hid (fun k (z : B k) => HI.out.mb.mine z)
                have HYB := Lib.hid (fun k (z : Y k) => (HI.out.yb k z).1)
                have hz17 := HF.out.b17.2.2
                clear HQ1 C11 HQ3 haddr g0 z17 hav HW HGR HLN O9 O2
                have HST2 : Hid ((if (g1, g2) = ((0, 0) : Nat × Nat) then loadY 1048576 8 4096 3 va fill led keep (N - (i + 1)) (i + 1) (acc ++ [v2]) y2 else ((acc, (g1, g2)), y2)) = ((gotL, (H1, H2)), yL)) := by rw [Hid, ← HQ4.out]; exact HST.out
                have HNE := HI.out.ne
                by_cases hg : g1 = 0
                · have he : (g1, g2) = ((0, 0) : Nat × Nat) := HQ2.out hg
                  have HST3 : Hid (loadY 1048576 8 4096 3 va fill led keep (N - (i + 1)) (i + 1) (acc ++ [v2]) y2 = ((gotL, (H1, H2)), yL)) := by have := HST2.out; rw [if_pos he] at this; exact this
                  obtain ⟨rfl, rfl⟩ := Prod.mk.inj he
                  clear he hg HST2 HST HQ4 HQ2
                  obtain ⟨i0, hi0, hzz0, hzz1, hzz2⟩ := info_parts infoU
                  have I0 := Lib.hid hi0
                  have I1 := Lib.hid hzz0
                  have I2 := Lib.hid hzz1
                  have I3 := Lib.hid hzz2
                  have HA60 : Hid (acc.length ≤ 60) := by rw [Hid]; omega
                  have HFG := Lib.hid (HF.out.grow (below1 u3 (.cells #[.int .u64 v2] 23)))
                  have HW4 := Lib.hid (HW3.out.below (below1 u3 (.cells #[.int .u64 v2] 23)))
                  have HG4 := Lib.hid (HG3.out.below (below1 u3 (.cells #[.int .u64 v2] 23)))
                  have HZ3 : Hid (u1.heap.size ≤ u3.heap.size) := HU3.out
                  clear hi0 hzz0 hzz1 hzz2
                  go_wp2_with (at_builtin; refine wpList_append_row (by rfl) _ _ 24 (by rfl) 23 i0 (.int .u64 0) 1 8 Tryz.underlying24 I0.out I1.out I2.out I3.out rfl (by omega) Wn (.slice Aw acc.length cw) acc.length (wordsV acc) (by rfl) HW4.out ⟨u3.heap.size, 0, none⟩ 1 1 [.int .u64 v2] (by rfl) (by omega) rfl (by intro j u hu; rw [Addr.add_mid]; exact range_new u3 #[.int .u64 v2] 23 j u hu) (by intro u hu; rw [List.mem_singleton.1 hu]; rfl) (by have := HA60.out; unfold maxLen; omega) (by have := HA60.out; omega) ?_; intro Aw' cw' u5 hrow hk5; have HR5 := Lib.hid hrow; have HK5 := Lib.hid hk5; clear hrow hk5)
                  have hEE : ∀ k, Wn k → ((B k ∨ (wr.heap.size ≤ k ∧ k < u1.heap.size)) ∨ (u3.heap.size ≤ k ∧ k < (u3.alloc (.cells #[.int .u64 v2] 23)).heap.size)) ∧ ¬ (Y k ∨ (wr.heap.size ≤ k ∧ k < u1.heap.size)) ∧ k ≠ t9 ∧ k ≠ t12 ∧ k ≠ t14 ∧ k ≠ t16 ∧ k ≠ t17 := fun k z => by
                    obtain ⟨a1, a2, a3, a4, a5, a6, a7, a8⟩ := HWN.out k z
                    have a9 := HMI.out k a1
                    refine ⟨.inl (.inl a1), fun q => ?_, a4, a5, a6, a7, a8⟩
                    rcases q with q | q
                    · exact a2 q
                    · omega
                  have HFF := Lib.hid (HFG.out.ownGrow HK5.out hEE)
                  have HGE := Lib.hid hEE
                  clear hEE
                  go_roundw
                  case rel =>
                    have hs5 := HK5.out.size
                    have hsa : (u3.alloc (.cells #[.int .u64 v2] 23)).heap.size = u3.heap.size + 1 := World.size_alloc _ _
                    have h17 := HFG.out.b17.2.2
                    have hzz := HZ3.out
                    have hsz := HSZ.out
                    refine ⟨i + 1, acc ++ [v2], Aw', cw', y2, (0, 0), A1', A2', A3', c1', c2', c3', _, _, fun k => (Wn k ∨ (u3.alloc (.cells #[.int .u64 v2] 23)).heap.size ≤ k) ∧ k < u5.heap.size, by first | rfl | go_num, by simp, by omega, by simp; omega, HFF, ?_, HG4.out.kept HK5.out (fun k z w => (HWN.out k w).2.2.1 z), fun k z => ?_, fun k z => ?_, HLN2, .inl ⟨rfl, by have := HAL.out; rw [List.length_append, this]; rfl, HST3.out⟩⟩
                    · have hr := HR5.out
                      rw [List.length_append, show wordsV (acc ++ [v2]) = wordsV acc ++ [.int .u64 v2] by simp [wordsV]]
                      exact hr.mono (fun k hk z => ⟨z, hk⟩)
                    · obtain ⟨z, hz⟩ := z
                      rcases z with z | z
                      · obtain ⟨b1, b2, b3⟩ := HGE.out k z
                        exact ⟨.inl b1, b2, (HWN.out k z).2.2.1, b3⟩
                      · refine ⟨.inr ⟨z, hz⟩, fun q => ?_, fun q => ?_, by omega, by omega, by omega, by omega, by omega⟩
                        · rcases q with q | q
                          · have := HMI.out k (HYB.out k q); omega
                          · omega
                        · have := HMI.out k (HGN.out k q).1; omega
                    · obtain ⟨b1, b2, b3⟩ := HGN.out k z
                      exact ⟨.inl (.inl (.inl b1)), b2, b3⟩
                  case measure => simp [RowKit.intOf]; omega
                · have he : ¬ (g1, g2) = ((0, 0) : Nat × Nat) := fun h => hg (Prod.mk.inj h).1
                  have HST3 : Hid (((acc, (g1, g2)), y2) = ((gotL, (H1, H2)), yL)) := by have := HST2.out; rw [if_neg he] at this; exact this
                  have hgb : ((g1 : Int) == 0) = false := by rw [beq_eq_false_iff_ne]; omega
                  have HG := Lib.hid hg
                  clear he hg HST2 HST HQ4 HQ2
                  go_wp2
                  go_roundw
                  case rel =>
                    refine ⟨i + 1, acc, Aw, cw, y2, (g1, g2), A1', A2', A3', c1', c2', c3', _, _, Wn, by first | rfl | go_num, rfl, by omega, by omega, HF, HW3, HG3, fun k z => ?_, fun k z => ?_, HLN2, .inr ⟨HG.out, HST3.out.symm⟩⟩
                    · obtain ⟨a1, a2, a3⟩ := HWN.out k z
                      have a9 := HMI.out k a1
                      refine ⟨.inl a1, fun q => ?_, a3⟩
                      rcases q with q | q
                      · exact a2 q
                      · omega
                    · obtain ⟨b1, b2, b3⟩ := HGN.out k z
                      exact ⟨.inl b1, b2, b3⟩
                  case measure => simp [RowKit.intOf]; omega
              · have hS := HS.out.resolve_left (fun h => hG (by rw [h.1]))
                have HE := Lib.hid hS.2
                have HL9 : Hid (y.ws.length ≤ 200) := by have := HLN.out; rw [Hid]; omega
                have hgb : ((G.1 : Int) == 0) = false := by rw [beq_eq_false_iff_ne]; omega
                clear hS HS hG HLN
                go_wp2
                go_meet
                exact ⟨acc, Aw, cw, y, G, A1, A2, A3, c1, c2, c3, B, Y, rfl, by omega, HI, HW.out.rd, HGR.out.rd, HL9, HE⟩
            · obtain rfl : i = N := by omega
              have d3 : decide ((i : Int) < n) = false := decide_eq_false (fun h => hlt ((HN.out i).1 h))
              have HE : Hid (((gotL, (H1, H2)), yL) = ((acc, G), y)) := by
                rcases HS.out with ⟨rfl, _, h⟩ | h
                · rw [Nat.sub_self] at h; exact h.symm
                · exact h.2
              have HL9 : Hid (y.ws.length ≤ 200) := by have := HLN.out; rw [Hid]; omega
              clear HS HLN
              go_wp2
              go_meet
              exact ⟨acc, Aw, cw, y, G, A1, A2, A3, c1, c2, c3, B, Y, rfl, by omega, HI, HW.out.rd, HGR.out.rd, HL9, HE⟩
        case rest =>
          obtain ⟨acc, Aw, cw, y, G, A1, A2, A3, c1, c2, c3, B, Y, rfl, hacc, HI, HW, HGR, HL, HE⟩ := hcut
          obtain ⟨hE1, rfl⟩ := Prod.mk.inj HE.out
          obtain ⟨rfl, rfl⟩ := Prod.mk.inj hE1
          clear HE hE1 HID HG3 HGB HL9 HRL2
          have C12 := Lib.hid (HI.out.same (by have := HL.out; omega))
          have q0 := HI.out.b16.at 0 _ rfl
          have q1 := HI.out.b16.at 1 _ rfl
          have r0 := HI.out.b17.at 0 _ rfl
          have r1 := HI.out.b17.at 1 _ rfl
          have hx := HI.out.b12
          have x0 := hx.at 0 _ rfl
          have x1 := hx.at 1 _ rfl
          have x2 := hx.at 2 _ rfl
          have x3 := hx.at 3 _ rfl
          have x4 := hx.at 4 _ rfl
          have x5 := hx.at 5 _ rfl
          have x6 := hx.at 6 _ rfl
          have x7 := hx.at 7 _ rfl
          have x8 := hx.at 8 _ rfl
          clear hx
          go_upto_region 32 with (go_at_call 12; refine C12.out.mono ?_; rintro e wA ⟨rfl, hb⟩; have HWA := Lib.hid (HW.out.below hb); have HGA := Lib.hid (HGR.out.below hb); have HBA := Lib.hid (HI.out.mb.base.trans (hb.mono HI.out.mb.base.size)); clear hb)
          clear C12 q0 q1 r0 r1 x0 x1 x2 x3 x4 x5 x6 x7 x8 HI HW HGR
          have HBF : Hid (Below w.heap.size w wA) := HBW1.out.trans (HBA.out.mono HBW1.out.size)
          go_wp2
          go_loopw [162] (fun iv wr => ∃ i : Nat, iv = .int .i64 i ∧ i ≤ gotL.length ∧ Hid (Below wA.heap.size wA wr)) (fun iv _ => gotL.length - (RowKit.intOf iv).toNat)
          case atStart => exact ⟨0, rfl, by omega, Below.refl _ _⟩
          case round =>
            obtain ⟨i, rfl, hi, HB⟩ := hrel
            by_cases hlt : i < gotL.length
            · obtain ⟨g, o, rfl, hr⟩ := HGA.out.get (by omega)
              obtain ⟨g2, o2, rfl, hr2⟩ := HWA.out.get (by omega)
              have k0 : wr.cell? ⟨g, o + i, none⟩ = some (.int .u64 gotL[i]) := keep_cell HB.out (hr i (.int .u64 gotL[i]) (by simp [wordsV, List.getElem?_eq_getElem hlt]))
              have k1 : wr.cell? ⟨g2, o2 + i, none⟩ = some (.int .u64 gotL[i]) := keep_cell HB.out (hr2 i (.int .u64 gotL[i]) (by simp [wordsV, List.getElem?_eq_getElem hlt]))
              have i1 : (0 : Int) ≤ (i : Int) := by omega
              have i2 : (i : Int) < (gotL.length : Int) := by omega
              have HLT := Lib.hid hlt
              generalize gotL[i] = y at *
              clear hr hr2
              go_wp2
              go_roundw
              case rel => exact ⟨i + 1, by first | rfl | go_num, by have := HLT.out; omega, HB⟩
              case measure => have := HLT.out; simp [RowKit.intOf]; omega
            · go_wp2
              go_ret
              exact ⟨rfl, HBF.out.trans (HB.out.mono HBF.out.size)⟩
end Go.Proofs.YtbapgngngaaojaaGreat
