/- The statement LexTokens, walked. -/
import Derived.Test.YtbpiolklenopcaaDoorWalkQ
import Derived.Test.YtbpiolklenopcaaDoorWalkR
import Derived.Deep.RegionHeld3
set_option linter.unusedSimpArgs false
set_option linter.unusedVariables false
namespace Go.Proofs.YtbpiolklenopcaaDoor
open Go.RowKit Go.Lib
theorem rowR_len (l : List Tk) : (rowR l).length = l.length * 4 := by
  induction l with
  | nil => rfl
  | cons x l ih =>
    have : rowR (x :: l) = tCells x ++ rowR l := by simp [rowR]
    rw [this, List.length_append, ih, List.length_cons]
    show 4 + _ = _
    omega
theorem rowR_at : ∀ (l : List Tk) (i : Nat) (h : i < l.length) (j : Nat), j < 4 → (rowR l)[i * 4 + j]? = (tCells (l[i]'h))[j]?
  | x :: l, 0, _, j, hj => by
    have : rowR (x :: l) = tCells x ++ rowR l := by simp [rowR]
    rw [this, Nat.zero_mul, Nat.zero_add, List.getElem?_append_left (show j < (tCells x).length from hj)]
    rfl
  | x :: l, i + 1, h, j, hj => by
    have : rowR (x :: l) = tCells x ++ rowR l := by simp [rowR]
    rw [this, List.getElem?_append_right (by show 4 ≤ _; omega)]
    have hh : (i + 1) * 4 + j - (tCells x).length = i * 4 + j := by show (i + 1) * 4 + j - 4 = _; omega
    rw [hh, rowR_at l i (by simpa using h) j hj]
    rfl
theorem rtok_cells {l : List Tk} {w : World} {base g cap : Nat} (h : w.ownsRow base 34 4 (.slice (some ⟨g, 0, none⟩) l.length cap) l.length (rowR l)) (i : Nat) (hi : i < l.length) :
    w.cell? ⟨g, i * 4, none⟩ = some (.int .i64 (l[i]'hi).kind) ∧ w.cell? ⟨g, i * 4 + 1, none⟩ = some (.int .i64 (l[i]'hi).at_) ∧ w.cell? ⟨g, i * 4 + 2, none⟩ = some (.int .i64 ((l[i]'hi).at_ + (l[i]'hi).len : Nat)) ∧ w.cell? ⟨g, i * 4 + 3, none⟩ = some (.int .u64 (l[i]'hi).word) := by
  have hc : ∀ j, j < 4 → w.cell? ⟨g, i * 4 + j, none⟩ = (tCells (l[i]'hi))[j]? := fun j hj => by
    rw [World.ownsRow.cellAt h (i * 4 + j) (by omega)]
    exact rowR_at l i hi j hj
  exact ⟨hc 0 (by omega), hc 1 (by omega), hc 2 (by omega), hc 3 (by omega)⟩
/-- What a round's region keeps besides its cells. -/
def CtxS (w4 w' : World) : Prop := Tabs w' ∧ Below w4.heap.size w4 w'
theorem CtxS.next {w4 w' w5 : World} (h : CtxS w4 w') (hb : Below w'.heap.size w' w5) : CtxS w4 w5 := ⟨h.1.below hb, h.2.trans (hb.mono h.2.size)⟩
theorem CtxS.drew {w4 w' : World} (h : CtxS w4 w') : CtxS w4 w'.drew := h.next (below_drewN (Below.refl _ _) 1)
theorem CtxS.fst {w4 w' : World} (h : CtxS w4 w') : Tabs w' := h.1
theorem keep_cell {w w5 : World} {b o : Nat} {v : Value} (hb : Below w.heap.size w w5) (h : w.cell? ⟨b, o, none⟩ = some v) : w5.cell? ⟨b, o, none⟩ = some v :=
  ((bcell hb).1 b o (World.block_lt_of_cell? w _ h)).trans h
set_option maxRecDepth 100000 in
set_option maxHeartbeats 8000000 in
theorem tokens_core (s : ByteArray) (qs : List Ch) (l : List Tk) (re ra n : Nat) (ok : Bool) (w : World) (hT : Tabs w) (HQ : Hid (AllPc qs)) (hqb : Hid ((bytesOf qs).length ≤ 1000)) (hsz : ¬ 1000 < s.size)
    (HLENS : Hid (∀ x ∈ l, ((qs.drop x.at_).take x.len).length = x.len ∧ x.at_ + x.len ≤ 1000)) (hl2 : l.length ≤ 2000)
    (C2 : Hid (∀ w, Tabs w → Calls Tryd.prog 8 #[.string s] w (TokPost qs w (l, re, ra))))
    (C3 : Hid (∀ w, Calls Tryd.prog 9 #[.string s] w (RTokPost w (l, re, ra))))
    (C6 : Hid (∀ w, Calls Tryd.prog 11 #[.string s] w fun e w' => e = .returned (.tuple #[.int .i64 n, .bool ok]) ∧ Below w.heap.size w w'))
    (C7 : Hid (∀ w, Tabs w → Calls Tryd.prog 12 #[.string s] w fun e w' => e = .returned (.bool ok) ∧ Below w.heap.size w w'))
    (C8 : Hid (∀ w, Tabs w → Calls Tryd.prog 10 #[.string s] w fun e w' => e = .returned (.int .i64 n) ∧ Below w.heap.size w w')) (hok : ok = false → n = 0) :
    Calls Tryd.prog 3 #[.string s] w fun e w' => e = .returned (.bool true) ∧ Below w.heap.size w w' := by
  have C1 := Lib.hid (anchor_any w hT)
  have HT0 := Lib.hid hT
  clear hT
  go_enter Tryd.func3, Tryd.ntmps3
  go_wp2_with (go_at_call 7; refine C1.out.mono ?_; rintro e w1 ⟨rfl, hb1⟩)
  have hT1 := HT0.out.below hb1
  refine (C2.out _ hT1).mono ?_
  rintro e w2 ⟨v, rfl, hown, hb2⟩
  have hT2 := hT1.below hb2
  have hB2 := hb1.trans (hb2.mono hb1.size)
  obtain ⟨A, cap, rfl⟩ := own_slice2 hown
  go_wp2_with fail
  refine (C3.out _).mono ?_
  rintro e w3 ⟨v, rfl, hown3, hb3⟩
  have hT3 := hT2.below hb3
  have hB3 := hB2.trans (hb3.mono hB2.size)
  have hO1 := own_below (own_lower hown (Nat.zero_le _)) hb3
  obtain ⟨A3, cap3, rfl⟩ := own_slice2 hown3
  have HO := Lib.hid hO1
  have HO3 := Lib.hid hown3
  have HB3 := Lib.hid hB3
  have HT3 := Lib.hid hT3
  have hz3 := hB3.size
  clear hT1 hT2 hT3 hb1 hb2 hb3 hB2 hB3 hown hown3 hO1 C1 C2 C3 HT0
  go_wp2
  go_loopw [53] (fun iv wr => ∃ i : Nat, iv = .int .i64 i ∧ i ≤ l.length ∧ Hid (CtxS w3 wr)) (fun iv _ => l.length - (RowKit.intOf iv).toNat)
  case atStart => exact ⟨0, rfl, by omega, ⟨HT3.out, Below.refl _ _⟩⟩
  case round =>
    obtain ⟨i, rfl, hi, HC⟩ := hrel
    have hzr := HC.2.size
    by_cases hlt : i < l.length
    · obtain ⟨g, cap', hA, _, hg⟩ := World.ownsRow.form HO.out (by omega)
      simp only [Value.slice.injEq, true_and] at hA
      obtain ⟨rfl, rfl⟩ := hA
      obtain ⟨g3, cap3', hA3, _, hg3⟩ := World.ownsRow.form HO3.out (by omega)
      simp only [Value.slice.injEq, true_and] at hA3
      obtain ⟨rfl, rfl⟩ := hA3
      obtain ⟨k0, k1, k2, k3⟩ := tok_cells HO.out i hlt
      obtain ⟨q0, q1, q2, q3⟩ := rtok_cells HO3.out i hlt
      have m0 := (HC.2.cell (p := ⟨g, i * 4, none⟩) hg).trans k0
      have m1 := (HC.2.cell (p := ⟨g, i * 4 + 1, none⟩) hg).trans k1
      have m2 := (HC.2.cell (p := ⟨g, i * 4 + 2, none⟩) hg).trans k2
      have m3 := (HC.2.cell (p := ⟨g, i * 4 + 3, none⟩) hg).trans k3
      have n0 := (HC.2.cell (p := ⟨g3, i * 4, none⟩) hg3).trans q0
      have n1 := (HC.2.cell (p := ⟨g3, i * 4 + 1, none⟩) hg3).trans q1
      have n2 := (HC.2.cell (p := ⟨g3, i * 4 + 2, none⟩) hg3).trans q2
      have n3 := (HC.2.cell (p := ⟨g3, i * 4 + 3, none⟩) hg3).trans q3
      have hlen := (HLENS.out l[i] (List.getElem_mem hlt)).1
      have hlen2 := (HLENS.out l[i] (List.getElem_mem hlt)).2
      have hszX : (tkText qs l[i]).size ≤ 2000 := by
        unfold tkText
        rw [strOf_size]
        have h1 := bytes_split qs l[i].at_
        have h2 := bytes_split (qs.drop l[i].at_) l[i].len
        have h3 := hqb.out
        omega
      have C5 := Lib.hid (fun w hT => count_told (tkText qs l[i]) ((qs.drop l[i].at_).take l[i].len) w hT ((HQ.out.drop _).take _) (strOf_list _) (by omega))
      rw [hlen] at C5
      have hgq : g3 < wr.heap.size := by omega
      have hgq2 : g < wr.heap.size := by omega
      have hI1 : (i : Int) < (l.length : Int) := by omega
      have hI0 : (0 : Int) ≤ (i : Int) := by omega
      generalize l[i] = x at m0 m1 m2 m3 n0 n1 n2 n3 C5 hszX hlen2
      obtain ⟨kind, at1, len, word⟩ := x
      generalize tkText qs ⟨kind, at1, len, word⟩ = X at m1 C5 hszX
      dsimp only at m0 m2 m3 n0 n1 n2 n3 C5 hlen2
      have hsub : IntKind.i64.wrap ((at1 : Int) + (len : Int) - (at1 : Int)) = (len : Int) := by rw [show (at1 : Int) + (len : Int) - (at1 : Int) = (len : Int) by omega]; exact IntWalk.i64_in _ (by omega)
      have hne : ((len : Int) == IntKind.i64.wrap ((at1 : Int) + (len : Int) - (at1 : Int))) = true := by rw [hsub]; simp
      clear k0 k1 k2 k3 q0 q1 q2 q3 hlen
      go_wp2
      obtain ⟨A1, hA1⟩ : ∃ A1, A1 = wr.alloc (.cells #[.int .i64 kind, .string X, .int .u64 word, .int .i64 at1] 32) := ⟨_, rfl⟩
      obtain ⟨A2, hA2⟩ : ∃ A2, A2 = A1.alloc (.cells #[.int .i64 kind, .int .i64 at1, .int .i64 ((at1 : Int) + (len : Int)), .int .u64 word] 34) := ⟨_, rfl⟩
      rw [← hA1, ← hA2]
      have hs1 : A1.heap.size = wr.heap.size + 1 := by rw [hA1]; simp
      have hs2 : A2.heap.size = wr.heap.size + 2 := by rw [hA2]; simp [hs1]
      have hb1 : Below wr.heap.size wr A1 := hA1 ▸ (Below.refl _ _).alloc (Nat.le_refl _) _
      have hb2 : Below A1.heap.size A1 A2 := hA2 ▸ (Below.refl _ _).alloc (Nat.le_refl _) _
      have hc := cell_four_at wr wr.heap.size (.int .i64 kind) (.string X) (.int .u64 word) (.int .i64 at1) 32 rfl
      rw [← hA1] at hc
      have hd := cell_four_at A1 (wr.heap.size + 1) (.int .i64 kind) (.int .i64 at1) (.int .i64 ((at1 : Int) + (len : Int))) (.int .u64 word) 34 hs1.symm
      rw [← hA2] at hd
      have c0 : A2.cell? ⟨wr.heap.size, 0, none⟩ = _ := keep_cell hb2 (hc 0 _ rfl)
      have c1 : A2.cell? ⟨wr.heap.size, 1, none⟩ = _ := keep_cell hb2 (hc 1 _ rfl)
      have c2 : A2.cell? ⟨wr.heap.size, 2, none⟩ = _ := keep_cell hb2 (hc 2 _ rfl)
      have c3 : A2.cell? ⟨wr.heap.size, 3, none⟩ = _ := keep_cell hb2 (hc 3 _ rfl)
      have d0 : A2.cell? ⟨wr.heap.size + 1, 0, none⟩ = _ := hd 0 _ rfl
      have d1 : A2.cell? ⟨wr.heap.size + 1, 1, none⟩ = _ := hd 1 _ rfl
      have d2 : A2.cell? ⟨wr.heap.size + 1, 2, none⟩ = _ := hd 2 _ rfl
      have d3 : A2.cell? ⟨wr.heap.size + 1, 3, none⟩ = _ := hd 3 _ rfl
      have hC2 : CtxS w3 A2 := (HC.next hb1).next hb2
      generalize wr.heap.size = G at c0 c1 c2 c3 d0 d1 d2 d3 ⊢
      clear hA1 hA2 hs1 hs2 hb1 hb2 hc hd m0 m1 m2 m3 n0 n1 n2 n3 HC
      go_region_held3 (fun w' => w'.cell? ⟨G, 0, none⟩ = some (.int .i64 kind) ∧ w'.cell? ⟨G, 1, none⟩ = some (.string X) ∧ w'.cell? ⟨G, 2, none⟩ = some (.int .u64 word) ∧ w'.cell? ⟨G, 3, none⟩ = some (.int .i64 at1) ∧
          w'.cell? ⟨G + 1, 0, none⟩ = some (.int .i64 kind) ∧ w'.cell? ⟨G + 1, 1, none⟩ = some (.int .i64 at1) ∧ w'.cell? ⟨G + 1, 2, none⟩ = some (.int .i64 ((at1 : Int) + (len : Int))) ∧ w'.cell? ⟨G + 1, 3, none⟩ = some (.int .u64 word) ∧ CtxS w3 w')
        (first
          | exact ⟨keep_cell (below_drewN (Below.refl _ _) 1) c0, keep_cell (below_drewN (Below.refl _ _) 1) c1, keep_cell (below_drewN (Below.refl _ _) 1) c2, keep_cell (below_drewN (Below.refl _ _) 1) c3, keep_cell (below_drewN (Below.refl _ _) 1) d0, keep_cell (below_drewN (Below.refl _ _) 1) d1, keep_cell (below_drewN (Below.refl _ _) 1) d2, keep_cell (below_drewN (Below.refl _ _) 1) d3, hC2.drew⟩
          | assumption
          | (go_split_ands; exact ⟨keep_cell hb5 (by assumption), keep_cell hb5 (by assumption), keep_cell hb5 (by assumption), keep_cell hb5 (by assumption), keep_cell hb5 (by assumption), keep_cell hb5 (by assumption), keep_cell hb5 (by assumption), keep_cell hb5 (by assumption), CtxS.next (by assumption) hb5⟩))
        (first | (go_split_ands; go_at_call 10; refine (C5.out _ (CtxS.fst (by assumption))).mono ?_; rintro e w5 ⟨rfl, hb5⟩))
      go_split_ands
      have HC5 : Hid (CtxS w3 w5) := by assumption
      have hz5 := HC5.2.size
      clear c0 c1 c2 c3 d0 d1 d2 d3 hC2 C5
      go_wp2
      go_roundw
      case rel => exact ⟨i + 1, by first | rfl | go_num, by omega, HC5⟩
      case measure => simp [RowKit.intOf]; omega
    · obtain rfl : i = l.length := by omega
      have hT4 := HC.1
      have hB4 := HB3.out.trans (HC.2.mono hz3)
      clear hlt HC
      cases ok with
      | true =>
        clear hok
        go_wp2_with fail
        refine (C6.out _).mono ?_
        rintro e w5 ⟨rfl, hb5⟩
        have hT5 := hT4.below hb5
        have hB5 := hB4.trans (hb5.mono hB4.size)
        clear hT4 hb5 hB4
        go_wp2_with fail
        refine (C7.out _ hT5).mono ?_
        rintro e w6 ⟨rfl, hb6⟩
        have hT6 := hT5.below hb6
        have hB6 := hB5.trans (hb6.mono hB5.size)
        clear hT5 hb6 hB5
        go_wp2_with fail
        refine (C8.out _ hT6).mono ?_
        rintro e w7 ⟨rfl, hb7⟩
        have hB7 := hB6.trans (hb7.mono hB6.size)
        clear hT6 hb7 hB6
        go_wp2
        go_ret
        refine ⟨ret_bool ?_, hB7⟩
        first | rfl | simp
      | false =>
        obtain rfl : n = 0 := hok rfl
        clear hok
        go_wp2_with fail
        refine (C6.out _).mono ?_
        rintro e w5 ⟨rfl, hb5⟩
        have hT5 := hT4.below hb5
        have hB5 := hB4.trans (hb5.mono hB4.size)
        clear hT4 hb5 hB4
        go_wp2_with fail
        refine (C7.out _ hT5).mono ?_
        rintro e w6 ⟨rfl, hb6⟩
        have hT6 := hT5.below hb6
        have hB6 := hB5.trans (hb6.mono hB5.size)
        clear hT5 hb6 hB5
        go_wp2_with fail
        refine (C8.out _ hT6).mono ?_
        rintro e w7 ⟨rfl, hb7⟩
        have hB7 := hB6.trans (hb7.mono hB6.size)
        clear hT6 hb7 hB6
        go_wp2
        go_ret
        refine ⟨ret_bool ?_, hB7⟩
        first | rfl | simp
end Go.Proofs.YtbpiolklenopcaaDoor
