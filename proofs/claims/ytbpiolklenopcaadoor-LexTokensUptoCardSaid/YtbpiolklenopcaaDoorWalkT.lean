/- The statement LexTokens, its arms joined. -/
import Derived.Test.YtbpiolklenopcaaDoorWalkS
set_option linter.unusedSimpArgs false
set_option linter.unusedVariables false
namespace Go.Proofs.YtbpiolklenopcaaDoor
open Go.RowKit Go.Lib
set_option maxRecDepth 100000 in
set_option maxHeartbeats 4000000 in
theorem tokens_huge (s : ByteArray) (n : Nat) (ok : Bool) (w : World) (hT : Tabs w) (hsz : 16384 < s.size) (hsm : s.size ≤ 1099511627776)
    (C6 : Hid (∀ w, Calls Tryd.prog 11 #[.string s] w fun e w' => e = .returned (.tuple #[.int .i64 n, .bool ok]) ∧ Below w.heap.size w w'))
    (C7 : Hid (∀ w, Tabs w → Calls Tryd.prog 12 #[.string s] w fun e w' => e = .returned (.bool ok) ∧ Below w.heap.size w w'))
    (C8 : Hid (∀ w, Tabs w → Calls Tryd.prog 10 #[.string s] w fun e w' => e = .returned (.int .i64 n) ∧ Below w.heap.size w w')) (hok : ok = false → n = 0) :
    Calls Tryd.prog 3 #[.string s] w fun e w' => e = .returned (.bool true) ∧ Below w.heap.size w w' := by
  have C1 := Lib.hid (anchor_any w hT)
  have C2 := Lib.hid (fun w => tokens_long s w hsz (by omega))
  have C3 := Lib.hid (fun w => rtokens_long s w hsz (by omega))
  have HT0 := Lib.hid hT
  have h1000 : 1000 < s.size := by omega
  clear hT
  go_enter Tryd.func3, Tryd.ntmps3
  go_wp2_with (go_at_call 7; refine C1.out.mono ?_; rintro e w1 ⟨rfl, hb1⟩)
  have hT1 := HT0.out.below hb1
  refine (C2.out _).mono ?_
  rintro e w2 ⟨rfl, hb2⟩
  have hT2 := hT1.below hb2
  have hB2 := hb1.trans (hb2.mono hb1.size)
  go_wp2_with fail
  refine (C3.out _).mono ?_
  rintro e w3 ⟨rfl, hb3⟩
  have hT4 := hT2.below hb3
  have hB4 := hB2.trans (hb3.mono hB2.size)
  clear hT1 hT2 hb1 hb2 hb3 hB2 C1 C2 C3 HT0
  go_wp2
  go_loopw [53] (fun iv wr => iv = .int .i64 0 ∧ wr = w3) (fun iv _ => 0)
  case atStart => exact ⟨rfl, rfl⟩
  case round =>
    obtain ⟨rfl, rfl⟩ := hrel
    cases ok with
    | true =>
      clear hok
      go_wp2_with fail
      refine (C6.out _).mono ?_
      rintro e w5 ⟨rfl, hb5⟩
      have hT5 := hT4.below hb5
      have hB5 := hB4.trans (hb5.mono hB4.size)
      clear hT4 hb5 hB4
      go_wp2_with fail
      refine (C7.out _ hT5).mono ?_
      rintro e w6 ⟨rfl, hb6⟩
      have hT6 := hT5.below hb6
      have hB6 := hB5.trans (hb6.mono hB5.size)
      clear hT5 hb6 hB5
      go_wp2_with fail
      refine (C8.out _ hT6).mono ?_
      rintro e w7 ⟨rfl, hb7⟩
      have hB7 := hB6.trans (hb7.mono hB6.size)
      clear hT6 hb7 hB6
      go_wp2
      go_ret
      refine ⟨ret_bool ?_, hB7⟩
      first | rfl | simp
    | false =>
      obtain rfl : n = 0 := hok rfl
      clear hok
      go_wp2_with fail
      refine (C6.out _).mono ?_
      rintro e w5 ⟨rfl, hb5⟩
      have hT5 := hT4.below hb5
      have hB5 := hB4.trans (hb5.mono hB4.size)
      clear hT4 hb5 hB4
      go_wp2_with fail
      refine (C7.out _ hT5).mono ?_
      rintro e w6 ⟨rfl, hb6⟩
      have hT6 := hT5.below hb6
      have hB6 := hB5.trans (hb6.mono hB5.size)
      clear hT5 hb6 hB5
      go_wp2_with fail
      refine (C8.out _ hT6).mono ?_
      rintro e w7 ⟨rfl, hb7⟩
      have hB7 := hB6.trans (hb7.mono hB6.size)
      clear hT6 hb7 hB6
      go_wp2
      go_ret
      refine ⟨ret_bool ?_, hB7⟩
      first | rfl | simp
set_option maxHeartbeats 4000000 in
theorem tokens_mid (s : ByteArray) (w : World) (hT : Tabs w) (h1 : 1000 < s.size) (h2 : s.size ≤ 16384) :
    Calls Tryd.prog 3 #[.string s] w fun e w' => e = .returned (.bool true) ∧ Below w.heap.size w w' := by
  have C1 := Lib.hid (anchor_any w hT)
  go_enter Tryd.func3, Tryd.ntmps3
  go_wp2_with (go_at_call 7; refine C1.out.mono ?_; rintro e w1 ⟨rfl, hb1⟩)
  go_ret
  exact ⟨rfl, hb1⟩
theorem tokens_law (s : ByteArray) (w : World) (hT : Tabs w) (hm : s.size ≤ 1099511627776) :
    Calls Tryd.prog 3 #[.string s] w fun e w' => e = .returned (.bool true) ∧ Below w.heap.size w w' := by
  by_cases hmid : 1000 < s.size ∧ s.size ≤ 16384
  · exact tokens_mid s w hT hmid.1 hmid.2
  have C6a := fun w => rcount_any s w hm
  cases hv : validD s.data.toList with
  | false =>
    have hcv := charsV_invalid _ _ (Nat.le_refl _) hv
    rw [hcv] at C6a
    have C6 : Hid (∀ w, Calls Tryd.prog 11 #[.string s] w fun e w' => e = .returned (.tuple #[.int .i64 (0 : Nat), .bool false]) ∧ Below w.heap.size w w') := C6a
    have C7 : Hid (∀ w, Tabs w → Calls Tryd.prog 12 #[.string s] w fun e w' => e = .returned (.bool false) ∧ Below w.heap.size w w') := fun w hT => by
      have h := told_any s w hT (by omega)
      rw [hv] at h
      exact h
    have C8 : Hid (∀ w, Tabs w → Calls Tryd.prog 10 #[.string s] w fun e w' => e = .returned (.int .i64 (0 : Nat)) ∧ Below w.heap.size w w') := fun w hT => count_bad s w hT hv (by omega)
    by_cases hbig : 16384 < s.size
    · exact tokens_huge s 0 false w hT hbig hm C6 C7 C8 (fun _ => rfl)
    · refine tokens_core s [] [] 60 0 0 false w hT (by intro x hx; cases hx) (by show (bytesOf []).length ≤ 1000; simp [bytesOf_nil]) (by omega) (by intro x hx; cases hx) (by simp) ?_ ?_ C6 C7 C8 (fun _ => rfl)
      · intro w hT
        refine (tokens_bad s w hT hv (by omega)).mono ?_
        rintro e w' ⟨rfl, hb⟩
        exact ⟨_, rfl, World.ownsRow_nil _ _ _ _, hb⟩
      · intro w
        refine (rtokens_bad s w hcv (by omega)).mono ?_
        rintro e w' ⟨rfl, hb⟩
        exact rtokPost_no rfl hb
  | true =>
    obtain ⟨qs, hq, hs⟩ := chars_exist _ hv
    have hcv : charsV s.data.toList = (charsOf qs, true) := by rw [hs, charsV_qs qs hq]
    rw [hcv] at C6a
    have hlen : (charsOf qs).length = qs.length := by simp [charsOf]
    have C6 : Hid (∀ w, Calls Tryd.prog 11 #[.string s] w fun e w' => e = .returned (.tuple #[.int .i64 (qs.length : Nat), .bool true]) ∧ Below w.heap.size w w') := fun w => by
      have h := C6a w
      unfold CountPost at h
      rw [hlen] at h
      exact h
    have C7 : Hid (∀ w, Tabs w → Calls Tryd.prog 12 #[.string s] w fun e w' => e = .returned (.bool true) ∧ Below w.heap.size w w') := fun w hT => by
      have h := told_any s w hT (by omega)
      rw [hv] at h
      exact h
    have C8 : Hid (∀ w, Tabs w → Calls Tryd.prog 10 #[.string s] w fun e w' => e = .returned (.int .i64 (qs.length : Nat)) ∧ Below w.heap.size w w') := fun w hT => count_told s qs w hT hq hs (by omega)
    by_cases hbig : 16384 < s.size
    · exact tokens_huge s qs.length true w hT hbig hm C6 C7 C8 (fun h => by cases h)
    · have hsm : s.size ≤ 1000 := by omega
      have hqb : (bytesOf qs).length ≤ 1000 := by rw [← size_chars hs]; exact hsm
      have hql : qs.length ≤ 1000 := Nat.le_trans (chars_le hq) hqb
      have C2 := fun w hT => tokens_told s qs w hT hq hs (by omega)
      have C3 := fun w => rtokens_told s (charsOf qs) w hcv (by omega) (by
        intro x hx
        obtain ⟨q, hq1, rfl⟩ := List.mem_map.1 hx
        exact pc_rune (hq q hq1)) (by omega)
      obtain ⟨R, hR⟩ : ∃ R, tokF (charsOf qs) 0 = R := ⟨_, rfl⟩
      by_cases he : (tokF (charsOf qs) 0).2.1 = 0
      · have hwell := tokC_well (charsOf qs).length (charsOf qs) 0 he
        have hbytes := texts_bytes qs hq
        change ∀ x ∈ (tokF (charsOf qs) 0).1, _ at hwell
        rw [hR] at C2 C3 hwell hbytes
        obtain ⟨l, re, ra⟩ := R
        have hll : ∀ l : List Tk, l.length ≤ (bytesOf (texts qs l)).length := by
          intro l
          induction l with
          | nil => simp
          | cons x l ih => rw [texts_cons, bytesOf_append, bytesOf_cons, List.length_append, List.length_append, List.length_cons]; show _ ≤ _ + (1 + _); omega
        have hl2 := hll l
        dsimp only at hbytes hwell
        refine tokens_core s qs l re ra qs.length true w hT hq hqb (by omega) ?_ (by omega) C2 C3 C6 C7 C8 (fun h => by cases h)
        intro x hx
        have h1 := hwell x hx
        refine ⟨?_, by have := h1.2.1; omega⟩
        have h2 := h1.2.2.2
        rw [Nat.sub_zero, ← charsOf_sub] at h2
        simpa [charsOf] using h2
      · have hnil := tokC_err (charsOf qs).length (charsOf qs) 0 he
        change (tokF (charsOf qs) 0).1 = [] at hnil
        rw [hR] at C2 C3 hnil
        obtain ⟨l, re, ra⟩ := R
        dsimp only at hnil
        subst hnil
        exact tokens_core s qs [] re ra qs.length true w hT hq hqb (by omega) (by intro x hx; cases hx) (by simp) C2 C3 C6 C7 C8 (fun h => by cases h)
end Go.Proofs.YtbpiolklenopcaaDoor
