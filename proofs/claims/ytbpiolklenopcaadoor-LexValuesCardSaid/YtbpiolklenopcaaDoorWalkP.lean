/- The statement LexValues, walked. -/
import Derived.Test.YtbpiolklenopcaaDoorWalkO
set_option linter.unusedSimpArgs false
set_option linter.unusedVariables false
namespace Go.Proofs.YtbpiolklenopcaaDoor
open Go.RowKit Go.Lib
theorem charsV_max : ∀ (n : Nat) (l : Bs), ∀ x ∈ (charsF n l).1, x ≤ 1114111
  | 0, _, x, h => by simp [charsF] at h
  | n + 1, l, x, h => by
    unfold charsF at h
    split at h
    · simp at h
    · split at h
      · simp at h
      · split at h
        · rcases List.mem_cons.1 h with rfl | h
          · exact decodeL_rune l
          · exact charsV_max n _ x h
        · simp at h
theorem charsV_len : ∀ (n : Nat) (l : Bs), (charsF n l).1.length ≤ n
  | 0, _ => by simp [charsF]
  | n + 1, l => by
    unfold charsF
    split
    · simp
    · split
      · simp
      · split
        · have := charsV_len n (l.drop (decodeL l).2)
          simp
          omega
        · simp
/-- lex.Value of any text is Value of its characters. -/
theorem value_all (s : ByteArray) (w : World) (hT : Tabs w) (hm : s.size ≤ 9223372036854775807) :
    Calls Tryd.prog 13 #[.string s] w fun e w' => e = .returned (.tuple #[.int .u64 (valueC (charsV s.data.toList).1).1, .int .i64 (valueC (charsV s.data.toList).1).2]) ∧ Below w.heap.size w w' := by
  cases hv : validD s.data.toList with
  | true =>
    obtain ⟨qs, hq, hs⟩ := chars_exist _ hv
    have h := value_any s qs w hT hq hs hm
    rw [hs, charsV_qs qs hq]
    exact h
  | false =>
    rw [charsV_invalid _ _ (Nat.le_refl _) hv]
    exact value_bad s w hT hv hm
set_option maxRecDepth 100000 in
set_option maxHeartbeats 4000000 in
theorem values_any (s : ByteArray) (n : Nat) (w : World) (hT : Tabs w) (hn : n ≤ mostN) (hm : s.size ≤ 9223372036854775807) :
    Calls Tryd.prog 5 #[.string s, .int .u64 n] w fun e w' => e = .returned (.bool true) ∧ Below w.heap.size w w' := by
  have C1 := Lib.hid (anchor_any w hT)
  by_cases h300 : 300 < s.size
  · go_enter Tryd.func5, Tryd.ntmps5
    go_wp2_with (go_at_call 7; refine C1.out.mono ?_; rintro e w1 ⟨rfl, hb1⟩)
    go_ret
    exact ⟨rfl, hb1⟩
  · have C2 := Lib.hid (fun w hT => value_all s w hT hm)
    have C3 := Lib.hid (fun w => rchars_any s w (by omega))
    have hmax := charsV_max s.data.toList.length s.data.toList
    have hlen := charsV_len s.data.toList.length s.data.toList
    have hsz : s.data.toList.length = s.size := Array.length_toList
    rw [hsz] at hlen hmax
    have hch : charsF s.size s.data.toList = charsV s.data.toList := by unfold charsV; rw [hsz]
    rw [hch] at hlen hmax
    generalize (charsV s.data.toList).1 = cs at C2 C3 hmax hlen
    have C4 := Lib.hid (fun (v : Value) (w : World) base (h : w.ownsRow base 3 1 v cs.length (natsV cs)) => rvalue_row h (by omega) hmax)
    have C5 := Lib.hid (fun w => show_any n w hn)
    have C6 : Hid (∀ w, Tabs w → Calls Tryd.prog 13 #[.string (strOf (showW n))] w fun e w' => e = .returned (.tuple #[.int .u64 n, .int .i64 0]) ∧ Below w.heap.size w w') := by
      intro w hT
      have h := value_any (strOf (showW n)) (ascQ (showW n)) w hT (ascQ_all (showW_asc n)) (by unfold Hid; rw [strOf_list, ascQ_bytes]) (by
        rw [strOf_size]
        unfold showW
        split
        · simp
        · have := (hexW_facts n n (Nat.le_refl _)).2.1
          unfold mostN at hn
          by_cases h0 : n = 0
          · omega
          · have h1 := this h0
            have : (hexW n).length ≤ 16 := by
              apply Nat.le_of_not_lt
              intro hk
              have e1 : 16 ^ 16 ≤ 16 ^ ((hexW n).length - 1) := Nat.pow_le_pow_right (by omega) (by omega)
              have e2 : (16 : Nat) ^ 16 = 18446744073709551616 := by decide
              omega
            simp
            omega)
      rw [show_value n hn] at h
      exact h
    generalize strOf (showW n) = S2 at C5 C6
    generalize valueC cs = V at C2 C4
    obtain ⟨v1, v2⟩ := V
    have hT0 := Lib.hid hT
    clear hT hmax hsz hch hn
    go_enter Tryd.func5, Tryd.ntmps5
    go_wp2_with (go_at_call 7; refine C1.out.mono ?_; rintro e w1 ⟨rfl, hb1⟩)
    have hT1 := hT0.out.below hb1
    refine (C2.out _ hT1).mono ?_
    rintro e w2 ⟨rfl, hb2⟩
    have hT2 := hT1.below hb2
    have hB2 := hb1.trans (hb2.mono hb1.size)
    clear hb1 hb2 hT1
    go_wp2_with fail
    refine (C3.out _).mono ?_
    rintro e w3 ⟨v, rfl, hown, hb3⟩
    have hT3 := hT2.below hb3
    have hB3 := hB2.trans (hb3.mono hB2.size)
    have C4v := Lib.hid (C4.out v w3 _ hown)
    obtain ⟨A, cap, rfl⟩ := own_slice hown
    clear hb3 hB2 hT2 hown
    go_wp2_with fail
    refine C4v.out.mono ?_
    rintro e w' ⟨rfl, rfl⟩
    go_wp2_with fail
    refine (C5.out _).mono ?_
    rintro e w' ⟨rfl, rfl⟩
    go_wp2_with fail
    refine (C6.out _ hT3).mono ?_
    rintro e w4 ⟨rfl, hb4⟩
    have hB4 := hB3.trans (hb4.mono hB3.size)
    clear hb4 hB3 hT3
    go_wp2
    go_ret
    refine ⟨ret_bool ?_, hB4⟩
    first | rfl | simp
end Go.Proofs.YtbpiolklenopcaaDoor
