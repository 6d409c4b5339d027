/- The plain side of layer 2: a text's tokens, step by step. -/
import Derived.Test.YtbpiolklenopcaaDoorPure
namespace Go.Proofs.YtbpiolklenopcaaDoor
open Go Go.Lib
theorem partLen_le (cs : List Nat) : partLen cs ≤ cs.length := (List.takeWhile_prefix partN).length_le
theorem nextC_len {c : Nat} {t : List Nat} : 1 ≤ (nextC (c :: t)).2.1 ∧ (nextC (c :: t)).2.1 ≤ (c :: t).length := by
  unfold nextC
  have h := partLen_le (c :: t)
  split
  · simp
  · exact ⟨by show 1 ≤ partLen (c :: t); omega, h⟩
theorem tokC_fuel : ∀ (n m : Nat) (cs : List Nat) (at_ : Nat), cs.length ≤ n → cs.length ≤ m → tokC n cs at_ = tokC m cs at_
  | 0, m, cs, at_, hn, _ => by
    have : cs = [] := List.eq_nil_of_length_eq_zero (by omega)
    subst this
    cases m <;> rfl
  | n + 1, 0, cs, at_, _, hm => by
    have : cs = [] := List.eq_nil_of_length_eq_zero (by omega)
    subst this
    rfl
  | n + 1, m + 1, [], at_, _, _ => rfl
  | n + 1, m + 1, c :: t, at_, hn, hm => by
    have h := @nextC_len c t
    simp only [List.length_cons] at hn hm
    unfold tokC
    rw [tokC_fuel n m t (at_ + 1) (by omega) (by omega)]
    dsimp only
    rw [tokC_fuel n m ((c :: t).drop (nextC (c :: t)).2.1) _ (by rw [List.length_drop, List.length_cons]; omega) (by rw [List.length_drop, List.length_cons]; omega)]
/-- The tokens from a character on. -/
def tokF (cs : List Nat) (at_ : Nat) : List Tk × Nat × Nat := tokC cs.length cs at_
theorem tokF_nil (at_ : Nat) : tokF [] at_ = ([], 0, 0) := rfl
theorem tokF_blank {c : Nat} {t : List Nat} {at_ : Nat} (h : c = 32 ∨ c = 9) : tokF (c :: t) at_ = tokF t (at_ + 1) := by
  unfold tokF
  rw [List.length_cons]
  conv => lhs; unfold tokC
  rw [if_pos h]
theorem tokF_remark {t : List Nat} {at_ : Nat} : tokF (35 :: t) at_ = ([], 0, 0) := by
  unfold tokF
  rw [List.length_cons]
  conv => lhs; unfold tokC
  rw [if_neg (by omega), if_pos rfl]
theorem tokF_bad {c : Nat} {t : List Nat} {at_ : Nat} (h : ¬ (c = 32 ∨ c = 9)) (h2 : c ≠ 35) (h3 : (nextC (c :: t)).2.2.2 ≠ 0) : tokF (c :: t) at_ = ([], (nextC (c :: t)).2.2.2, at_) := by
  unfold tokF
  rw [List.length_cons]
  conv => lhs; unfold tokC
  rw [if_neg h, if_neg h2]
  dsimp only
  rw [if_pos h3]
/-- Tokens that are there already, and those from a place on. -/
def joinT (l : List Tk) (r : List Tk × Nat × Nat) : List Tk × Nat × Nat := if r.2.1 ≠ 0 then r else (l ++ r.1, 0, 0)
theorem tokF_ok {c : Nat} {t : List Nat} {at_ : Nat} (h : ¬ (c = 32 ∨ c = 9)) (h2 : c ≠ 35) (h3 : (nextC (c :: t)).2.2.2 = 0) :
    tokF (c :: t) at_ = joinT [⟨(nextC (c :: t)).1, at_, (nextC (c :: t)).2.1, (nextC (c :: t)).2.2.1⟩] (tokF ((c :: t).drop (nextC (c :: t)).2.1) (at_ + (nextC (c :: t)).2.1)) := by
  have hl := @nextC_len c t
  unfold tokF
  rw [List.length_cons]
  conv => lhs; unfold tokC
  rw [if_neg h, if_neg h2]
  dsimp only
  rw [if_neg (by rw [h3]; simp)]
  rw [tokC_fuel t.length ((c :: t).drop (nextC (c :: t)).2.1).length _ _ (by rw [List.length_drop, List.length_cons]; omega) (Nat.le_refl _)]
  unfold joinT
  simp
theorem joinT_join (a b : List Tk) (r : List Tk × Nat × Nat) : joinT a (joinT b r) = joinT (a ++ b) r := by
  unfold joinT
  by_cases h : r.2.1 ≠ 0
  · rw [if_pos h, if_pos h, if_pos h]
  · rw [if_neg h, if_neg h]
    simp
theorem joinT_nil (r : List Tk × Nat × Nat) (h : r.2.1 = 0 → r.2.2 = 0) : joinT [] r = r := by
  unfold joinT
  by_cases h0 : r.2.1 ≠ 0
  · rw [if_pos h0]
  · rw [if_neg h0]
    obtain ⟨a, b, c⟩ := r
    simp at h0 h ⊢
    exact ⟨h0.symm, (h h0).symm⟩
theorem tokC_zero : ∀ (n : Nat) (cs : List Nat) (at_ : Nat), (tokC n cs at_).2.1 = 0 → (tokC n cs at_).2.2 = 0
  | 0, _, _, _ => rfl
  | n + 1, [], _, _ => rfl
  | n + 1, c :: t, at_, h => by
    unfold tokC at h ⊢
    split
    · rename_i h1
      rw [if_pos h1] at h
      exact tokC_zero n _ _ h
    · rename_i h1
      rw [if_neg h1] at h
      split
      · rfl
      · rename_i h2
        rw [if_neg h2] at h
        dsimp only at h ⊢
        split
        · rename_i h3
          rw [if_pos h3] at h
          exact absurd h h3
        · rename_i h3
          rw [if_neg h3] at h
          split
          · rename_i h4
            rw [if_pos h4] at h
            exact absurd h h4
          · rfl
theorem tokF_zero (cs : List Nat) (at_ : Nat) (h : (tokF cs at_).2.1 = 0) : (tokF cs at_).2.2 = 0 := tokC_zero _ _ _ h
theorem tokC_err : ∀ (n : Nat) (cs : List Nat) (at_ : Nat), (tokC n cs at_).2.1 ≠ 0 → (tokC n cs at_).1 = []
  | 0, _, _, _ => rfl
  | n + 1, [], _, _ => rfl
  | n + 1, c :: t, at_, h => by
    unfold tokC at h ⊢
    split
    · rename_i h1
      rw [if_pos h1] at h
      exact tokC_err n _ _ h
    · rename_i h1
      rw [if_neg h1] at h
      split
      · rfl
      · rename_i h2
        rw [if_neg h2] at h
        dsimp only at h ⊢
        split
        · rfl
        · rename_i h3
          rw [if_neg h3] at h
          split
          · rename_i h4
            rw [if_pos h4] at h
            exact tokC_err n _ _ h
          · rename_i h4
            rw [if_neg h4] at h
            exact absurd rfl h
end Go.Proofs.YtbpiolklenopcaaDoor
