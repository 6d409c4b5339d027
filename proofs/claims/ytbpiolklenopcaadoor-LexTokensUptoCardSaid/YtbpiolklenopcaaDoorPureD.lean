/- The plain side of layer 2: the texts of a line's tokens, with a blank between, are the same tokens again. -/
import Derived.Test.YtbpiolklenopcaaDoorPureB
namespace Go.Proofs.YtbpiolklenopcaaDoor
open Go Go.Lib
/-- Characters that are a token of a kind and a value, whatever stands behind a blank. -/
def WellTok (u : List Nat) (kind word : Nat) : Prop :=
  (∃ c v, u = c :: v ∧ c ≠ 32 ∧ c ≠ 9 ∧ c ≠ 35) ∧ ∀ rest, nextC (u ++ 32 :: rest) = (kind, u.length, word, 0)
theorem takeWhile_app {p : Nat → Bool} : ∀ (u rest : List Nat) (x : Nat), (∀ c ∈ u, p c = true) → p x = false → (u ++ x :: rest).takeWhile p = u
  | [], rest, x, _, hx => by simp [hx]
  | c :: u, rest, x, h, hx => by
    rw [List.cons_append, List.takeWhile_cons, if_pos (h c (by simp)), takeWhile_app u rest x (fun y hy => h y (by simp [hy])) hx]
theorem well_of {c : Nat} {t : List Nat} {kind k word : Nat} (h32 : c ≠ 32) (h9 : c ≠ 9) (h35 : c ≠ 35) (hn : nextC (c :: t) = (kind, k, word, 0)) :
    WellTok ((c :: t).take k) kind word ∧ ((c :: t).take k).length = k := by
  have hl := @nextC_len c t
  rw [hn] at hl
  have hk : 1 ≤ k ∧ k ≤ t.length + 1 := by simpa using hl
  have hlen : ((c :: t).take k).length = k := by rw [List.length_take]; simp; omega
  refine ⟨⟨?_, fun rest => ?_⟩, hlen⟩
  · obtain ⟨k, rfl⟩ : ∃ k', k = k' + 1 := ⟨k - 1, by omega⟩
    exact ⟨c, t.take k, rfl, h32, h9, h35⟩
  · unfold nextC at hn
    by_cases hp : partLen (c :: t) = 0
    · rw [if_pos hp] at hn
      have e1 := congrArg (fun x : Nat × Nat × Nat × Nat => x.1) hn
      have e2 := congrArg (fun x : Nat × Nat × Nat × Nat => x.2.1) hn
      have e3 := congrArg (fun x : Nat × Nat × Nat × Nat => x.2.2.1) hn
      have e4 := congrArg (fun x : Nat × Nat × Nat × Nat => x.2.2.2) hn
      dsimp only at e1 e2 e3 e4
      subst e1 e2 e3
      have hpc : partN c = false := by
        unfold partLen at hp
        rw [List.takeWhile_cons] at hp
        split at hp
        · simp at hp
        · rename_i h; simpa using h
      have hp2 : partLen ([c] ++ 32 :: rest) = 0 := by
        unfold partLen
        rw [List.singleton_append, List.takeWhile_cons, hpc]
        rfl
      show nextC ([c] ++ 32 :: rest) = _
      unfold nextC
      rw [if_pos hp2]
      have hs : signN c = true := by
        cases h : signN c with
        | true => rfl
        | false =>
          have e5 : (if signN c = true then 0 else 61 : Nat) = 0 := e4
          rw [h] at e5
          simp at e5
      show (3, 1, 0, (if signN c = true then 0 else 61 : Nat)) = (3, 1, 0, 0)
      rw [hs]
      rfl
    · rw [if_neg hp] at hn
      have e1 := congrArg (fun x : Nat × Nat × Nat × Nat => x.1) hn
      have e2 := congrArg (fun x : Nat × Nat × Nat × Nat => x.2.1) hn
      have e3 := congrArg (fun x : Nat × Nat × Nat × Nat => x.2.2) hn
      dsimp only at e1 e2 e3
      subst e2
      have hu : (c :: t).take (partLen (c :: t)) = (c :: t).takeWhile partN := by
        unfold partLen
        have := List.takeWhile_prefix (l := c :: t) partN
        exact (List.prefix_iff_eq_take.1 this).symm
      have hall : ∀ x ∈ (c :: t).take (partLen (c :: t)), partN x = true := by
        rw [hu]
        intro x hx
        exact List.all_eq_true.1 (List.all_takeWhile (l := c :: t) (p := partN)) x hx
      generalize (c :: t).take (partLen (c :: t)) = u at hlen e1 e3 hall
      have hp2 : partLen (u ++ 32 :: rest) = u.length := by
        unfold partLen
        rw [takeWhile_app u rest 32 hall (by decide)]
      unfold nextC
      rw [hp2, if_neg (by omega), List.take_left' rfl]
      rw [e1, hlen]
      exact congrArg (fun x => (kind, partLen (c :: t), x)) e3
/-- What is true of each token of a text. -/
theorem tokC_well : ∀ (n : Nat) (cs : List Nat) (at_ : Nat), (tokC n cs at_).2.1 = 0 → ∀ x ∈ (tokC n cs at_).1, at_ ≤ x.at_ ∧ x.at_ + x.len ≤ at_ + cs.length ∧ WellTok ((cs.drop (x.at_ - at_)).take x.len) x.kind x.word ∧ ((cs.drop (x.at_ - at_)).take x.len).length = x.len
  | 0, _, _, _, x, hx => by simp [tokC] at hx
  | n + 1, [], _, _, x, hx => by simp [tokC] at hx
  | n + 1, c :: t, at_, he, x, hx => by
    unfold tokC at he hx
    by_cases h1 : c = 32 ∨ c = 9
    · rw [if_pos h1] at he hx
      have h := tokC_well n t (at_ + 1) he x hx
      refine ⟨by omega, by simp; omega, ?_⟩
      rw [show x.at_ - at_ = (x.at_ - (at_ + 1)) + 1 by omega, List.drop_succ_cons]
      exact h.2.2
    · rw [if_neg h1] at he hx
      by_cases h2 : c = 35
      · rw [if_pos h2] at hx
        simp at hx
      · rw [if_neg h2] at he hx
        dsimp only at he hx
        by_cases h3 : (nextC (c :: t)).2.2.2 ≠ 0
        · rw [if_pos h3] at hx
          simp at hx
        · rw [if_neg h3] at he hx
          have hl := @nextC_len c t
          obtain ⟨kind, k, word, err, hN⟩ : ∃ kind k word err, nextC (c :: t) = (kind, k, word, err) := ⟨_, _, _, _, rfl⟩
          rw [hN] at he hx h3 hl
          dsimp only at he hx h3 hl
          obtain rfl : err = 0 := by omega
          by_cases h4 : (tokC n ((c :: t).drop k) (at_ + k)).2.1 ≠ 0
          · rw [if_pos h4] at he
            exact absurd he h4
          · rw [if_neg h4] at hx
            dsimp only at hx
            rcases List.mem_cons.1 hx with rfl | hx
            · have hw := well_of (c := c) (t := t) (by omega) (by omega) h2 hN
              dsimp only
              rw [Nat.sub_self, List.drop_zero]
              exact ⟨Nat.le_refl _, by omega, hw⟩
            · have h := tokC_well n ((c :: t).drop k) (at_ + k) (by omega) x hx
              rw [List.drop_drop, List.length_drop] at h
              refine ⟨by omega, by omega, ?_⟩
              rw [show x.at_ - at_ = k + (x.at_ - (at_ + k)) by omega]
              exact h.2.2
/-- The texts, with a blank behind each. -/
def texts (qs : List Ch) (l : List Tk) : List Ch := (l.map fun x => (qs.drop x.at_).take x.len ++ [(32, [32])]).flatten
theorem texts_nil (qs : List Ch) : texts qs [] = [] := rfl
theorem texts_cons (qs : List Ch) (x : Tk) (l : List Tk) : texts qs (x :: l) = (qs.drop x.at_).take x.len ++ (32, [32]) :: texts qs l := by simp [texts]
theorem texts_append (qs : List Ch) (a b : List Tk) : texts qs (a ++ b) = texts qs a ++ texts qs b := by simp [texts]
theorem texts_all {qs : List Ch} (h : AllPc qs) (l : List Tk) : AllPc (texts qs l) := by
  induction l with
  | nil => intro q hq; simp [texts] at hq
  | cons x l ih =>
    rw [texts_cons]
    refine AllPc.append ((h.drop _).take _) ?_
    intro q hq
    rcases List.mem_cons.1 hq with rfl | hq
    · exact pc_of_ascii 32 (by decide)
    · exact ih q hq
/-- The tokens of the texts. -/
def again : List Tk → Nat → List Tk
  | [], _ => []
  | x :: l, at_ => ⟨x.kind, at_, x.len, x.word⟩ :: again l (at_ + x.len + 1)
theorem again_len : ∀ (l : List Tk) (at_ : Nat), (again l at_).length = l.length
  | [], _ => rfl
  | x :: l, at_ => by simp [again, again_len l]
theorem charsOf_sub (qs : List Ch) (a b : Nat) : charsOf ((qs.drop a).take b) = ((charsOf qs).drop a).take b := by unfold charsOf; rw [List.map_take, List.map_drop]
theorem charsOf_append (a b : List Ch) : charsOf (a ++ b) = charsOf a ++ charsOf b := by simp [charsOf]
theorem tokF_texts (qs : List Ch) : ∀ (l : List Tk) (at_ : Nat), (∀ x ∈ l, WellTok (((charsOf qs).drop x.at_).take x.len) x.kind x.word ∧ (((charsOf qs).drop x.at_).take x.len).length = x.len) →
    tokF (charsOf (texts qs l)) at_ = (again l at_, 0, 0)
  | [], at_, _ => rfl
  | x :: l, at_, h => by
    obtain ⟨⟨⟨c, v, hu, h32, h9, h35⟩, hw⟩, hlen⟩ := h x (by simp)
    have ih := tokF_texts qs l (at_ + x.len + 1) (fun y hy => h y (by simp [hy]))
    rw [texts_cons, charsOf_append, charsOf_sub]
    have hc : charsOf ((32, [32]) :: texts qs l) = 32 :: charsOf (texts qs l) := rfl
    rw [hc]
    have hn := hw (charsOf (texts qs l))
    generalize ((charsOf qs).drop x.at_).take x.len = u at hu hn hlen
    subst hu
    rw [List.cons_append] at hn ⊢
    rw [tokF_ok (by omega) h35 (by rw [hn]), hn, hlen]
    dsimp only
    rw [← List.cons_append, List.drop_left' hlen, tokF_blank (.inl rfl), ih]
    simp [joinT, again]
theorem tokC_from : ∀ (n : Nat) (cs : List Nat) (at_ : Nat), ∀ x ∈ (tokC n cs at_).1, at_ ≤ x.at_
  | 0, _, _, x, hx => by simp [tokC] at hx
  | n + 1, [], _, x, hx => by simp [tokC] at hx
  | n + 1, c :: t, at_, x, hx => by
    unfold tokC at hx
    split at hx
    · have := tokC_from n _ _ x hx; omega
    · split at hx
      · simp at hx
      · dsimp only at hx
        split at hx
        · simp at hx
        · split at hx
          · have := tokC_from n _ _ x hx; omega
          · rcases List.mem_cons.1 hx with rfl | hx
            · exact Nat.le_refl _
            · have := tokC_from n _ _ x hx; omega
/-- The same, from a place on. -/
def textsR (qs : List Ch) (at_ : Nat) (l : List Tk) : List Ch := (l.map fun x => (qs.drop (x.at_ - at_)).take x.len ++ [(32, [32])]).flatten
theorem textsR_shift (qs : List Ch) (k at_ : Nat) (l : List Tk) (h : ∀ x ∈ l, at_ + k ≤ x.at_) : textsR qs at_ l = textsR (qs.drop k) (at_ + k) l := by
  unfold textsR
  congr 1
  refine List.map_congr_left fun x hx => ?_
  have := h x hx
  rw [List.drop_drop, show x.at_ - at_ = k + (x.at_ - (at_ + k)) by omega]
theorem bytes_split (qs : List Ch) (k : Nat) : (bytesOf qs).length = (bytesOf (qs.take k)).length + (bytesOf (qs.drop k)).length := by
  rw [← List.length_append, ← bytesOf_append, List.take_append_drop]
theorem tokC_bytes : ∀ (n : Nat) (qs : List Ch) (at_ : Nat), AllPc qs → (bytesOf (textsR qs at_ (tokC n (charsOf qs) at_).1)).length ≤ 2 * (bytesOf qs).length
  | 0, qs, at_, _ => by simp [tokC, textsR, bytesOf]
  | n + 1, [], at_, _ => by simp [charsOf, tokC, textsR, bytesOf]
  | n + 1, q :: t, at_, hq => by
    have hc : charsOf (q :: t) = q.1 :: charsOf t := rfl
    rw [hc]
    unfold tokC
    split
    · have h := tokC_bytes n t (at_ + 1) hq.tail
      rw [textsR_shift (q :: t) 1 at_ _ (fun x hx => tokC_from n _ _ x hx)]
      rw [bytesOf_cons, List.length_append]
      show (bytesOf (textsR t (at_ + 1) _)).length ≤ _
      omega
    · split
      · simp [textsR, bytesOf]
      · dsimp only
        split
        · simp [textsR, bytesOf]
        · have hl := @nextC_len q.1 (charsOf t)
          generalize nextC (q.1 :: charsOf t) = N at hl ⊢
          obtain ⟨kind, k, word, err⟩ := N
          dsimp only at hl ⊢
          have hd : (q.1 :: charsOf t).drop k = charsOf ((q :: t).drop k) := by rw [← hc]; unfold charsOf; rw [List.map_drop]
          rw [hd]
          split
          · have h := tokC_bytes n ((q :: t).drop k) (at_ + k) (hq.drop k)
            rw [textsR_shift (q :: t) k at_ _ (fun x hx => tokC_from n _ _ x hx)]
            have := bytes_split (q :: t) k
            omega
          · have h := tokC_bytes n ((q :: t).drop k) (at_ + k) (hq.drop k)
            have hs := textsR_shift (q :: t) k at_ (tokC n (charsOf ((q :: t).drop k)) (at_ + k)).1 (fun x hx => tokC_from n _ _ x hx)
            have hone : ∀ (x : Tk) (l : List Tk), textsR (q :: t) at_ (x :: l) = ((q :: t).drop (x.at_ - at_)).take x.len ++ (32, [32]) :: textsR (q :: t) at_ l := fun x l => by simp [textsR]
            rw [hone, hs]
            dsimp only
            rw [Nat.sub_self, List.drop_zero, bytesOf_append, bytesOf_cons, List.length_append, List.length_append]
            have h1 : 1 ≤ (bytesOf ((q :: t).take k)).length := by
              obtain ⟨k, rfl⟩ : ∃ k', k = k' + 1 := ⟨k - 1, by omega⟩
              rw [List.take_succ_cons, bytesOf_cons, List.length_append]
              have := pc_len hq.head
              omega
            have := bytes_split (q :: t) k
            simp only [List.length_cons, List.length_nil]
            omega
theorem texts_bytes (qs : List Ch) (h : AllPc qs) : (bytesOf (texts qs (tokF (charsOf qs) 0).1)).length ≤ 2 * (bytesOf qs).length := by
  have := tokC_bytes (charsOf qs).length qs 0 h
  unfold textsR at this
  simp only [Nat.sub_zero] at this
  exact this
/-- Where a text's token stands among the texts. -/
theorem again_at (qs : List Ch) : ∀ (l : List Tk) (a i : Nat) (hi : i < l.length), (∀ x ∈ l, ((qs.drop x.at_).take x.len).length = x.len) →
    (again l a)[i]? = some ⟨(l[i]'hi).kind, a + (texts qs (l.take i)).length, (l[i]'hi).len, (l[i]'hi).word⟩
  | x :: l, a, 0, _, _ => rfl
  | x :: l, a, i + 1, hi, h => by
    have ih := again_at qs l (a + x.len + 1) i (by simpa using hi) (fun y hy => h y (by simp [hy]))
    have hx := h x (by simp)
    have hi2 : i < l.length := by simpa using hi
    have e : a + x.len + 1 + (texts qs (l.take i)).length = a + (texts qs ((x :: l).take (i + 1))).length := by
      rw [List.take_succ_cons, texts_cons, List.length_append, hx, List.length_cons]
      omega
    rw [← e]
    exact ih
theorem texts_sub (qs : List Ch) : ∀ (l : List Tk) (i : Nat) (hi : i < l.length), (∀ x ∈ l, ((qs.drop x.at_).take x.len).length = x.len) →
    ((texts qs l).drop (texts qs (l.take i)).length).take (l[i]'hi).len = (qs.drop (l[i]'hi).at_).take (l[i]'hi).len
  | x :: l, 0, hi, h => by
    have hx := h x (by simp)
    show ((texts qs (x :: l)).drop 0).take x.len = (qs.drop x.at_).take x.len
    rw [texts_cons, List.drop_zero, List.take_left' hx]
  | x :: l, i + 1, hi, h => by
    have hi2 : i < l.length := by simpa using hi
    have ih := texts_sub qs l i hi2 (fun y hy => h y (by simp [hy]))
    have e : (texts qs (x :: l)).drop (texts qs ((x :: l).take (i + 1))).length = (texts qs l).drop (texts qs (l.take i)).length := by
      rw [List.take_succ_cons, texts_cons, texts_cons, List.length_append, List.length_cons]
      generalize (qs.drop x.at_).take x.len = u
      rw [← List.drop_drop, List.drop_left' rfl]
      rfl
    rw [e]
    exact ih
theorem texts_take_le (qs : List Ch) (l : List Tk) (i : Nat) : (bytesOf (texts qs (l.take i))).length ≤ (bytesOf (texts qs l)).length := by
  conv => rhs; rw [← List.take_append_drop i l]
  rw [texts_append, bytesOf_append, List.length_append]
  omega
end Go.Proofs.YtbpiolklenopcaaDoor
