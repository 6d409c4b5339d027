/- The plain side of layer 2: a text's characters, byte by byte, as the reference reads them. -/
import Derived.Test.YtbpiolklenopcaaDoorPure
namespace Go.Proofs.YtbpiolklenopcaaDoor
open Go Go.Lib
/-- A text's characters; false: it isn't told. -/
def charsF : Nat → Bs → List Nat × Bool
  | 0, _ => ([], true)
  | n + 1, l => if l = [] then ([], true) else if (decodeL l).1 = 65533 ∧ (decodeL l).2 = 1 then ([], false)
    else if (charsF n (l.drop (decodeL l).2)).2 then ((decodeL l).1 :: (charsF n (l.drop (decodeL l).2)).1, true) else ([], false)
def charsV (l : Bs) : List Nat × Bool := charsF l.length l
theorem charsF_fuel : ∀ (n m : Nat) (l : Bs), l.length ≤ n → l.length ≤ m → charsF n l = charsF m l
  | 0, m, l, hn, _ => by
    have : l = [] := List.eq_nil_of_length_eq_zero (by omega)
    subst this
    cases m <;> simp [charsF]
  | n + 1, 0, l, _, hm => by
    have : l = [] := List.eq_nil_of_length_eq_zero (by omega)
    subst this
    simp [charsF]
  | n + 1, m + 1, l, hn, hm => by
    unfold charsF
    by_cases hne : l = []
    · simp [hne]
    · have hw := decodeL_width l
      have hl : 0 < l.length := List.length_pos_iff.2 hne
      rw [if_neg hne, if_neg hne, charsF_fuel n m (l.drop (decodeL l).2) (by rw [List.length_drop]; omega) (by rw [List.length_drop]; omega)]
def joinV (acc : List Nat) (r : List Nat × Bool) : List Nat × Bool := if r.2 then (acc ++ r.1, true) else ([], false)
theorem charsV_nil : charsV [] = ([], true) := rfl
theorem charsV_bad {l : Bs} (hne : l ≠ []) (h : decodeL l = (65533, 1)) : charsV l = ([], false) := by
  have hl : 0 < l.length := List.length_pos_iff.2 hne
  unfold charsV
  obtain ⟨n, hn⟩ : ∃ n, l.length = n + 1 := ⟨l.length - 1, by omega⟩
  rw [hn]
  unfold charsF
  rw [if_neg hne, h, if_pos ⟨rfl, rfl⟩]
theorem charsV_step {l : Bs} {c w : Nat} (hne : l ≠ []) (h : decodeL l = (c, w)) (hb : ¬ (c = 65533 ∧ w = 1)) : charsV l = joinV [c] (charsV (l.drop w)) := by
  have hl : 0 < l.length := List.length_pos_iff.2 hne
  have hw := decodeL_width l
  rw [h] at hw
  unfold charsV
  obtain ⟨n, hn⟩ : ∃ n, l.length = n + 1 := ⟨l.length - 1, by omega⟩
  rw [hn]
  conv => lhs; unfold charsF
  rw [if_neg hne, h, if_neg hb, charsF_fuel n (l.drop w).length (l.drop w) (by rw [List.length_drop]; dsimp only at hw; omega) (Nat.le_refl _)]
  rfl
theorem joinV_join (a b : List Nat) (r : List Nat × Bool) : joinV a (joinV b r) = joinV (a ++ b) r := by
  unfold joinV
  cases h : r.2 <;> simp
theorem charsV_shape : ∀ (n : Nat) (l : Bs), (charsF n l).2 = false → (charsF n l).1 = []
  | 0, _, h => rfl
  | n + 1, l, h => by
    unfold charsF at h ⊢
    split
    · rfl
    · rename_i h1
      rw [if_neg h1] at h
      split
      · rfl
      · rename_i h2
        rw [if_neg h2] at h
        split
        · rename_i h3
          rw [if_pos h3] at h
          cases h
        · rfl
theorem joinV_nil (l : Bs) : joinV [] (charsV l) = charsV l := by
  unfold joinV
  cases h : (charsV l).2 with
  | true => simp; rw [← h]
  | false => simp; have := charsV_shape _ _ h; rw [← h, ← this]; rfl
theorem charsV_qs (qs : List Ch) (h : AllPc qs) : charsV (bytesOf qs) = (charsOf qs, true) := by
  induction qs with
  | nil => rfl
  | cons q t ih =>
    obtain ⟨h1, h2, h3⟩ := h.head
    rw [bytesOf_cons, charsV_step (by simp [h1]) (h3 _) h2, List.drop_left' rfl, ih h.tail]
    simp [joinV, charsOf]
theorem charsV_invalid : ∀ (n : Nat) (l : Bs), l.length ≤ n → validD l = false → charsV l = ([], false)
  | 0, l, hn, h => by
    have : l = [] := List.eq_nil_of_length_eq_zero (by omega)
    subst this
    cases h
  | n + 1, l, hn, h => by
    by_cases hne : l = []
    · subst hne; cases h
    · rw [validD_step l hne] at h
      by_cases hb : (decodeL l).1 = 65533 ∧ (decodeL l).2 = 1
      · exact charsV_bad hne (Prod.ext hb.1 hb.2)
      · rw [if_neg hb] at h
        have hw := decodeL_width l
        rw [charsV_step (c := (decodeL l).1) (w := (decodeL l).2) hne rfl hb, charsV_invalid n (l.drop (decodeL l).2) (by rw [List.length_drop]; omega) h]
        rfl
/-- A lead byte: what it bears, how many bytes, the least number. -/
def leadC (b : Nat) : Option (Nat × Nat × Nat) :=
  if b < 128 then some (b, 1, 0) else if b < 192 then none else if b < 224 then some (b - 192, 2, 128) else if b < 240 then some (b - 224, 3, 2048) else if b < 248 then some (b - 240, 4, 65536) else none
def valK (c0 : Nat) (f : Nat → Nat) : Nat → Nat
  | 0 => c0
  | k + 1 => 64 * valK c0 f k + f (k + 1) - 128
def bAt (l : Bs) (j : Nat) : Nat := (l.getD j 0).toNat
theorem bAt_lt (l : Bs) (j : Nat) : bAt l j < 256 := (l.getD j 0).toNat_lt
theorem dec_N (l : Bs) : decodeL l = decodeN l.length (bAt l 0) (bAt l 1) (bAt l 2) (bAt l 3) := decodeL_N l
theorem dec_none {l : Bs} (h : leadC (bAt l 0) = none) : decodeL l = (65533, 1) := by
  rw [dec_N]
  have hb := bAt_lt l 0
  unfold leadC at h
  unfold decodeN
  repeat' split at h
  all_goals first | (simp only [reduceCtorEq] at h; done) | skip
  all_goals (repeat' split)
  all_goals first | rfl | (exfalso; omega)
theorem valK1 (c0 : Nat) (f : Nat → Nat) : valK c0 f (2 - 1) = 64 * c0 + f 1 - 128 := rfl
theorem valK2 (c0 : Nat) (f : Nat → Nat) : valK c0 f (3 - 1) = 64 * (64 * c0 + f 1 - 128) + f 2 - 128 := rfl
theorem valK3 (c0 : Nat) (f : Nat → Nat) : valK c0 f (4 - 1) = 64 * (64 * (64 * c0 + f 1 - 128) + f 2 - 128) + f 3 - 128 := rfl
theorem lead2 {l : Bs} {n0 x : Nat} (h : decodeN n0 (bAt l 0) (bAt l 1) (bAt l 2) (bAt l 3) = (x, 2)) {y : Nat} (e : x = y) : decodeN n0 (bAt l 0) (bAt l 1) (bAt l 2) (bAt l 3) = (y, 2) := e ▸ h
theorem lead3 {l : Bs} {n0 x : Nat} (h : decodeN n0 (bAt l 0) (bAt l 1) (bAt l 2) (bAt l 3) = (x, 3)) {y : Nat} (e : x = y) : decodeN n0 (bAt l 0) (bAt l 1) (bAt l 2) (bAt l 3) = (y, 3) := e ▸ h
theorem lead4 {l : Bs} {n0 x : Nat} (h : decodeN n0 (bAt l 0) (bAt l 1) (bAt l 2) (bAt l 3) = (x, 4)) {y : Nat} (e : x = y) : decodeN n0 (bAt l 0) (bAt l 1) (bAt l 2) (bAt l 3) = (y, 4) := e ▸ h
set_option maxRecDepth 100000 in
theorem dec_full {l : Bs} {c0 n least : Nat} (hc : leadC (bAt l 0) = some (c0, n, least)) (hall : ∀ j, 1 ≤ j → j < n → j < l.length ∧ 128 ≤ bAt l j ∧ bAt l j ≤ 191)
    (ht : ¬ (valK c0 (bAt l) (n - 1) < least ∨ valK c0 (bAt l) (n - 1) > 1114111 ∨ 55296 ≤ valK c0 (bAt l) (n - 1) ∧ valK c0 (bAt l) (n - 1) ≤ 57343)) :
    decodeL l = (valK c0 (bAt l) (n - 1), n) := by
  rw [dec_N]
  have hb := bAt_lt l 0
  unfold leadC at hc
  repeat' split at hc
  all_goals first | (simp only [reduceCtorEq] at hc; done) | (simp only [Option.some.injEq, Prod.mk.injEq] at hc; obtain ⟨rfl, rfl, rfl⟩ := hc)
  · rw [show valK (bAt l 0) (bAt l) (1 - 1) = bAt l 0 from rfl]
    exact decodeN_ascii _ _ _ _ _ (by omega)
  · have a1 := hall 1 (by omega) (by omega)
    rw [valK1] at ht ⊢
    exact lead2 (dec2 a1.1 (by omega) (by omega) (by omega)) (by omega)
  · have a1 := hall 1 (by omega) (by omega)
    have a2 := hall 2 (by omega) (by omega)
    rw [valK2] at ht ⊢
    exact lead3 (dec3 a2.1 (by omega) (by omega) (by omega) (by omega) (by omega)) (by omega)
  · have a1 := hall 1 (by omega) (by omega)
    have a2 := hall 2 (by omega) (by omega)
    have a3 := hall 3 (by omega) (by omega)
    rw [valK3] at ht ⊢
    exact lead4 (dec4 a3.1 (by omega) (by omega) (by omega) (by omega) (by omega) (by omega)) (by omega)
theorem dec_bad {n b0 b1 b2 b3 : Nat}
    (h1 : ¬ b0 < 128) (h2 : b0 / 32 = 6 → 1 < n → b1 / 64 = 2 → b0 % 32 * 64 + b1 % 64 < 128)
    (h3 : b0 / 16 = 14 → 1 < n → b1 / 64 = 2 → 2 < n → b2 / 64 = 2 → ¬ (b0 % 16 * 4096 + b1 % 64 * 64 + b2 % 64 ≥ 2048 ∧ (b0 % 16 * 4096 + b1 % 64 * 64 + b2 % 64 < 55296 ∨ 57344 ≤ b0 % 16 * 4096 + b1 % 64 * 64 + b2 % 64)))
    (h4 : b0 / 8 = 30 → 1 < n → b1 / 64 = 2 → 2 < n → b2 / 64 = 2 → 3 < n → b3 / 64 = 2 → ¬ (65536 ≤ b0 % 8 * 262144 + b1 % 64 * 4096 + b2 % 64 * 64 + b3 % 64 ∧ b0 % 8 * 262144 + b1 % 64 * 4096 + b2 % 64 * 64 + b3 % 64 ≤ 1114111)) :
    decodeN n b0 b1 b2 b3 = (65533, 1) := by
  rcases decodeN_shape n b0 b1 b2 b3 with ⟨c, e⟩ | ⟨c1, c2, c3, cv, e⟩ | ⟨c1, c2, c3, c4, cv, cs, e⟩ | ⟨c1, c2, c3, c4, c5, cv, cw, e⟩ | e
  · exact absurd c h1
  · exact absurd cv (by have := h2 c1 c2 c3; omega)
  · exact absurd ⟨cv, cs⟩ (h3 c1 (by omega) c3 c2 c4)
  · exact absurd ⟨cv, cw⟩ (h4 c1 (by omega) c3 (by omega) c4 c2 c5)
  · exact e
theorem dec_over {l : Bs} {c0 n least : Nat} (hc : leadC (bAt l 0) = some (c0, n, least)) (hall : ∀ j, 1 ≤ j → j < n → j < l.length ∧ 128 ≤ bAt l j ∧ bAt l j ≤ 191)
    (ht : valK c0 (bAt l) (n - 1) < least ∨ valK c0 (bAt l) (n - 1) > 1114111 ∨ 55296 ≤ valK c0 (bAt l) (n - 1) ∧ valK c0 (bAt l) (n - 1) ≤ 57343) :
    decodeL l = (65533, 1) := by
  rw [dec_N]
  have hb := bAt_lt l 0
  unfold leadC at hc
  repeat' split at hc
  all_goals first | (simp only [reduceCtorEq] at hc; done) | (simp only [Option.some.injEq, Prod.mk.injEq] at hc; obtain ⟨rfl, rfl, rfl⟩ := hc)
  · rw [show valK (bAt l 0) (bAt l) (1 - 1) = bAt l 0 from rfl] at ht
    omega
  · have a1 := hall 1 (by omega) (by omega)
    rw [valK1] at ht
    exact dec_bad (by omega) (by omega) (by omega) (by omega)
  · have a1 := hall 1 (by omega) (by omega)
    have a2 := hall 2 (by omega) (by omega)
    rw [valK2] at ht
    exact dec_bad (by omega) (by omega) (by omega) (by omega)
  · have a1 := hall 1 (by omega) (by omega)
    have a2 := hall 2 (by omega) (by omega)
    have a3 := hall 3 (by omega) (by omega)
    rw [valK3] at ht
    exact dec_bad (by omega) (by omega) (by omega) (by omega)
theorem dec_part {l : Bs} {c0 n least j : Nat} (hc : leadC (bAt l 0) = some (c0, n, least)) (h1 : 1 ≤ j) (h2 : j < n) (hbad : ¬ (j < l.length ∧ 128 ≤ bAt l j ∧ bAt l j ≤ 191)) :
    decodeL l = (65533, 1) := by
  rw [dec_N]
  have hb := bAt_lt l 0
  have hbj := bAt_lt l j
  unfold leadC at hc
  repeat' split at hc
  all_goals first | (simp only [reduceCtorEq] at hc; done) | (simp only [Option.some.injEq, Prod.mk.injEq] at hc; obtain ⟨rfl, rfl, rfl⟩ := hc)
  · omega
  · obtain rfl : j = 1 := by omega
    exact dec_bad (by omega) (by omega) (by omega) (by omega)
  · rcases (by omega : j = 1 ∨ j = 2) with rfl | rfl
    all_goals
      exact dec_bad (by omega) (by omega) (by omega) (by omega)
  · rcases (by omega : j = 1 ∨ j = 2 ∨ j = 3) with rfl | rfl | rfl
    all_goals
      exact dec_bad (by omega) (by omega) (by omega) (by omega)
end Go.Proofs.YtbpiolklenopcaaDoor
