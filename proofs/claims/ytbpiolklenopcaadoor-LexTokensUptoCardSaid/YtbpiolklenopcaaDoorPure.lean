/- The plain side of layer 2: characters of a text, tokens, numbers; no program in it. -/
import Derived.Lib.ValidLaws
import Derived.Lib.MapLaws
import Derived.Lib.Bytealg
import Derived.Lib.Strings
namespace Go.Proofs.YtbpiolklenopcaaDoor
open Go Go.Lib
abbrev Bs := List UInt8
/-- A character: its number, its bytes. -/
abbrev Ch := Nat × Bs
def PcOk (q : Ch) : Prop := q.2 ≠ [] ∧ ¬ (q.1 = 65533 ∧ q.2.length = 1) ∧ ∀ rest, decodeL (q.2 ++ rest) = (q.1, q.2.length)
def AllPc (qs : List Ch) : Prop := ∀ q ∈ qs, PcOk q
def bytesOf (qs : List Ch) : Bs := (qs.map (·.2)).flatten
def charsOf (qs : List Ch) : List Nat := qs.map (·.1)
theorem bytesOf_nil : bytesOf [] = [] := rfl
theorem bytesOf_cons (q : Ch) (qs : List Ch) : bytesOf (q :: qs) = q.2 ++ bytesOf qs := by simp [bytesOf]
theorem bytesOf_append (a b : List Ch) : bytesOf (a ++ b) = bytesOf a ++ bytesOf b := by simp [bytesOf]
theorem AllPc.tail {q : Ch} {qs : List Ch} (h : AllPc (q :: qs)) : AllPc qs := fun x hx => h x (List.mem_cons_of_mem _ hx)
theorem AllPc.head {q : Ch} {qs : List Ch} (h : AllPc (q :: qs)) : PcOk q := h q (by simp)
theorem AllPc.append {a b : List Ch} (ha : AllPc a) (hb : AllPc b) : AllPc (a ++ b) := fun x hx => (List.mem_append.1 hx).elim (ha x) (hb x)
theorem AllPc.take {qs : List Ch} (h : AllPc qs) (n : Nat) : AllPc (qs.take n) := fun x hx => h x (List.mem_of_mem_take hx)
theorem AllPc.drop {qs : List Ch} (h : AllPc qs) (n : Nat) : AllPc (qs.drop n) := fun x hx => h x (List.mem_of_mem_drop hx)

theorem dec2 {n b0 b1 b2 b3 : Nat} (hn : 1 < n) (h0 : b0 / 32 = 6) (h1 : b1 / 64 = 2) (hv : 128 ≤ b0 % 32 * 64 + b1 % 64) : decodeN n b0 b1 b2 b3 = (b0 % 32 * 64 + b1 % 64, 2) := by
  unfold decodeN
  rw [if_neg (by omega), if_pos ⟨h0, hn, h1⟩, if_pos hv]
theorem dec3 {n b0 b1 b2 b3 : Nat} (hn : 2 < n) (h0 : b0 / 16 = 14) (h1 : b1 / 64 = 2) (h2 : b2 / 64 = 2) (hv : 2048 ≤ b0 % 16 * 4096 + b1 % 64 * 64 + b2 % 64)
    (hs : b0 % 16 * 4096 + b1 % 64 * 64 + b2 % 64 < 55296 ∨ 57344 ≤ b0 % 16 * 4096 + b1 % 64 * 64 + b2 % 64) : decodeN n b0 b1 b2 b3 = (b0 % 16 * 4096 + b1 % 64 * 64 + b2 % 64, 3) := by
  unfold decodeN
  rw [if_neg (by omega), if_neg (by omega), if_pos ⟨h0, ⟨by omega, h1⟩, hn, h2⟩, if_pos (by omega)]
theorem dec4 {n b0 b1 b2 b3 : Nat} (hn : 3 < n) (h0 : b0 / 8 = 30) (h1 : b1 / 64 = 2) (h2 : b2 / 64 = 2) (h3 : b3 / 64 = 2) (hv : 65536 ≤ b0 % 8 * 262144 + b1 % 64 * 4096 + b2 % 64 * 64 + b3 % 64)
    (hw : b0 % 8 * 262144 + b1 % 64 * 4096 + b2 % 64 * 64 + b3 % 64 ≤ 1114111) : decodeN n b0 b1 b2 b3 = (b0 % 8 * 262144 + b1 % 64 * 4096 + b2 % 64 * 64 + b3 % 64, 4) := by
  unfold decodeN
  rw [if_neg (by omega), if_neg (by omega), if_neg (by omega), if_pos ⟨h0, ⟨by omega, h1⟩, ⟨by omega, h2⟩, hn, h3⟩, if_pos (by omega)]
/-- What is decoded well hangs on its own bytes alone. -/
theorem decode_stays (l : Bs) (hne : l ≠ []) (hv : ¬ ((decodeL l).1 = 65533 ∧ (decodeL l).2 = 1)) (rest : Bs) :
    decodeL (l.take (decodeL l).2 ++ rest) = decodeL l := by
  have hl : 0 < l.length := List.length_pos_iff.2 hne
  rw [decodeL_N l] at hv ⊢
  rw [decodeL_N (l.take _ ++ rest)]
  rcases decodeN_shape l.length (l.getD 0 0).toNat (l.getD 1 0).toNat (l.getD 2 0).toNat (l.getD 3 0).toNat with ⟨c, e⟩ | ⟨c1, c2, c3, cv, e⟩ | ⟨c1, c2, c3, c4, cv, cs, e⟩ | ⟨c1, c2, c3, c4, c5, cv, cw, e⟩ | e
  · rw [e]
    dsimp only
    rw [takeA l hl]
    exact decodeN_ascii _ _ _ _ _ c
  · rw [e]
    dsimp only
    rw [takeB l c2]
    exact dec2 (by simp) c1 c3 cv
  · rw [e]
    dsimp only
    rw [takeC l c2]
    exact dec3 (by simp) c1 c3 c4 cv cs
  · rw [e]
    dsimp only
    rw [takeD l c2]
    exact dec4 (by simp) c1 c3 c4 c5 cv cw
  · rw [e] at hv
    exact absurd ⟨rfl, rfl⟩ hv
theorem pcOk_of (l : Bs) (hne : l ≠ []) (hv : ¬ ((decodeL l).1 = 65533 ∧ (decodeL l).2 = 1)) : PcOk ((decodeL l).1, l.take (decodeL l).2) := by
  have h1 := decodeL_width l
  have h2 := decodeL_le l hne
  have hlen : (l.take (decodeL l).2).length = (decodeL l).2 := by rw [List.length_take]; omega
  refine ⟨?_, ?_, fun rest => ?_⟩
  · intro h
    have h : l.take (decodeL l).2 = [] := h
    rw [h] at hlen
    simp at hlen
    omega
  · simp only [hlen]
    exact hv
  · simp only [hlen]
    exact decode_stays l hne hv rest
/-- A text that is UTF-8 is characters, one behind the other. -/
theorem chars_of : ∀ (n : Nat) (l : Bs), l.length ≤ n → validD l = true → ∃ qs, AllPc qs ∧ l = bytesOf qs
  | 0, l, hn, _ => ⟨[], fun _ h => by simp at h, List.eq_nil_of_length_eq_zero (by omega)⟩
  | n + 1, l, hn, hv => by
    by_cases hne : l = []
    · exact ⟨[], fun _ h => by simp at h, hne⟩
    · rw [validD_step l hne] at hv
      by_cases hb : (decodeL l).1 = 65533 ∧ (decodeL l).2 = 1
      · rw [if_pos hb] at hv
        cases hv
      · rw [if_neg hb] at hv
        have hw := decodeL_width l
        obtain ⟨qs, h1, h2⟩ := chars_of n (l.drop (decodeL l).2) (by rw [List.length_drop]; omega) hv
        refine ⟨((decodeL l).1, l.take (decodeL l).2) :: qs, ?_, ?_⟩
        · intro q hq
          rcases List.mem_cons.1 hq with rfl | hq
          · exact pcOk_of l hne hb
          · exact h1 q hq
        · rw [bytesOf_cons, ← h2]
          exact (List.take_append_drop _ _).symm
theorem chars_exist (l : Bs) (hv : validD l = true) : ∃ qs, AllPc qs ∧ l = bytesOf qs := chars_of l.length l (Nat.le_refl _) hv
theorem valid_of (qs : List Ch) (h : AllPc qs) : validD (bytesOf qs) = true := by
  induction qs with
  | nil => rfl
  | cons q qs ih =>
    obtain ⟨h1, h2, h3⟩ := h.head
    rw [bytesOf_cons, validD_step _ (by simp [h1]), h3, if_neg h2, List.drop_append_of_le_length (Nat.le_refl _), List.drop_length, List.nil_append]
    exact ih h.tail
theorem pc_len {q : Ch} (h : PcOk q) : 1 ≤ q.2.length := List.length_pos_iff.2 h.1
theorem pc_ascii {q : Ch} (h : PcOk q) (ha : q.1 < 128) : q.2 = [UInt8.ofNat q.1] := by
  have h3 := h.2.2 []
  rw [List.append_nil] at h3
  have he := encode_decode q.2 h.1 (by rw [h3]; exact h.2.1)
  rw [h3] at he
  simp only [List.take_length] at he
  rw [← he]
  unfold encodeRune
  rw [encodeRuneZ_one (by omega) (by omega)]
  simp
theorem pc_rune {q : Ch} (h : PcOk q) : q.1 ≤ 1114111 := by
  have h3 := h.2.2 []
  have := decodeL_rune (q.2 ++ [])
  rw [h3] at this
  exact this
theorem pc_of_ascii (b : UInt8) (h : b.toNat < 128) : PcOk (b.toNat, [b]) :=
  ⟨by simp, by simp; omega, fun rest => decodeL_ascii b rest h⟩

/-! ### what characters are -/
def digN (c : Nat) : Bool := decide (48 ≤ c ∧ c ≤ 57)
def letN (c : Nat) : Bool := decide (65 ≤ c ∧ c ≤ 90 ∨ 97 ≤ c ∧ c ≤ 122 ∨ c = 95 ∨ 128 ≤ c)
def partN (c : Nat) : Bool := digN c || letN c
def signN (c : Nat) : Bool := decide (c = 61 ∨ c = 58 ∨ c = 44 ∨ c = 46 ∨ c = 43 ∨ c = 45 ∨ c = 47 ∨ c = 42 ∨ c = 40 ∨ c = 41)
def digD (base c : Nat) : Option Nat := if 48 ≤ c ∧ c ≤ 57 then some (c - 48) else if base = 16 ∧ 97 ≤ c ∧ c ≤ 102 then some (c - 87) else none
def mostN : Nat := 18446744073709551615
def fitsN (n base d : Nat) : Bool := decide (n * base + d ≤ mostN)
/-- A number's digits: the value, an error's number. 'last' is true where a digit stood just ahead. -/
def basedC (base : Nat) : List Nat → Nat → Bool → Bool → Nat × Nat
  | [], n, fits, was => if !was then (0, 61) else if fits then (n, 0) else (0, 11)
  | c :: t, n, fits, was =>
    if c = 95 ∧ was = true then basedC base t n fits false
    else match digD base c with
      | none => (0, 61)
      | some d => basedC base t (if fitsN n base d then n * base + d else 0) (fits && fitsN n base d) true
def hexC (cs : List Nat) : Bool := match cs with | 48 :: 120 :: _ => true | _ => false
def valueC (cs : List Nat) : Nat × Nat := if hexC cs then basedC 16 (cs.drop 2) 0 true false else basedC 10 cs 0 true false
/-- A token: its kind, its first character, how many, the value. -/
structure Tk where
  kind : Nat
  at_ : Nat
  len : Nat
  word : Nat
def partLen (cs : List Nat) : Nat := (cs.takeWhile partN).length
/-- A name's or a number's kind, value, an error's number. -/
def wordC (cs : List Nat) : Nat × Nat × Nat := if digN (cs.headD 0) then (2, valueC cs) else (1, 0, if cs.length > 40 then 11 else 0)
def nextC (cs : List Nat) : Nat × Nat × Nat × Nat :=
  if partLen cs = 0 then (3, 1, 0, if signN (cs.headD 0) then 0 else 61)
  else ((wordC (cs.take (partLen cs))).1, partLen cs, (wordC (cs.take (partLen cs))).2)
def tokC : Nat → List Nat → Nat → List Tk × Nat × Nat
  | 0, _, _ => ([], 0, 0)
  | _ + 1, [], _ => ([], 0, 0)
  | n + 1, c :: t, at_ =>
    if c = 32 ∨ c = 9 then tokC n t (at_ + 1)
    else if c = 35 then ([], 0, 0)
    else
      let x := nextC (c :: t)
      if x.2.2.2 ≠ 0 then ([], x.2.2.2, at_)
      else
        let r := tokC n ((c :: t).drop x.2.1) (at_ + x.2.1)
        if r.2.1 ≠ 0 then r else (⟨x.1, at_, x.2.1, x.2.2.1⟩ :: r.1, 0, 0)
def tokensC (cs : List Nat) : List Tk × Nat × Nat := tokC cs.length cs 0
/-- A character's first byte. -/
theorem pc_head {c : Nat} {p : Bs} (h : PcOk (c, p)) : ∃ b r, p = b :: r ∧ (b.toNat = c ∨ 128 ≤ b.toNat ∧ 128 ≤ c) := by
  obtain ⟨h1, h2, h3⟩ := h
  cases p with
  | nil => exact absurd rfl h1
  | cons b r =>
    refine ⟨b, r, rfl, ?_⟩
    by_cases hb : b.toNat < 128
    · have := h3 []
      rw [List.cons_append, decodeL_ascii b _ hb] at this
      exact .inl (congrArg Prod.fst this)
    · by_cases hc : c < 128
      · have := pc_ascii ⟨h1, h2, h3⟩ hc
        injection this with e1 e2
        left
        rw [e1]
        simp
        omega
      · exact .inr ⟨by omega, by omega⟩
theorem hex_has : ∀ (qs : List Ch), AllPc qs → hasPrefix (bytesOf qs) [48, 120] = hexC (charsOf qs) ∧ (hexC (charsOf qs) = true → (bytesOf qs).drop 2 = bytesOf (qs.drop 2))
  | [], _ => ⟨rfl, fun h => by cases h⟩
  | [(c, p)], h => by
    obtain ⟨b, r, rfl, hb⟩ := pc_head h.head
    refine ⟨?_, fun h => ?_⟩
    · rw [show hexC (charsOf [(c, b :: r)]) = false by unfold hexC charsOf; simp]
      by_cases hc : c < 128
      · have := pc_ascii h.head hc
        injection this with e1 e2
        have e2 : r = [] := e2
        subst e2
        simp [hasPrefix, bytesOf, List.isPrefixOf]
      · have hb2 : 128 ≤ b.toNat := by omega
        have : ¬ b = 48 := fun e => by subst e; revert hb2; decide
        simp [hasPrefix, bytesOf, List.isPrefixOf]
        exact fun e => absurd e.symm this
    · revert h
      unfold hexC charsOf
      simp
  | (c, p) :: (c2, p2) :: t, h => by
    obtain ⟨b, r, rfl, hb⟩ := pc_head h.head
    obtain ⟨b2, r2, rfl, hb2⟩ := pc_head h.tail.head
    by_cases hc : c = 48
    · subst hc
      have := pc_ascii h.head (by show 48 < 128; omega)
      injection this with e1 e2
      have e1 : b = 48 := e1
      have e2 : r = [] := e2
      subst e1 e2
      by_cases hc2 : c2 = 120
      · subst hc2
        have := pc_ascii h.tail.head (by show 120 < 128; omega)
        injection this with e1 e2
        have e1 : b2 = 120 := e1
        have e2 : r2 = [] := e2
        subst e1 e2
        exact ⟨by simp [hasPrefix, bytesOf, List.isPrefixOf, hexC, charsOf], fun _ => by simp [bytesOf]⟩
      · have hne : ¬ b2 = 120 := fun e => by
          subst e
          have : (120 : UInt8).toNat = 120 := rfl
          rw [this] at hb2
          omega
        have hx : hexC (charsOf ((48, [48]) :: (c2, b2 :: r2) :: t)) = false := by
          unfold hexC charsOf
          simp [hc2]
        refine ⟨?_, fun h => by rw [hx] at h; cases h⟩
        rw [hx]
        simp [hasPrefix, bytesOf, List.isPrefixOf]
        exact fun e => absurd e.symm hne
    · have hne : ¬ b = 48 := fun e => by
          subst e
          have : (48 : UInt8).toNat = 48 := rfl
          rw [this] at hb
          omega
      have hx : hexC (charsOf ((c, b :: r) :: (c2, b2 :: r2) :: t)) = false := by
          unfold hexC charsOf
          simp [hc]
      refine ⟨?_, fun h => by rw [hx] at h; cases h⟩
      rw [hx]
      simp [hasPrefix, bytesOf, List.isPrefixOf]
      exact fun e => absurd e.symm hne
end Go.Proofs.YtbpiolklenopcaaDoor
