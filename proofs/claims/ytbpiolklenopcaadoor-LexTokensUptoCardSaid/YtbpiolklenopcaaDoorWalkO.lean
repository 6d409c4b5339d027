/- The walks of the reference's Chars and Count, of Value over a row; the statement LexValues, walked. -/
import Derived.Test.YtbpiolklenopcaaDoorWalkI
import Derived.Test.YtbpiolklenopcaaDoorWalkK
import Derived.Test.YtbpiolklenopcaaDoorWalkN
set_option linter.unusedSimpArgs false
set_option linter.unusedVariables false
namespace Go.Proofs.YtbpiolklenopcaaDoor
open Go.RowKit Go.Lib
theorem own_slice {w : World} {base n : Nat} {e : TypeId} {size : Nat} {v : Value} {xs : List Value} (h : w.ownsRow base e size v n xs) : ∃ A c, v = .slice A n c := by
  rcases h.2 with ⟨rfl, rfl⟩ | ⟨g, cap, cur, rfl, _⟩
  · exact ⟨none, 0, rfl⟩
  · exact ⟨_, cap, rfl⟩
def RowPost (R : List Nat) (w : World) (e : Ending) (w' : World) : Prop :=
  ∃ v, e = .returned v ∧ w'.ownsRow w.heap.size 3 1 v R.length (natsV R) ∧ Below w.heap.size w w'
set_option maxRecDepth 100000 in
set_option maxHeartbeats 400000 in
theorem rchars_any (s : ByteArray) (w : World) (hm : s.size ≤ 1099511627776) :
    Calls Tryd.prog 15 #[.string s] w (RowPost (charsV s.data.toList).1 w) := by
  have C1 := Lib.hid (chars_any s w hm)
  have hsh : (charsV s.data.toList).2 = false → (charsV s.data.toList).1 = [] := charsV_shape _ _
  generalize charsV s.data.toList = R at C1 hsh ⊢
  obtain ⟨r1, r2⟩ := R
  cases r2 with
  | true =>
    clear hsh
    go_enter Tryd.func15, Tryd.ntmps15
    go_wp2_with (go_at_call 18; refine C1.out.mono ?_; rintro e w1 ⟨v, rfl, hown, hb⟩; have HO := Lib.hid hown; clear hown)
    go_ret
    exact ⟨_, rfl, HO.out, hb⟩
  | false =>
    have hr : r1 = [] := hsh rfl
    subst hr
    clear hsh
    go_enter Tryd.func15, Tryd.ntmps15
    go_wp2_with (go_at_call 18; refine C1.out.mono ?_; rintro e w1 ⟨v, rfl, hown, hb⟩; have HO := Lib.hid hown; clear hown)
    go_ret
    exact ⟨_, rfl, World.ownsRow_nil _ _ _ _, hb⟩
def CountPost (R : List Nat × Bool) (w : World) (e : Ending) (w' : World) : Prop :=
  e = .returned (.tuple #[.int .i64 R.1.length, .bool R.2]) ∧ Below w.heap.size w w'
set_option maxRecDepth 100000 in
set_option maxHeartbeats 400000 in
theorem rcount_any (s : ByteArray) (w : World) (hm : s.size ≤ 1099511627776) :
    Calls Tryd.prog 11 #[.string s] w (CountPost (charsV s.data.toList) w) := by
  have C1 := Lib.hid (chars_any s w hm)
  generalize charsV s.data.toList = R at C1 ⊢
  obtain ⟨r1, r2⟩ := R
  go_enter Tryd.func11, Tryd.ntmps11
  go_wp2_with (go_at_call 18; refine C1.out.mono ?_; rintro e w1 ⟨v, rfl, hown, hb⟩; obtain ⟨A, cap, rfl⟩ : ∃ A cap, v = .slice A r1.length cap := own_slice hown; clear hown)
  go_ret2
  exact ⟨rfl, hb⟩
set_option maxRecDepth 100000 in
set_option maxHeartbeats 400000 in
theorem rvalue_none (A : Option Addr) (cap : Nat) (w : World) :
    Calls Tryd.prog 14 #[.slice A 0 cap] w fun e w' => e = .returned (.tuple #[.int .u64 (0 : Nat), .int .i64 (61 : Nat)]) ∧ w = w' := by
  go_enter Tryd.func14, Tryd.ntmps14
  go_wp2
  go_loop [5, 6, 7, 8] (fun nv ov sv iv => nv = .int .u64 0 ∧ ov = .bool false ∧ sv = .bool false ∧ iv = .int .i64 0) (fun _ _ _ _ => 0)
  case atStart => exact ⟨rfl, rfl, rfl, rfl⟩
  case round =>
    obtain ⟨rfl, rfl, rfl, rfl⟩ := hrel
    go_wp2
    go_ret2
    exact ⟨rfl, rfl⟩
theorem hexC_form : ∀ (cs : List Nat), hexC cs = true → ∃ t, cs = 48 :: 120 :: t
  | [], h => by cases h
  | [_], h => by unfold hexC at h; split at h <;> simp_all
  | a :: b :: t, h => by
    unfold hexC at h
    split at h
    · rename_i t' e
      exact ⟨_, e⟩
    · cases h
/-- Value over a slice of a row: of a row's cells from off on, as many as cs has. -/
theorem rvalue_cells (cs : List Nat) (g off cap : Nat) (w : World) (hlen : cs.length ≤ 1099511627776) (hcap : cs.length ≤ cap) (hcap2 : cap ≤ 9223372036854775807)
    (hcell : ∀ i (h : i < cs.length), w.cell? ⟨g, off + i, none⟩ = some (.int .i64 (cs[i]'h : Nat))) (hmax : ∀ x ∈ cs, x ≤ 1114111) :
    Calls Tryd.prog 14 #[.slice (some ⟨g, off, none⟩) cs.length cap] w fun e w' => e = .returned (.tuple #[.int .u64 (valueC cs).1, .int .i64 (valueC cs).2]) ∧ w = w' := by
  cases hx : hexC cs with
  | true =>
    obtain ⟨t, rfl⟩ := hexC_form cs hx
    simp only [List.length_cons] at hlen hcap ⊢
    exact rvalue_hex t g off cap w (by omega) (by omega) hcap2 hcell (fun x hx => hmax x (by simp [hx]))
  | false =>
    by_cases h1 : 1 ≤ cs.length
    · exact rvalue_dec cs g off cap w hx hlen h1 hcap hcap2 hcell hmax
    · have : cs = [] := List.eq_nil_of_length_eq_zero (by omega)
      subst this
      exact rvalue_none _ _ _
theorem natsV_at {cs : List Nat} {i : Nat} (h : i < cs.length) : (natsV cs)[i]? = some (.int .i64 (cs[i]'h : Nat)) := by
  unfold natsV
  rw [List.getElem?_map, List.getElem?_eq_getElem h]
  rfl
theorem rvalue_row {cs : List Nat} {v : Value} {w : World} {base : Nat} (hown : w.ownsRow base 3 1 v cs.length (natsV cs)) (hlen : cs.length ≤ 1099511627776) (hmax : ∀ x ∈ cs, x ≤ 1114111) :
    Calls Tryd.prog 14 #[v] w fun e w' => e = .returned (.tuple #[.int .u64 (valueC cs).1, .int .i64 (valueC cs).2]) ∧ w = w' := by
  have hown2 := hown
  rcases hown.2 with ⟨rfl, h0⟩ | ⟨g, cap, cur, rfl, hb, hg, hncap, hcapm, hsz, htake⟩
  · have : cs = [] := List.eq_nil_of_length_eq_zero h0
    subst this
    exact rvalue_none _ _ _
  · refine rvalue_cells cs g 0 cap w hlen hncap (by unfold maxLen at hcapm; omega) (fun i h => ?_) hmax
    rw [Nat.zero_add, World.ownsRow.cellAt hown2 i (by omega)]
    exact natsV_at h
/-! ### a number's text has its value -/
def ascQ (l : Bs) : List Ch := l.map fun b => (b.toNat, [b])
theorem ascQ_bytes (l : Bs) : bytesOf (ascQ l) = l := by
  unfold ascQ bytesOf
  rw [List.map_map]
  induction l with
  | nil => rfl
  | cons b t ih => simpa using ih
theorem ascQ_all {l : Bs} (h : ∀ b ∈ l, b.toNat < 128) : AllPc (ascQ l) := by
  intro q hq
  obtain ⟨b, hb, rfl⟩ := List.mem_map.1 hq
  exact pc_of_ascii b (h b hb)
theorem ascQ_chars (l : Bs) : charsOf (ascQ l) = l.map UInt8.toNat := by unfold ascQ charsOf; rw [List.map_map]; rfl
theorem fig_lt {d : Nat} (h : d < 16) : (figs.getD d 0).toNat < 128 := by rw [fig_val h]; split <;> omega
theorem hexW_asc (n : Nat) : ∀ b ∈ hexW n, b.toNat < 128 := by
  have h := (hexW_facts n n (Nat.le_refl _)).2.2
  intro b hb
  obtain ⟨k, hk, rfl⟩ := List.getElem_of_mem hb
  have := h k hk
  rw [List.getElem?_eq_getElem hk] at this
  rw [Option.some.inj this]
  exact fig_lt (Nat.mod_lt _ (by omega))
theorem showW_asc (n : Nat) : ∀ b ∈ showW n, b.toNat < 128 := by
  unfold showW
  split
  · rename_i h
    intro b hb
    rw [List.mem_singleton] at hb
    subst hb
    exact fig_lt (by omega)
  · intro b hb
    rcases List.mem_cons.1 hb with rfl | hb
    · decide
    · rcases List.mem_cons.1 hb with rfl | hb
      · decide
      · exact hexW_asc n b hb
theorem digD_fig {y : Nat} (h : y < 16) : digD 16 (figs.getD y 0).toNat = some y ∧ (figs.getD y 0).toNat ≠ 95 := by
  rw [fig_val h]
  unfold digD
  by_cases h10 : y < 10
  · rw [if_pos h10, if_pos (by omega)]
    exact ⟨by rw [Nat.add_sub_cancel_left], by omega⟩
  · rw [if_neg h10, if_neg (by omega), if_pos (by omega)]
    exact ⟨by rw [Nat.add_sub_cancel_left], by omega⟩
theorem hex_value (n : Nat) (hn : n ≤ mostN) : ∀ (j : Nat) (was : Bool), j ≤ (hexW n).length → (j = 0 → was = true) →
    basedC 16 (((hexW n).map UInt8.toNat).drop ((hexW n).length - j)) (n / 16 ^ j) true was = (n, 0)
  | 0, was, _, hw => by
    rw [Nat.sub_zero, List.drop_eq_nil_of_le (by simp), Nat.pow_zero, Nat.div_one, hw rfl]
    unfold basedC
    rfl
  | j + 1, was, hj, _ => by
    have h3 := (hexW_facts n n (Nat.le_refl _)).2.2 ((hexW n).length - (j + 1)) (by omega)
    have hlt : (hexW n).length - (j + 1) < ((hexW n).map UInt8.toNat).length := by simp; omega
    rw [List.drop_eq_getElem_cons hlt]
    have hc : ((hexW n).map UInt8.toNat)[(hexW n).length - (j + 1)] = (figs.getD (n / 16 ^ j % 16) 0).toNat := by
      rw [List.getElem_map]
      rw [List.getElem?_eq_getElem (by omega)] at h3
      rw [Option.some.inj h3, show (hexW n).length - 1 - ((hexW n).length - (j + 1)) = j by omega]
    rw [hc]
    have hy : n / 16 ^ j % 16 < 16 := Nat.mod_lt _ (by omega)
    have hd := digD_fig hy
    rw [basedC_some (by intro h; exact hd.2 h.1) hd.1]
    have hs : n / 16 ^ (j + 1) * 16 + n / 16 ^ j % 16 = n / 16 ^ j := by
      rw [Nat.pow_succ, ← Nat.div_div_eq_div_mul]
      omega
    have hle : n / 16 ^ j ≤ n := Nat.div_le_self _ _
    have hf : fitsN (n / 16 ^ (j + 1)) 16 (n / 16 ^ j % 16) = true := by unfold fitsN; rw [hs]; exact decide_eq_true (by omega)
    rw [hf, if_pos rfl, hs, show (hexW n).length - (j + 1) + 1 = (hexW n).length - j by omega]
    exact hex_value n hn j true (by omega) (fun _ => rfl)
theorem show_value (n : Nat) (hn : n ≤ mostN) : valueC (charsOf (ascQ (showW n))) = (n, 0) := by
  rw [ascQ_chars]
  unfold showW
  by_cases h10 : n < 10
  · rw [if_pos h10]
    have : ∀ k : Fin 10, valueC ([figs.getD k.val 0].map UInt8.toNat) = (k.val, 0) := by decide
    exact this ⟨n, h10⟩
  · rw [if_neg h10]
    have h := hex_value n hn (hexW n).length false (Nat.le_refl _) (fun h => by
      have := (hexW_facts n n (Nat.le_refl _)).1
      rw [h] at this
      simp at this
      omega)
    rw [Nat.sub_self, List.drop_zero, Nat.div_eq_of_lt (hexW_facts n n (Nat.le_refl _)).1] at h
    exact h
end Go.Proofs.YtbpiolklenopcaaDoor
