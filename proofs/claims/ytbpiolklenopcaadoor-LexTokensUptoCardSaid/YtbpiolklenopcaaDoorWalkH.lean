/- The walks of layer 2: Tokens of a text that is too long, or is not told; Show. -/
import Derived.Test.YtbpiolklenopcaaDoorWalkG
import Derived.Laws.BitsAllLaws
set_option linter.unusedSimpArgs false
set_option linter.unusedVariables false
namespace Go.Proofs.YtbpiolklenopcaaDoor
open Go.RowKit Go.Lib
set_option maxRecDepth 100000 in
set_option maxHeartbeats 400000 in
theorem tokens_long (s : ByteArray) (w : World) (hm : 16384 < s.size) (hm2 : s.size ≤ 9223372036854775807) :
    Calls Tryd.prog 8 #[.string s] w fun e w' => e = .returned (.tuple #[.slice none 0 0, .int .i64 11, .int .i64 0]) ∧ Below w.heap.size w w' := by
  go_enter Tryd.func8, Tryd.ntmps8
  go_wp2_with fail
  go_ret3
  exact ⟨rfl, Below.refl _ _⟩
set_option maxRecDepth 100000 in
set_option maxHeartbeats 400000 in
theorem tokens_bad (s : ByteArray) (w : World) (hT : Tabs w) (hs : validD s.data.toList = false) (hm : s.size ≤ 16384) :
    Calls Tryd.prog 8 #[.string s] w fun e w' => e = .returned (.tuple #[.slice none 0 0, .int .i64 60, .int .i64 0]) ∧ Below w.heap.size w w' := by
  have c1 := told_any s w hT (by omega)
  rw [hs] at c1
  have C1 := Lib.hid c1; clear c1 hs
  go_enter Tryd.func8, Tryd.ntmps8
  go_wp2_with (go_at_call 12; refine C1.out.mono ?_; rintro e w1 ⟨rfl, hb1⟩)
  go_ret3
  exact ⟨rfl, hb1⟩
/-- A number's figures in the base 16, the highest first. -/
def hexF : Nat → Nat → Bs
  | 0, _ => []
  | n + 1, w => if w = 0 then [] else hexF n (w / 16) ++ [figs.getD (w % 16) 0]
theorem hexF_fuel : ∀ (n m w : Nat), w ≤ n → w ≤ m → hexF n w = hexF m w
  | 0, m, w, h, _ => by
    have : w = 0 := by omega
    subst this
    cases m <;> simp [hexF]
  | n + 1, 0, w, _, h => by
    have : w = 0 := by omega
    subst this
    simp [hexF]
  | n + 1, m + 1, w, h1, h2 => by
    unfold hexF
    split
    · rfl
    · rw [hexF_fuel n m (w / 16) (by omega) (by omega)]
def hexW (w : Nat) : Bs := hexF w w
theorem hexW_zero : hexW 0 = [] := rfl
theorem hexW_step {w : Nat} (h : w ≠ 0) : hexW w = hexW (w / 16) ++ [figs.getD (w % 16) 0] := by
  unfold hexW
  obtain ⟨n, rfl⟩ : ∃ n, w = n + 1 := ⟨w - 1, by omega⟩
  conv => lhs; unfold hexF
  rw [if_neg h, hexF_fuel n ((n + 1) / 16) _ (by omega) (Nat.le_refl _)]
def showW (w : Nat) : Bs := if w < 10 then [figs.getD w 0] else 48 :: 120 :: hexW w
theorem figs_ext : ∀ k : Fin 16, ((⟨#[48, 49, 50, 51, 52, 53, 54, 55, 56, 57, 97, 98, 99, 100, 101, 102]⟩ : ByteArray).extract k.val (k.val + 1)).data.toList = [figs.getD k.val 0] := by decide +kernel
theorem strOf_one_app (b : UInt8) (S : ByteArray) : (strOf [b] ++ S).data.toList = b :: S.data.toList := by
  rw [ByteArray.data_append, Array.toList_append]
  rfl
theorem pow_small {x k n : Nat} (h0 : x ≠ 0) (h : x * 16 ^ k ≤ n) (hn : n ≤ 18446744073709551615) : k < 16 := by
  apply Nat.lt_of_not_le
  intro hk
  have h1 : 16 ^ 16 ≤ 16 ^ k := Nat.pow_le_pow_right (by omega) hk
  have h2 : 1 * 16 ^ k ≤ x * 16 ^ k := Nat.mul_le_mul_right _ (by omega)
  have h3 : (16 : Nat) ^ 16 = 18446744073709551616 := by decide
  omega
theorem pow_step {x k n : Nat} (h : x * 16 ^ k ≤ n) : x / 16 * 16 ^ (k + 1) ≤ n := by
  have h1 : x / 16 * 16 ≤ x := Nat.div_mul_le_self x 16
  have h2 : x / 16 * 16 * 16 ^ k ≤ x * 16 ^ k := Nat.mul_le_mul_right _ h1
  have h3 : x / 16 * 16 ^ (k + 1) = x / 16 * 16 * 16 ^ k := by rw [Nat.pow_succ, Nat.mul_comm (16 ^ k) 16, Nat.mul_assoc]
  omega
theorem str_ext {a b : ByteArray} (h : a.data.toList = b.data.toList) : a = b := by
  cases a; cases b
  simp at h
  rw [h]
theorem fig_at {k : Nat} (h : k < 16) : (⟨#[48, 49, 50, 51, 52, 53, 54, 55, 56, 57, 97, 98, 99, 100, 101, 102]⟩ : ByteArray).extract k (k + 1) = strOf [figs.getD k 0] :=
  str_ext (by rw [strOf_list]; exact figs_ext ⟨k, h⟩)
theorem ret_str {a b : ByteArray} (h : a = b) : Ending.returned (.string a) = .returned (.string b) := by rw [h]
set_option maxRecDepth 100000 in
set_option maxHeartbeats 2000000 in
theorem show_any (n : Nat) (w : World) (hn : n ≤ mostN) :
    Calls Tryd.prog 16 #[.int .u64 n] w fun e w' => e = .returned (.string (strOf (showW n))) ∧ w = w' := by
  unfold mostN at hn
  by_cases h10 : n < 10
  · have hf := fig_at (k := n) (by omega)
    have hsh : showW n = [figs.getD n 0] := by unfold showW; rw [if_pos h10]
    rw [hsh]
    have HF := Lib.hid hf; clear hf hsh
    go_enter Tryd.func16, Tryd.ntmps16
    go_wp2
    go_ret
    exact ⟨ret_str HF.out, rfl⟩
  · have hsh : showW n = 48 :: 120 :: hexW n := by unfold showW; rw [if_neg h10]
    rw [hsh]
    clear hsh
    go_enter Tryd.func16, Tryd.ntmps16
    go_wp2
    go_loop [0, 3] (fun nv sv => ∃ (x : Nat) (S : ByteArray), nv = .int .u64 x ∧ sv = .string S ∧ x ≤ n ∧ S.size ≤ 16 ∧ Hid (x * 16 ^ S.size ≤ n) ∧ Hid (hexW n = hexW x ++ S.data.toList)) (fun nv _ => (RowKit.intOf nv).toNat)
    case atStart => exact ⟨n, ⟨#[]⟩, rfl, rfl, by omega, by show 0 ≤ 16; omega, (by show n * 1 ≤ n; omega), (List.append_nil _).symm⟩
    case round =>
      obtain ⟨x, S, rfl, rfl, hx, hS16, HP, HS⟩ := hrel
      by_cases h0 : x = 0
      · subst h0
        go_wp2
        go_ret
        refine ⟨ret_str (str_ext ?_), rfl⟩
        rw [strOf_list, HS, hexW_zero]
        rw [ByteArray.data_append, Array.toList_append]
        rfl
      · have hx2 : x < 18446744073709551616 := by omega
        obtain ⟨r, hr⟩ : ∃ r, x % 16 = r := ⟨_, rfl⟩
        have hr16 : r < 16 := by omega
        have hb : bits .and .u64 (x : Int) 15 = (r : Int) := by
          have := u64_and_nat x 15 hx2 (by omega)
          rw [nat_mask4, hr] at this
          exact this
        have hf := fig_at hr16
        have hS15 := pow_small h0 HP hn
        have HP2 := Lib.hid (pow_step HP)
        have HS2 : Hid (hexW n = hexW (x / 16) ++ (strOf [figs.getD r 0] ++ S).data.toList) := by
          unfold Hid
          rw [HS, hexW_step h0, hr, strOf_one_app]
          simp
        have hF : (strOf [figs.getD r 0]).size = 1 := rfl
        generalize strOf [figs.getD r 0] = F at hf hF HS2
        clear HS hr HP
        go_wp2
        go_round
        case rel => exact ⟨x / 16, F ++ S, by simp, rfl, by omega, by simp [hF]; omega, by unfold Hid; rw [ByteArray.size_append, hF, Nat.add_comm 1]; exact HP2.out, HS2⟩
        case measure => simp [RowKit.intOf]; omega
end Go.Proofs.YtbpiolklenopcaaDoor
