/- The walks of the reference's digit, part, sign, Value. -/
import Derived.Test.YtbpiolklenopcaaDoorWalkC
import Derived.Test.YtbpiolklenopcaaDoorPureB
set_option linter.unusedSimpArgs false
set_option linter.unusedVariables false
namespace Go.Proofs.YtbpiolklenopcaaDoor
open Go.RowKit Go.Lib
set_option maxHeartbeats 400000 in
theorem rdigit_any (c : Nat) (w : World) :
    Calls Tryd.prog 21 #[.int .i64 c] w fun e w' => e = .returned (.bool (digN c)) ∧ w = w' := by
  go_enter Tryd.func21, Tryd.ntmps21
  go_wp2
  all_goals (go_ret; refine ⟨ret_bool ?_, rfl⟩; unfold digN; rw [Bool.eq_iff_iff]; (try simp only [Bool.or_eq_true, Bool.and_eq_true, decide_eq_true_eq, beq_iff_eq, true_iff, false_iff, Bool.true_eq, Bool.false_eq_true, reduceCtorEq]); try omega)
set_option maxHeartbeats 400000 in
theorem rpart_any (c : Nat) (w : World) :
    Calls Tryd.prog 19 #[.int .i64 c] w fun e w' => e = .returned (.bool (partN c)) ∧ w = w' := by
  have h1 : partN c = decide (48 ≤ c ∧ c ≤ 57 ∨ 65 ≤ c ∧ c ≤ 90 ∨ 97 ≤ c ∧ c ≤ 122 ∨ c = 95 ∨ 128 ≤ c) := by
    unfold partN digN letN
    rw [Bool.eq_iff_iff]
    simp only [Bool.or_eq_true, decide_eq_true_eq]
  rw [h1]
  cases hd : digN c with
  | true =>
    have C1 := Lib.hid (rdigit_any c)
    rw [hd] at C1
    have hd2 : 48 ≤ c ∧ c ≤ 57 := of_decide_eq_true hd
    clear h1 hd
    go_enter Tryd.func19, Tryd.ntmps19
    go_wp2_with (go_at_call 21; refine (C1.out _).mono ?_; rintro e w' ⟨rfl, rfl⟩)
    all_goals (go_ret; refine ⟨ret_bool ?_, rfl⟩; rw [Bool.eq_iff_iff]; (try simp only [Bool.or_eq_true, Bool.and_eq_true, decide_eq_true_eq, beq_iff_eq, true_iff, false_iff, Bool.true_eq, Bool.false_eq_true, reduceCtorEq]); try omega)
  | false =>
    have C1 := Lib.hid (rdigit_any c)
    rw [hd] at C1
    have hd2 : ¬ (48 ≤ c ∧ c ≤ 57) := of_decide_eq_false hd
    clear h1 hd
    have HD := Lib.hid hd2; clear hd2
    go_enter Tryd.func19, Tryd.ntmps19
    go_wp2_with (go_at_call 21; refine (C1.out _).mono ?_; rintro e w' ⟨rfl, rfl⟩)
    all_goals (go_ret; refine ⟨ret_bool ?_, rfl⟩; have hd3 := HD.out; rw [Bool.eq_iff_iff]; (try simp only [Bool.or_eq_true, Bool.and_eq_true, decide_eq_true_eq, beq_iff_eq, true_iff, false_iff, Bool.true_eq, Bool.false_eq_true, reduceCtorEq]); try omega)
def sgs : List Nat := [61, 58, 44, 46, 43, 45, 47, 42, 40, 41]
theorem sgs_sign (c : Nat) : signN c = true ↔ c ∈ sgs := by
  unfold signN sgs
  simp only [decide_eq_true_eq, List.mem_cons, List.not_mem_nil, or_false]
theorem sgs_byte : ∀ i : Fin 10, ((⟨#[61, 58, 44, 46, 43, 45, 47, 42, 40, 41]⟩ : ByteArray).data.toList[i.val]?.map UInt8.toNat) = some (sgs.getD i.val 0) := by decide
theorem sgs_at (i : Nat) (h : i < (⟨#[61, 58, 44, 46, 43, 45, 47, 42, 40, 41]⟩ : ByteArray).size) : ((⟨#[61, 58, 44, 46, 43, 45, 47, 42, 40, 41]⟩ : ByteArray)[i]'h).toNat = sgs.getD i 0 := by
  have h1 := sgs_byte ⟨i, h⟩
  rw [data_getElem? _ i h] at h1
  exact Option.some.inj h1
theorem sgs_lt : ∀ i : Fin 10, sgs.getD i.val 0 < 256 := by decide
set_option maxRecDepth 100000 in
set_option maxHeartbeats 1000000 in
theorem rsign_any (c : Nat) (w : World) :
    Calls Tryd.prog 20 #[.int .i64 c] w fun e w' => e = .returned (.int .i64 ((if signN c then 0 else 61 : Nat) : Int)) ∧ w = w' := by
  obtain ⟨R, hR⟩ : ∃ R, (if signN c then 0 else 61 : Nat) = R := ⟨_, rfl⟩
  rw [hR]
  have HR0 := Lib.hid hR
  clear hR
  go_enter Tryd.func20, Tryd.ntmps20
  go_wp2
  go_loop [4] (fun iv => ∃ i : Nat, iv = .int .i64 i ∧ i ≤ 10 ∧ Hid (∀ j, j < i → sgs.getD j 0 ≠ c)) (fun iv => 10 - (RowKit.intOf iv).toNat)
  case atStart => exact ⟨0, rfl, by omega, fun j h => by omega⟩
  case round =>
    obtain ⟨i, rfl, hi, HI⟩ := hrel
    by_cases hlt : i < 10
    · have hy := sgs_at i hlt
      obtain ⟨y, hye⟩ : ∃ y, sgs.getD i 0 = y := ⟨_, rfl⟩
      have hy256 : y < 256 := by rw [← hye]; exact sgs_lt ⟨i, hlt⟩
      rw [hye] at hy
      have HY := Lib.hid hye
      clear hye
      by_cases hyc : y = c
      · have hin : R = 0 := by
          rw [← HR0.out, if_pos]
          rw [sgs_sign, ← hyc, ← HY.out]
          rw [List.getD_eq_getElem?_getD, List.getElem?_eq_getElem (show i < sgs.length from hlt)]
          exact List.getElem_mem _
        subst hyc
        subst hin
        go_wp2
        go_ret
        exact ⟨rfl, rfl⟩
      · have HI2 : Hid (∀ j, j < i + 1 → sgs.getD j 0 ≠ c) := by
          intro j h
          by_cases e : j = i
          · subst e; rw [HY.out]; exact hyc
          · exact HI j (by omega)
        have hb : ((y : Int) == (c : Int)) = false := by simp; omega
        clear HI hyc
        go_wp2
        go_round
        case rel => exact ⟨i + 1, by simp, by omega, HI2⟩
        case measure => simp [RowKit.intOf]; omega
    · obtain rfl : i = 10 := by omega
      have hin : R = 61 := by
        rw [← HR0.out, if_neg]
        rw [sgs_sign]
        intro h
        obtain ⟨j, hj, hjc⟩ := List.getElem_of_mem h
        exact HI j hj (by rw [List.getD_eq_getElem?_getD, List.getElem?_eq_getElem hj]; exact hjc)
      subst hin
      go_wp2
      go_ret
      exact ⟨rfl, rfl⟩
theorem basedC_lost (base : Nat) : ∀ (t : List Nat) (n m : Nat) (was : Bool), basedC base t n false was = basedC base t m false was
  | [], n, m, was => by unfold basedC; simp
  | c :: t, n, m, was => by
    unfold basedC
    split
    · exact basedC_lost base t n m false
    · cases digD base c with
      | none => rfl
      | some d => simp only [Bool.false_and]; exact basedC_lost base t _ _ true
end Go.Proofs.YtbpiolklenopcaaDoor
