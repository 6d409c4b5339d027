/- The walks of layer 2's small functions: letter, digit, run, Count (of a told text), add. -/
import Derived.Test.YtbpiolklenopcaaDoorProg
import Derived.Test.YtbpiolklenopcaaDoorPure
import Derived.WalkKit
import Derived.WalkMore
import Derived.WalkSmall
import Derived.Below
import Derived.WalkSpells
import Derived.WalkLawsBesides
import Derived.OwnWalk
import Derived.Lib.OthersKept
import Derived.Lib.Hide
import Derived.Lib.TrimUEq
import Derived.BigQuiet
import Derived.Deep.QuietTactic
import Derived.Outline
set_option linter.unusedSimpArgs false
set_option linter.unusedVariables false
namespace Go.Proofs.YtbpiolklenopcaaDoor
open Go.RowKit Go.Lib
theorem ret_bool {a b : Bool} (h : a = b) : Ending.returned (.bool a) = .returned (.bool b) := by rw [h]
theorem ret_int {k : IntKind} {a b : Int} (h : a = b) : Ending.returned (.int k a) = .returned (.int k b) := by rw [h]
set_option maxHeartbeats 400000 in
theorem digit_any (c : Nat) (w : World) :
    Calls Tryd.prog 32 #[.int .i32 c] w fun e w' => e = .returned (.bool (digN c)) ∧ w = w' := by
  go_enter Tryd.func32, Tryd.ntmps32
  go_wp2
  all_goals (go_ret; refine ⟨ret_bool ?_, rfl⟩; unfold digN; rw [Bool.eq_iff_iff]; (try simp only [Bool.or_eq_true, Bool.and_eq_true, decide_eq_true_eq, beq_iff_eq, true_iff, false_iff, Bool.true_eq, Bool.false_eq_true, reduceCtorEq]); try omega)
set_option maxHeartbeats 400000 in
theorem letter_any (c : Nat) (w : World) :
    Calls Tryd.prog 31 #[.int .i32 c] w fun e w' => e = .returned (.bool (letN c)) ∧ w = w' := by
  go_enter Tryd.func31, Tryd.ntmps31
  go_wp2
  all_goals (go_ret; refine ⟨ret_bool ?_, rfl⟩; unfold letN; rw [Bool.eq_iff_iff]; (try simp only [Bool.or_eq_true, Bool.and_eq_true, decide_eq_true_eq, beq_iff_eq, true_iff, false_iff, Bool.true_eq, Bool.false_eq_true, reduceCtorEq]); try omega)
/-- A place in a text of characters. -/
theorem next_at (s : ByteArray) (d : List Ch) (q : Ch) (t : List Ch) (hq : PcOk q) (hs : s.data.toList = bytesOf (d ++ q :: t)) :
    Utf8.decode s (bytesOf d).length = (q.1, q.2.length) ∧ (bytesOf d).length < s.size := by
  have h := hq.2.2 (bytesOf t)
  constructor
  · rw [← decodeL_drop, hs, bytesOf_append, List.drop_append_of_le_length (Nat.le_refl _), List.drop_length, List.nil_append, bytesOf_cons]
    exact h
  · have hsz : s.size = s.data.toList.length := Array.length_toList.symm
    rw [hsz, hs, bytesOf_append, bytesOf_cons, List.length_append, List.length_append]
    have := pc_len hq
    omega
theorem size_chars {s : ByteArray} {qs : List Ch} (hs : s.data.toList = bytesOf qs) : s.size = (bytesOf qs).length := by
  rw [← hs]; exact Array.length_toList.symm
/-- How many bytes the first letters and digits have. -/
def runB (qs : List Ch) : Nat := (bytesOf (qs.takeWhile fun q => partN q.1)).length
theorem runB_nil : runB [] = 0 := rfl
theorem runB_yes {q : Ch} {t : List Ch} (h : partN q.1 = true) : runB (q :: t) = q.2.length + runB t := by
  unfold runB; rw [List.takeWhile_cons, if_pos h, bytesOf_cons, List.length_append]
theorem runB_no {q : Ch} {t : List Ch} (h : partN q.1 = false) : runB (q :: t) = 0 := by
  unfold runB; rw [List.takeWhile_cons, h]; rfl
set_option maxHeartbeats 1000000 in
theorem run_any (s : ByteArray) (qs : List Ch) (w : World) (hq : AllPc qs) (hs : Hid (s.data.toList = bytesOf qs)) (_hm : s.size ≤ 9223372036854775807) :
    Calls Tryd.prog 25 #[.string s] w fun e w' => e = .returned (.int .i64 (runB qs)) ∧ Below w.heap.size w w' := by
  go_enter Tryd.func25, Tryd.ntmps25
  go_wp2
  go_loopw [] (fun wr => ∃ (d t : List Ch), wr = w.iter s (bytesOf d).length ∧ Hid (qs = d ++ t) ∧ Hid (runB qs = (bytesOf d).length + runB t)) (fun wr => s.size - wr.iterPos w.heap.size)
  case atStart => exact ⟨[], qs, rfl, rfl, by unfold Hid; simp [bytesOf_nil]⟩
  case round =>
    obtain ⟨d, t, rfl, HQ, HR⟩ := hrel
    cases t with
    | nil =>
      have hz := size_chars hs
      rw [HQ, List.append_nil] at hz
      have hnx : ∀ ty, (Instr.next (.pointer (some ⟨w.heap.size, 0, none⟩)) true ty).run Tryd.prog (w.iter s (bytesOf d).length) = _ := fun ty => run_next_end w s _ ty (by omega)
      have HZ := Lib.hid hz; clear hz
      go_wp2
      go_ret
      refine ⟨ret_int ?_, (Below.refl _ _).alloc (Nat.le_refl _) _⟩
      rw [HR, runB_nil, HZ.out]; rfl
    | cons q t =>
      have hp : PcOk q := hq q (by rw [HQ]; simp)
      obtain ⟨h1, h2⟩ := next_at s d q t hp (by rw [hs, HQ])
      have hnx : ∀ ty, (Instr.next (.pointer (some ⟨w.heap.size, 0, none⟩)) true ty).run Tryd.prog (w.iter s (bytesOf d).length) = _ := fun ty => run_next_any w s _ ty h2
      rw [h1] at hnx
      have hl := pc_len hp
      clear h1
      have HQ2 : Hid (qs = (d ++ [q]) ++ t) := by unfold Hid; rw [HQ]; simp
      have hb2 : (bytesOf (d ++ [q])).length = (bytesOf d).length + q.2.length := by rw [bytesOf_append, List.length_append, bytesOf_cons, bytesOf_nil, List.append_nil]
      have HB2 := Lib.hid hb2; clear hb2
      cases e1 : letN q.1 with
      | true =>
        have HR2 : Hid (runB qs = (bytesOf (d ++ [q])).length + runB t) := by unfold Hid; rw [HR, HB2.out, runB_yes (by simp [partN, e1])]; omega
        have E1 := Lib.hid e1; clear e1
        go_wp2_with (first | (go_at_call 31; refine (letter_any _ _).mono ?_; rintro e w' ⟨rfl, rfl⟩; rw [E1.out]))
        go_roundw
        case rel => exact ⟨d ++ [q], t, by rw [HB2.out], HQ2, HR2⟩
        case measure => simp; omega
      | false => 
        have E1 := Lib.hid e1; clear e1
        cases e2 : digN q.1 with
        | true =>
          have HR2 : Hid (runB qs = (bytesOf (d ++ [q])).length + runB t) := by unfold Hid; rw [HR, HB2.out, runB_yes (by simp [partN, e2])]; omega
          have E2 := Lib.hid e2; clear e2
          go_wp2_with (first | (go_at_call 31; refine (letter_any _ _).mono ?_; rintro e w' ⟨rfl, rfl⟩; rw [E1.out]) | (go_at_call 32; refine (digit_any _ _).mono ?_; rintro e w' ⟨rfl, rfl⟩; rw [E2.out]))
          go_roundw
          case rel => exact ⟨d ++ [q], t, by rw [HB2.out], HQ2, HR2⟩
          case measure => simp; omega
        | false =>
          have HR2 : Hid (runB qs = (bytesOf d).length) := by unfold Hid; rw [HR, runB_no (by simp [partN, E1.out, e2])]; rfl
          have E2 := Lib.hid e2; clear e2
          go_wp2_with (first | (go_at_call 31; refine (letter_any _ _).mono ?_; rintro e w' ⟨rfl, rfl⟩; rw [E1.out]) | (go_at_call 32; refine (digit_any _ _).mono ?_; rintro e w' ⟨rfl, rfl⟩; rw [E2.out]))
          go_ret
          exact ⟨ret_int (by rw [HR2]), (Below.refl _ _).alloc (Nat.le_refl _) _⟩
end Go.Proofs.YtbpiolklenopcaaDoor
