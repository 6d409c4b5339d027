/- Reference 04's Decode is decP. The walk of reference 06's Size. -/
import Derived.Test.YtbapgngngaaojaaGreatG13
import Derived.Test.YtbapgngngaaojaaGreatG11
set_option linter.unusedSimpArgs false
set_option linter.unusedVariables false
namespace Go.Proofs.YtbapgngngaaojaaGreat
open Go.RowKit Go.Lib
set_option maxRecDepth 100000
theorem rdecode_nat (level x : Nat) (w : World) (hx : x < 18446744073709551616) (hl : level ≤ 3) :
  Calls Tryz.prog 123 #[.int .i64 level, .int .u64 x] w (RDecPost (decP level x) w) := by
 unfold decP
 cases h0 : x.testBit 0 with
 | false =>
  rw [if_pos rfl]
  exact rdecode_zero level x w hx h0
 | true =>
  rw [if_neg (by simp)]
  by_cases h1 : x.testBit 1 = true ∧ level < 3
  ·rw [if_pos h1]
   have ht := table_bits hx h0 h1.1
   refine (rdecode_table level x w hx h1.2 h0 h1.1).mono ?_
   rintro e w' (⟨hk, h⟩ | ⟨hk, h⟩)
   ·rw [if_pos (ht.2 hk)]; exact h
   ·rw [if_neg (fun h => hk (ht.1 h))]; exact h
  ·rw [if_neg h1]
   have ht := leaf_bits (level := level) hx h0
   refine (rdecode_leaf level x w hx hl h0 h1).mono ?_
   rintro e w' (⟨hk, h⟩ | ⟨hk, h⟩)
   ·rw [if_pos (ht.2 hk)]; exact h
   ·rw [if_neg (fun h => hk (ht.1 h))]; exact h
end Go.Proofs.YtbapgngngaaojaaGreat
namespace Go.Proofs.YtbapgngngaaojaaGreat
open Go.RowKit Go.Lib
set_option maxRecDepth 100000
theorem rsize_nat (level : Nat) (w : World) (hl : level ≤ 3) :
  Calls Tryz.prog 124 #[.int .i64 level] w fun e w' => e = .returned (.int .u64 (2 ^ bitsL level : Nat)) ∧ Below w.heap.size w w' := by
 have C1 := Lib.hid (fun w => rlow_nat level w hl)
 have hb : bitsL level ≤ 39 := bitsL_le level
 generalize bitsL level = B at *
 go_enter Tryz.func124, Tryz.ntmps124
 go_wp2
 go_loopw [3, 4] (fun nv iv wr => ∃ i : Nat, iv = .int .i64 i ∧ i ≤ B ∧ nv = .int .u64 (2 ^ i : Nat) ∧ Hid (Below w.heap.size w wr)) (fun _ iv _ => B - (RowKit.intOf iv).toNat)
 case atStart => exact ⟨0, rfl, by omega, rfl, Below.refl _ _⟩
 case round =>
  obtain ⟨i, rfl, hi, rfl, HB⟩ := hrel
  have hp : 2 ^ i ≤ 2 ^ 39 := Nat.pow_le_pow_right (by omega) (by omega)
  have hpp : 2 ^ (i + 1) = 2 ^ i + 2 ^ i := by rw [Nat.pow_succ]; omega
  have HP := Lib.hid hpp
  have hp2 : 2 ^ i ≤ 549755813888 := hp
  clear hp hpp
  generalize hP : 2 ^ i = P at *
  have HQ := Lib.hid hP
  clear hP
  go_wp2_with fail
  refine (C1.out _).mono ?_
  rintro e w5 ⟨rfl, hb5⟩
  have HB5 : Hid (Below w.heap.size w w5) := HB.out.trans (hb5.mono HB.out.size)
  clear hb5
  by_cases hlt : i < B
  ·have d1 : decide ((i : Int) < (B : Int)) = true := by simp; omega
   have e1 : IntKind.u64.wrap ((P : Int) + (P : Int)) = ((P + P : Nat) : Int) := by rw [IntKind.wrap_u64]; omega
   go_wp2
   exact ⟨⟨i + 1, by first | rfl | go_num, by omega, by rw [HP.out]; first | rfl | go_num, HB5⟩, by simp [RowKit.intOf]; omega⟩
  ·have d1 : decide ((i : Int) < (B : Int)) = false := by simp; omega
   obtain rfl : i = B := by omega
   go_wp2
   go_ret
   exact ⟨by rw [HQ.out]; rfl, HB5.out⟩
end Go.Proofs.YtbapgngngaaojaaGreat
