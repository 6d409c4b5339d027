/- The walks of package field. -/
import Derived.Test.YtbapgngngaaojaaGreatProg
import Derived.Test.YtbapgngngaaojaaGreatG01
import Derived.WalkKit
import Derived.WalkMore
import Derived.WalkSmall
import Derived.Below
import Derived.WalkSpells
import Derived.WalkLawsBesides
import Derived.OwnWalk
import Derived.Lib.OthersKept
import Derived.Lib.Hide
import Derived.Lib.TrimUEq
import Derived.BigQuiet
import Derived.Deep.QuietTactic
import Derived.Outline
import Derived.Deep.RegionHeld3
set_option linter.unusedSimpArgs false
set_option linter.unusedVariables false
namespace Go.Proofs.YtbapgngngaaojaaGreat
open Go.RowKit Go.Lib
theorem ret_bool {a b : Bool} (h : a = b) : Ending.returned (.bool a) = .returned (.bool b) := by rw [h]
theorem ret_int {k : IntKind} {a b : Int} (h : a = b) : Ending.returned (.int k a) = .returned (.int k b) := by rw [h]
theorem ret_u64 {a b : Nat} (h : a = b) : Ending.returned (.int .u64 (a : Int)) = .returned (.int .u64 b) := by rw [h]
set_option maxRecDepth 100000
theorem ones_nat (n : Nat) (w : World) (h2 : n < 64) :
  Calls Tryz.prog 105 #[.int .i64 n] w fun e w' => e = .returned (.int .u64 (2 ^ n - 1 : Nat)) ∧ w' = w := by
 by_cases h1 : 1 ≤ n
 ·have hp := pow_lt64 h2
  have hp0 := Nat.two_pow_pos n
  have e1 : IntKind.u64.wrap (IntKind.u64.wrap (2 ^ n) - 1) = ((2 ^ n - 1 : Nat) : Int) := by
   have : ((2 : Int) ^ n) = ((2 ^ n : Nat) : Int) := by simp
   rw [this]
   generalize 2 ^ n = P at hp hp0 ⊢
   rw [IntKind.wrap_u64, IntKind.wrap_u64]
   omega
  go_enter Tryz.func105, Tryz.ntmps105
  go_wp2
  go_ret
  exact ⟨rfl, rfl⟩
 ·obtain rfl : n = 0 := by omega
  go_enter Tryz.func105, Tryz.ntmps105
  go_wp2
  go_ret
  exact ⟨rfl, rfl⟩
theorem down_nat (x n : Nat) (w : World) (hx : x < 18446744073709551616) (h2 : n < 64) :
  Calls Tryz.prog 140 #[.int .u64 x, .int .i64 n] w fun e w' => e = .returned (.int .u64 (x - x % 2 ^ n : Nat)) ∧ w' = w := by
 have C1 := Lib.hid (fun w => ones_nat n w h2)
 have hp := pow_lt64 h2
 go_enter Tryz.func140, Tryz.ntmps140
 go_wp2_with (go_at_call 105; refine (C1.out _).mono ?_; rintro e w1 ⟨rfl, rfl⟩)
 go_ret
 refine ⟨?_, rfl⟩
 rw [bits_andNot _ _ hx (by omega), andN_low _ _ hx]
 rfl
theorem aligned_nat (x n : Nat) (w : World) (hx : x < 18446744073709551616) (h2 : n < 64) :
  Calls Tryz.prog 73 #[.int .u64 x, .int .i64 n] w fun e w' => e = .returned (.bool (x % 2 ^ n == 0)) ∧ w' = w := by
 have C1 := Lib.hid (fun w => ones_nat n w h2)
 have hp := pow_lt64 h2
 go_enter Tryz.func73, Tryz.ntmps73
 go_wp2_with (go_at_call 105; refine (C1.out _).mono ?_; rintro e w1 ⟨rfl, rfl⟩)
 go_ret
 refine ⟨ret_bool ?_, rfl⟩
 rw [bits_and_u64_nat _ _ hx (by omega), and_ones]
 generalize x % 2 ^ n = y
 rw [Bool.eq_iff_iff]
 simp
theorem bcell {W w1 : World} (hb : Below W.heap.size W w1) : (∀ b o, b < W.heap.size → w1.cell? ⟨b, o, none⟩ = W.cell? ⟨b, o, none⟩) ∧ (∀ b o, b < W.heap.size → w1.frozen? ⟨b, o, none⟩ = W.frozen? ⟨b, o, none⟩) :=
 ⟨fun b o h => hb.cell (p := ⟨b, o, none⟩) h, fun b o h => hb.frozen (p := ⟨b, o, none⟩) h⟩
theorem keep_cell {w w5 : World} {b o : Nat} {v : Value} (hb : Below w.heap.size w w5) (h : w.cell? ⟨b, o, none⟩ = some v) : w5.cell? ⟨b, o, none⟩ = some v :=
 ((bcell hb).1 b o (World.block_lt_of_cell? w _ h)).trans h
theorem keep_frozen {w w5 : World} {b o : Nat} {f : Bool} (hb : Below w.heap.size w w5) (hlt : b < w.heap.size) (h : w.frozen? ⟨b, o, none⟩ = f) : w5.frozen? ⟨b, o, none⟩ = f :=
 ((bcell hb).2 b o hlt).trans h
theorem below1 (w : World) (o : Obj) : Below w.heap.size w (w.alloc o) := (Below.refl _ _).alloc (Nat.le_refl _) o
/-- What a drawn region keeps beside its cells: all that was there. -/
def CtxB (w w' : World) : Prop := Below w.heap.size w w'
theorem CtxB.next {w w' w5 : World} (h : CtxB w w') (hb : Below w'.heap.size w' w5) : CtxB w w5 := Below.trans h (hb.mono (Below.size h))
theorem CtxB.drew {w w' : World} (h : CtxB w w') : CtxB w w'.drew := h.next (below_drewN (Below.refl _ _) 1)
theorem CtxB.out {w w' : World} (h : CtxB w w') : Below w.heap.size w w' := h
theorem drew_cell {w : World} {b o : Nat} {v : Value} (h : w.cell? ⟨b, o, none⟩ = some v) : w.drew.cell? ⟨b, o, none⟩ = some v := h
theorem right_nat (low wide : Nat) (w : World) (h1 : 1 ≤ wide) (h2 : low + wide ≤ 64) :
  Calls Tryz.prog 119 #[.agg #[.int .i64 low, .int .i64 wide]] w fun e w' => e = .returned (.bool true) ∧ Below w.heap.size w w' := by
 go_enter Tryz.func119, Tryz.ntmps119
 go_wp2
 go_ret
 refine ⟨ret_bool ?_, below1 _ _⟩
 first | rfl | (simp; omega)
theorem mask_lt (low wide : Nat) (h2 : low + wide ≤ 64) : (2 ^ wide - 1) * 2 ^ low < 18446744073709551616 := by
 have h : 2 ^ wide * 2 ^ low ≤ 18446744073709551616 := by
  rw [← Nat.pow_add]
  have := Nat.pow_le_pow_right (n := 2) (by omega) (show wide + low ≤ 64 by omega)
  simpa using this
 have h3 := Nat.two_pow_pos low
 rw [Nat.sub_mul]
 omega
theorem get_nat (low wide x : Nat) (w : World) (hx : x < 18446744073709551616) (h1 : 1 ≤ wide) (h2 : low + wide ≤ 64) (h3 : wide < 64) :
  Calls Tryz.prog 79 #[.agg #[.int .i64 low, .int .i64 wide], .int .u64 x] w fun e w' => e = .returned (.int .u64 (x / 2 ^ low % 2 ^ wide : Nat)) ∧ Below w.heap.size w w' := by
 have C1 := Lib.hid (fun w => right_nat low wide w h1 h2)
 have C2 := Lib.hid (fun w => ones_nat wide w h3)
 have hp := pow_lt64 h3
 have hl0 : (0 : Int) ≤ (low : Int) := by omega
 go_enter Tryz.func79, Tryz.ntmps79
 go_wp2_with fail
 refine (C1.out _).mono ?_
 rintro e w1 ⟨rfl, hb⟩
 have k0 : w1.cell? ⟨w.heap.size, 0, none⟩ = some (.int .i64 low) := keep_cell hb (by simp)
 have k1 : w1.cell? ⟨w.heap.size, 1, none⟩ = some (.int .i64 wide) := keep_cell hb (by simp)
 have hB := Lib.hid ((below1 w _).trans (hb.mono (below1 w _).size))
 clear hb
 go_wp2_with fail
 go_quiet (first | (go_at_call 105; exact Calls.quiet_of_same ((C2.out _).mono fun e w' h => ⟨h.1, h.2⟩)))
 go_wp2_with fail
 go_ret
 refine ⟨ret_int ?_, below_drewN hB.out _⟩
 rw [show ((x : Int) / 2 ^ low) = ((x / 2 ^ low : Nat) : Int) by simp, bits_and_u64_nat _ _ (Nat.lt_of_le_of_lt (Nat.div_le_self _ _) hx) (by omega), and_ones]
theorem mask_nat (low wide : Nat) (w : World) (h1 : 1 ≤ wide) (h2 : low + wide ≤ 64) (h3 : wide < 64) :
  Calls Tryz.prog 118 #[.agg #[.int .i64 low, .int .i64 wide]] w fun e w' => e = .returned (.int .u64 ((2 ^ wide - 1) * 2 ^ low : Nat)) ∧ Below w.heap.size w w' := by
 have C1 := Lib.hid (fun w => right_nat low wide w h1 h2)
 have C2 := Lib.hid (fun w => ones_nat wide w h3)
 have hl0 : (0 : Int) ≤ (low : Int) := by omega
 go_enter Tryz.func118, Tryz.ntmps118
 go_wp2_with fail
 refine (C1.out _).mono ?_
 rintro e w1 ⟨rfl, hb⟩
 have k0 : w1.cell? ⟨w.heap.size, 0, none⟩ = some (.int .i64 low) := keep_cell hb (by simp)
 have k1 : w1.cell? ⟨w.heap.size, 1, none⟩ = some (.int .i64 wide) := keep_cell hb (by simp)
 have hB := Lib.hid ((below1 w _).trans (hb.mono (below1 w _).size))
 clear hb
 go_wp2_with fail
 go_quiet (first | (go_at_call 105; exact Calls.quiet_of_same ((C2.out _).mono fun e w' h => ⟨h.1, h.2⟩)))
 go_wp2_with fail
 go_ret
 refine ⟨ret_int ?_, below_drewN hB.out _⟩
 have h9 := mask_lt low wide h2
 rw [show ((2 ^ wide - 1 : Nat) : Int) * 2 ^ low = (((2 ^ wide - 1) * 2 ^ low : Nat) : Int) by simp, IntKind.wrap_u64]
 omega
theorem put_lt {low wide v : Nat} (h2 : low + wide ≤ 64) (hv : v < 2 ^ wide) : v * 2 ^ low < 18446744073709551616 := by
 have h : 2 ^ wide * 2 ^ low ≤ 18446744073709551616 := by
  rw [← Nat.pow_add]
  have := Nat.pow_le_pow_right (n := 2) (by omega) (show wide + low ≤ 64 by omega)
  simpa using this
 exact Nat.lt_of_lt_of_le (Nat.mul_lt_mul_of_pos_right hv (Nat.two_pow_pos _)) h
theorem put_nat (low wide x v : Nat) (w : World) (hx : x < 18446744073709551616) (h1 : 1 ≤ wide) (h2 : low + wide ≤ 64) (h3 : wide < 64) (hv : v < 2 ^ wide) :
  Calls Tryz.prog 120 #[.agg #[.int .i64 low, .int .i64 wide], .int .u64 x, .int .u64 v] w fun e w' => e = .returned (.tuple #[.int .u64 ((andN x ((2 ^ wide - 1) * 2 ^ low)) ||| v * 2 ^ low : Nat), .int .i64 0]) ∧ Below w.heap.size w w' := by
 have C1 := Lib.hid (fun w => right_nat low wide w h1 h2)
 have C2 := Lib.hid (fun w => ones_nat wide w h3)
 have C3 := Lib.hid (fun w => mask_nat low wide w h1 h2 h3)
 have hp := pow_lt64 h3
 have hl0 : (0 : Int) ≤ (low : Int) := by omega
 have hz : (bits .andNot .u64 (v : Int) ((2 ^ wide - 1 : Nat) : Int) != 0) = false := by
  rw [bits_andNot _ _ (by omega) (by omega), andN_low _ _ (by omega), Nat.mod_eq_of_lt hv]
  simp
 go_enter Tryz.func120, Tryz.ntmps120
 go_wp2_with fail
 refine (C1.out _).mono ?_
 rintro e w1 ⟨rfl, hb⟩
 have k0 : w1.cell? ⟨w.heap.size, 0, none⟩ = some (.int .i64 low) := keep_cell hb (by simp)
 have k1 : w1.cell? ⟨w.heap.size, 1, none⟩ = some (.int .i64 wide) := keep_cell hb (by simp)
 have hB := Lib.hid ((below1 w _).trans (hb.mono (below1 w _).size))
 clear hb
 go_wp2_with (go_at_call 105; refine (C2.out _).mono ?_; rintro e w' ⟨rfl, rfl⟩)
 have hC : CtxB w w' := hB.out
 go_region_held3 (fun u => u.cell? ⟨w.heap.size, 0, none⟩ = some (.int .i64 low) ∧ u.cell? ⟨w.heap.size, 1, none⟩ = some (.int .i64 wide) ∧ CtxB w u)
  (first | assumption | exact ⟨drew_cell k0, drew_cell k1, hC.drew⟩ | (go_split_ands; exact ⟨keep_cell hb5 (by assumption), keep_cell hb5 (by assumption), CtxB.next (by assumption) hb5⟩))
  (first | (go_at_call 118; refine (C3.out _).mono ?_; rintro e w5 ⟨rfl, hb5⟩))
 go_split_ands
 have HB : Hid (Below w.heap.size w w5) := CtxB.out (by assumption)
 clear hB hC k0 k1
 go_wp2
 go_ret2
 refine ⟨?_, HB.out⟩
 have e1 : bits .or .u64 (bits .andNot .u64 (x : Int) (((2 ^ wide - 1 : Nat) : Int) * 2 ^ low)) (IntKind.u64.wrap ((v : Int) * 2 ^ low)) = ((andN x ((2 ^ wide - 1) * 2 ^ low) ||| v * 2 ^ low : Nat) : Int) := by
  have h9 := mask_lt low wide h2
  have h8 := put_lt h2 hv
  have h7 : andN x ((2 ^ wide - 1) * 2 ^ low) < 18446744073709551616 := by unfold andN; exact Nat.and_lt_two_pow (n := 64) _ (Nat.xor_lt_two_pow (by omega) (by omega))
  rw [show (((2 ^ wide - 1 : Nat) : Int) * 2 ^ low) = (((2 ^ wide - 1) * 2 ^ low : Nat) : Int) by simp, show ((v : Int) * 2 ^ low) = ((v * 2 ^ low : Nat) : Int) by simp, IntKind.wrap_u64, bits_andNot _ _ hx h9]
  rw [show ((v * 2 ^ low : Nat) : Int) % 18446744073709551616 = ((v * 2 ^ low : Nat) : Int) by omega]
  exact bits_or_u64_nat _ _ h7 h8
 rw [← e1]
 rfl
theorem rest_one (x low wide g cap : Nat) (w : World) (hx : x < 18446744073709551616) (h1 : 1 ≤ wide) (h2 : low + wide ≤ 64) (h3 : wide < 64)
  (k0 : w.cell? ⟨g, 0, none⟩ = some (.int .i64 low)) (k1 : w.cell? ⟨g, 1, none⟩ = some (.int .i64 wide)) :
  Calls Tryz.prog 77 #[.int .u64 x, .slice (some ⟨g, 0, none⟩) 1 cap] w fun e w' => e = .returned (.int .u64 (andN x ((2 ^ wide - 1) * 2 ^ low) : Nat)) ∧ Below w.heap.size w w' := by
 have C3 := Lib.hid (fun w => mask_nat low wide w h1 h2 h3)
 have h9 := mask_lt low wide h2
 have e1 : bits .andNot .u64 (x : Int) (((2 ^ wide - 1) * 2 ^ low : Nat) : Int) = ((andN x ((2 ^ wide - 1) * 2 ^ low) : Nat) : Int) := bits_andNot _ _ hx h9
 generalize (2 ^ wide - 1) * 2 ^ low = M at C3 h9 e1 ⊢
 generalize andN x M = R at e1 ⊢
 have hg := World.block_lt_of_cell? w _ k0
 dsimp only at hg
 go_enter Tryz.func77, Tryz.ntmps77
 go_wp2
 go_loopw [9, 0] (fun iv xv wr => ∃ i y : Nat, iv = .int .i64 i ∧ xv = .int .u64 y ∧ (i = 0 ∧ y = x ∨ i = 1 ∧ y = R) ∧ Hid (Below w.heap.size w wr)) (fun iv _ _ => 1 - (RowKit.intOf iv).toNat)
 case atStart => exact ⟨0, x, rfl, rfl, .inl ⟨rfl, rfl⟩, Below.refl _ _⟩
 case round =>
  obtain ⟨i, y, rfl, rfl, hy, HB⟩ := hrel
  rcases hy with ⟨rfl, rfl⟩ | ⟨rfl, rfl⟩
  ·have q0 := keep_cell HB.out k0
   have q1 := keep_cell HB.out k1
   have hz := HB.size
   have hgr : g < wr.heap.size := by omega
   clear k0 k1
   go_wp2_with fail
   refine (C3.out _).mono ?_
   rintro e w1 ⟨rfl, hb⟩
   have HB1 := Lib.hid (HB.out.trans (((below1 wr _).trans (hb.mono (below1 wr _).size)).mono HB.size))
   clear hb C3 HB
   go_wp2
   go_roundw
   case rel => exact ⟨1, R, by first | rfl | go_num, rfl, .inr ⟨rfl, rfl⟩, HB1⟩
   case measure => simp [RowKit.intOf]
  ·clear k0 k1
   go_wp2
   go_ret
   exact ⟨rfl, HB.out⟩
end Go.Proofs.YtbapgngngaaojaaGreat
