/- When a leaf's word is right, bit by bit. The walks of the fourth reference: Decode. Words on memory: what a call keeps; rows of structs. A memory of pages in the heap: its words by address. -/
import Derived.Test.YtbapgngngaaojaaGreatG04
import Derived.Test.YtbapgngngaaojaaGreatG03
import Derived.ArgAppend
import Derived.Deep.MidRow
import Derived.Deep.Onto
import Derived.OwnWalk
import Derived.Maps.Own
import Derived.Maps.OwnSet
import Derived.Maps.OwnOps
import Derived.Maps.RangeWalk
import Derived.Maps.Ext
set_option linter.unusedSimpArgs false
set_option linter.unusedVariables false
namespace Go.Proofs.YtbapgngngaaojaaGreat
theorem mod_bits (x b : Nat) : (x % 2 ^ b = 0) ↔ ∀ i, i < b → x.testBit i = false := by
 constructor
 ·intro h i hi
  have h1 := Nat.testBit_mod_two_pow x b i
  rw [h, Nat.zero_testBit] at h1
  simpa [hi] using h1.symm
 ·intro h
  refine Nat.eq_of_testBit_eq fun i => ?_
  rw [Nat.testBit_mod_two_pow, Nat.zero_testBit]
  by_cases hi : i < b
  ·rw [h i hi]; simp
  ·simp [hi]
def leafBits (level x : Nat) : Prop := x.testBit 8 = true ∧ x.testBit 9 = true ∧ x.testBit 11 = true ∧ x.testBit 53 = true ∧ x.testBit 5 = false ∧ ∀ i, 12 ≤ i → i < 64 → x.testBit i = true → bitsL level ≤ i ∧ (i ≤ 47 ∨ i = 53 ∨ i = 54)
theorem leaf_bits {level x : Nat} (hx : x < 18446744073709551616) (h0 : x.testBit 0 = true) :
  (rightL (leafD x) level = true ∧ wordD (leafD x) = x) ↔ (leafK (leafD x).kind level = true ∧ leafBits level x) := by
 have hout : (leafD x).out = outW x := rfl
 have hlt := outW_lt x
 have hat : (leafD x).attr < 8 := by unfold leafD; dsimp only; omega
 have hb : bitsL level ≤ 39 := by unfold bitsL; split <;> (try split) <;> (try split) <;> omega
 have hr : rightL (leafD x) level = true ↔ leafK (leafD x).kind level = true ∧ ∀ i, i < bitsL level → (outW x).testBit i = false := by
  unfold rightL
  rw [hout, ← mod_bits]
  simp only [Bool.and_eq_true, decide_eq_true_eq, beq_iff_eq]
  constructor
  ·exact fun h => ⟨h.1.1.1, h.1.2⟩
  ·exact fun h => ⟨⟨⟨h.1, hlt⟩, h.2⟩, hat⟩
 have hw : wordD (leafD x) = x ↔ ∀ i, (wordD (leafD x)).testBit i = x.testBit i := ⟨fun h i => by rw [h], fun h => Nat.eq_of_testBit_eq h⟩
 rw [hr, hw]
 constructor
 ·rintro ⟨⟨hk, ho⟩, hall⟩
  refine ⟨hk, ?_, ?_, ?_, ?_, ?_, ?_⟩
  ·have := hall 8; rw [wordD_bit] at this; simpa using this.symm
  ·have := hall 9; rw [wordD_bit] at this; simpa using this.symm
  ·have := hall 11; rw [wordD_bit] at this; simpa using this.symm
  ·have := hall 53; rw [wordD_bit] at this; simpa using this.symm
  ·have := hall 5; rw [wordD_bit] at this; simpa using this.symm
  ·intro i h1 h2 hbit
   have h3 := hall i
   rw [wordD_bit, hbit] at h3
   have h4 : i < 48 ∨ i = 53 ∨ i = 54 := by
    by_cases q : i < 48
    ·exact .inl q
    ·by_cases q2 : i = 53
     ·exact .inr (.inl q2)
     ·by_cases q3 : i = 54
      ·exact .inr (.inr q3)
      ·exfalso
       simp only [show ¬ (8 = i) by omega, show ¬ (9 = i) by omega, show ¬ (11 = i) by omega, show ¬ (53 = i) by omega, show ¬ (0 = i) by omega, show ¬ (1 = i) by omega, show ¬ (6 = i) by omega, show ¬ (7 = i) by omega, show ¬ (10 = i) by omega, show ¬ (54 = i) by omega, q, show ¬ (i < 5) by omega, decide_false, Bool.and_false, Bool.false_and, Bool.or_false, Bool.false_or] at h3
       cases h3
   refine ⟨?_, by omega⟩
   apply Nat.le_of_not_lt
   intro hlow
   have h5 := ho i hlow
   rw [outW_bit, hbit] at h5
   simp [h1] at h5
   omega
 ·rintro ⟨hk, h8, h9, h11, h53, h5, hall⟩
  refine ⟨⟨hk, ?_⟩, ?_⟩
  ·intro i hi
   rw [outW_bit]
   by_cases q : 12 ≤ i
   ·cases hbit : x.testBit i with
    | false => simp
    | true => have := (hall i q (by omega) hbit).1; omega
   ·simp [q]
  ·intro i
   rw [wordD_bit]
   by_cases q12 : 12 ≤ i
   ·by_cases q48 : i < 48
    ·simp only [q12, q48, decide_true, Bool.true_and, show ¬ (8 = i) by omega, show ¬ (9 = i) by omega, show ¬ (11 = i) by omega, show ¬ (53 = i) by omega, show ¬ (0 = i) by omega, show ¬ (1 = i) by omega, show ¬ (6 = i) by omega, show ¬ (7 = i) by omega, show ¬ (10 = i) by omega, show ¬ (54 = i) by omega, show ¬ (2 = i) by omega, show ¬ (3 = i) by omega, show ¬ (4 = i) by omega, show ¬ (i < 5) by omega, decide_false, Bool.and_false, Bool.false_and, Bool.or_false, Bool.false_or, Bool.not_false, Bool.and_true]
    ·by_cases q53 : i = 53
     ·subst q53; rw [h53]; simp
     ·by_cases q54 : i = 54
      ·subst q54; simp
      ·have hf : x.testBit i = false := by
        by_cases q64 : i < 64
        ·cases hbit : x.testBit i with
         | false => rfl
         | true => have := (hall i q12 q64 hbit).2; omega
        ·exact bit_ge hx (by omega)
       rw [hf]
       simp only [show ¬ (8 = i) by omega, show ¬ (9 = i) by omega, show ¬ (11 = i) by omega, show ¬ (53 = i) by omega, show ¬ (0 = i) by omega, show ¬ (1 = i) by omega, show ¬ (6 = i) by omega, show ¬ (7 = i) by omega, show ¬ (10 = i) by omega, show ¬ (54 = i) by omega, decide_false, Bool.and_false, Bool.false_and, Bool.or_false, Bool.false_or]
   ·rcases (show i = 0 ∨ i = 1 ∨ i = 2 ∨ i = 3 ∨ i = 4 ∨ i = 5 ∨ i = 6 ∨ i = 7 ∨ i = 8 ∨ i = 9 ∨ i = 10 ∨ i = 11 by omega) with rfl | rfl | rfl | rfl | rfl | rfl | rfl | rfl | rfl | rfl | rfl | rfl <;> simp [h0, h5, h8, h9, h11]
end Go.Proofs.YtbapgngngaaojaaGreat
namespace Go.Proofs.YtbapgngngaaojaaGreat
open Go.RowKit Go.Lib
set_option maxRecDepth 100000
/-- What the fourth reference answers. -/
def RDecPost (R : Option Dd) (w : World) (e : Ending) (w' : World) : Prop := e = .returned (.tuple #[dV (R.getD zeroD), .bool R.isSome]) ∧ Below w.heap.size w w'
theorem rdecode_zero (level x : Nat) (w : World) (hx : x < 18446744073709551616) (h0 : x.testBit 0 = false) :
  Calls Tryz.prog 123 #[.int .i64 level, .int .u64 x] w (RDecPost (some zeroD) w) := by
 have C1 := Lib.hid (fun w => rbits_any x w hx)
 go_enter Tryz.func123, Tryz.ntmps123
 go_wp2_with fail
 refine (C1.out _).mono ?_
 rintro e w1 ⟨rfl, hb1⟩
 have r0 : w1.cell? ⟨w.heap.size, 0, none⟩ = some (.int .i64 0) := keep_cell hb1 (by simp)
 have r1 : w1.cell? ⟨w.heap.size, 1, none⟩ = some (.int .u64 0) := keep_cell hb1 (by simp)
 have r2 : w1.cell? ⟨w.heap.size, 2, none⟩ = some (.bool false) := keep_cell hb1 (by simp)
 have r3 : w1.cell? ⟨w.heap.size, 3, none⟩ = some (.bool false) := keep_cell hb1 (by simp)
 have r4 : w1.cell? ⟨w.heap.size, 4, none⟩ = some (.bool false) := keep_cell hb1 (by simp)
 have r5 : w1.cell? ⟨w.heap.size, 5, none⟩ = some (.bool false) := keep_cell hb1 (by simp)
 have r6 : w1.cell? ⟨w.heap.size, 6, none⟩ = some (.int .i64 0) := keep_cell hb1 (by simp)
 have fr : ∀ j, w1.frozen? ⟨w.heap.size, j, none⟩ = false := fun j => keep_frozen hb1 (by simp) (by simp)
 have hz : w.heap.size < w1.heap.size := by have := hb1.size; simp at this; omega
 rw [arrB_row]
 generalize hR : (rowB fun j => x.testBit j) = R
 have HR := Lib.hid hR
 clear hR
 have I0 : Hid ((Tryz.prog.info? 215).map (·.size) = some R.toArray.size) := by rw [← HR.out]; simp [Hid, info215, rowB_len]
 have I1 : Hid (R.toArray.all (·.oneCell') = true) := by rw [← HR.out]; exact rowB_oneCell _
 have hsz : R.toArray.size = 64 := by rw [← HR.out]; simp [rowB_len]
 have SZ := Lib.hid hsz
 have HB1 := Lib.hid ((below1 w _).trans (hb1.mono (below1 w _).size))
 clear hsz hb1 C1
 go_wp2_with (first | (refine wpList_store_mid (by rfl) 215 _ _ (by rfl) w1.heap.size 0 R.toArray (by rfl) (by rfl) (by rw [SZ.out]; exact there_new w1 _ _) I0.out I1.out ?_; (try simp only [List.toList_toArray]); generalize hW : World.setCells _ _ _ _ = W; have BC : Hid (BitCells (fun j => x.testBit j) w1.heap.size W ∧ Below w1.heap.size w1 W) := (by rw [← hW, ← HR.out]; exact ⟨BitCells.stored w1 (Array.replicate 64 (Value.bool false)) 215 _ (by simp), below_setCells (below1 w1 (.cells (Array.replicate 64 (Value.bool false)) 215)) (Nat.le_refl _) 0 (rowB fun j => x.testBit j)⟩); clear hW; have c0 := (BC.out.1 0 (by omega)).1; simp only [h0] at c0; skip; replace r0 := keep_cell BC.out.2 r0; replace r1 := keep_cell BC.out.2 r1; replace r2 := keep_cell BC.out.2 r2; replace r3 := keep_cell BC.out.2 r3; replace r4 := keep_cell BC.out.2 r4; replace r5 := keep_cell BC.out.2 r5; replace r6 := keep_cell BC.out.2 r6; replace fr := fun j => keep_frozen BC.out.2 hz (fr j); replace hz := Nat.lt_of_lt_of_le hz BC.out.2.size))
 refine bodyPost_ret (v := .tuple #[dV zeroD, .bool true]) (by simp [results, Tryz.results123, go_sem, hz, r0, r1, r2, r3, r4, r5, r6, dV, zeroD]) rfl ⟨rfl, ?_⟩
 have HB := HB1.out.trans (BC.out.2.mono HB1.size)
 exact (((((((HB.setCell (Nat.le_refl _) _).setCell (Nat.le_refl _) _).setCell (Nat.le_refl _) _).setCell (Nat.le_refl _) _).setCell (Nat.le_refl _) _).setCell (Nat.le_refl _) _).setCell (Nat.le_refl _) _)
def tabOk (x : Nat) : Prop := ∀ i, 2 ≤ i → i < 64 → x.testBit i = true → 12 ≤ i ∧ i ≤ 47
set_option maxHeartbeats 1000000 in
theorem rdecode_table (level x : Nat) (w : World) (hx : x < 18446744073709551616) (hl : level < 3) (h0 : x.testBit 0 = true) (h1 : x.testBit 1 = true) :
  Calls Tryz.prog 123 #[.int .i64 level, .int .u64 x] w (fun e w' => (tabOk x ∧ RDecPost (some (tableD (outW x))) w e w') ∨ (¬ tabOk x ∧ RDecPost none w e w')) := by
 have G1 : Hid (∀ w, Calls Tryz.prog 87 #[.int .u64 x, .int .i64 12, .int .i64 36] w fun e w' => e = .returned (.int .u64 (x / 4096 % 68719476736 : Nat)) ∧ Below w.heap.size w w') :=
  fun w => rget_any x 12 36 w hx (by omega)
 have hout : IntKind.u64.wrap (((x / 4096 % 68719476736 : Nat) : Int) * 4096) = ((outW x : Nat) : Int) := by rw [IntKind.wrap_u64]; unfold outW; omega
 have hl3 : (level : Int) < 3 := by omega
 generalize x / 4096 % 68719476736 = Y at G1 hout
 generalize outW x = O at hout ⊢
 have C1 := Lib.hid (fun w => rbits_any x w hx)
 go_enter Tryz.func123, Tryz.ntmps123
 go_wp2_with fail
 refine (C1.out _).mono ?_
 rintro e w1 ⟨rfl, hb1⟩
 have r0 : w1.cell? ⟨w.heap.size, 0, none⟩ = some (.int .i64 0) := keep_cell hb1 (by simp)
 have r1 : w1.cell? ⟨w.heap.size, 1, none⟩ = some (.int .u64 0) := keep_cell hb1 (by simp)
 have r2 : w1.cell? ⟨w.heap.size, 2, none⟩ = some (.bool false) := keep_cell hb1 (by simp)
 have r3 : w1.cell? ⟨w.heap.size, 3, none⟩ = some (.bool false) := keep_cell hb1 (by simp)
 have r4 : w1.cell? ⟨w.heap.size, 4, none⟩ = some (.bool false) := keep_cell hb1 (by simp)
 have r5 : w1.cell? ⟨w.heap.size, 5, none⟩ = some (.bool false) := keep_cell hb1 (by simp)
 have r6 : w1.cell? ⟨w.heap.size, 6, none⟩ = some (.int .i64 0) := keep_cell hb1 (by simp)
 have fr : ∀ j, w1.frozen? ⟨w.heap.size, j, none⟩ = false := fun j => keep_frozen hb1 (by simp) (by simp)
 have hz : w.heap.size < w1.heap.size := by have := hb1.size; simp at this; omega
 rw [arrB_row]
 generalize hR : (rowB fun j => x.testBit j) = R
 have HR := Lib.hid hR
 clear hR
 have I0 : Hid ((Tryz.prog.info? 215).map (·.size) = some R.toArray.size) := by rw [← HR.out]; simp [Hid, info215, rowB_len]
 have I1 : Hid (R.toArray.all (·.oneCell') = true) := by rw [← HR.out]; exact rowB_oneCell _
 have hsz : R.toArray.size = 64 := by rw [← HR.out]; simp [rowB_len]
 have SZ := Lib.hid hsz
 have HB1 := Lib.hid ((below1 w _).trans (hb1.mono (below1 w _).size))
 clear hsz hb1 C1
 go_wp2_with (first | (refine wpList_store_mid (by rfl) 215 _ _ (by rfl) w1.heap.size 0 R.toArray (by rfl) (by rfl) (by rw [SZ.out]; exact there_new w1 _ _) I0.out I1.out ?_; (try simp only [List.toList_toArray]); generalize hW : World.setCells _ _ _ _ = W; have BC : Hid (BitCells (fun j => x.testBit j) w1.heap.size W ∧ Below w1.heap.size w1 W) := (by rw [← hW, ← HR.out]; exact ⟨BitCells.stored w1 (Array.replicate 64 (Value.bool false)) 215 _ (by simp), below_setCells (below1 w1 (.cells (Array.replicate 64 (Value.bool false)) 215)) (Nat.le_refl _) 0 (rowB fun j => x.testBit j)⟩); clear hW; have c0 := (BC.out.1 0 (by omega)).1; simp only [h0] at c0; have c1 := (BC.out.1 1 (by omega)).1; simp only [h1] at c1; replace r0 := keep_cell BC.out.2 r0; replace r1 := keep_cell BC.out.2 r1; replace r2 := keep_cell BC.out.2 r2; replace r3 := keep_cell BC.out.2 r3; replace r4 := keep_cell BC.out.2 r4; replace r5 := keep_cell BC.out.2 r5; replace r6 := keep_cell BC.out.2 r6; replace fr := fun j => keep_frozen BC.out.2 hz (fr j); replace hz := Nat.lt_of_lt_of_le hz BC.out.2.size))
 refine (G1.out _).mono ?_
 rintro e w2 ⟨rfl, hb2⟩
 replace r0 := keep_cell hb2 r0
 replace r1 := keep_cell hb2 r1
 replace r2 := keep_cell hb2 r2
 replace r3 := keep_cell hb2 r3
 replace r4 := keep_cell hb2 r4
 replace r5 := keep_cell hb2 r5
 replace r6 := keep_cell hb2 r6
 replace fr := fun j => keep_frozen hb2 hz (fr j)
 replace hz := Nat.lt_of_lt_of_le hz hb2.size
 have BC2 : Hid (BitCells (fun j => x.testBit j) w1.heap.size w2) := BC.out.1.below hb2
 have HB2 := Lib.hid ((HB1.out.trans (BC.out.2.mono HB1.size)).trans (hb2.mono (HB1.out.trans (BC.out.2.mono HB1.size)).size))
 replace c1 := keep_cell hb2 c1
 replace c0 := keep_cell hb2 c0
 clear hb2 BC HB1 I0 I1 SZ HR G1
 go_wp2
 go_loop [8] (fun iv => ∃ i : Nat, iv = .int .i64 i ∧ 2 ≤ i ∧ i ≤ 64 ∧ ∀ j, 2 ≤ j → j < i → x.testBit j = true → 12 ≤ j ∧ j ≤ 47) (fun iv => 64 - (RowKit.intOf iv).toNat)
 case atStart => exact ⟨2, rfl, by omega, by omega, fun j a b => by omega⟩
 case round =>
  obtain ⟨i, rfl, hi2, hi, hall⟩ := hrel
  by_cases hlt : i < 64
  ·have c : w2.cell? ⟨w1.heap.size, i, none⟩ = some (.bool (x.testBit i)) := (BC2.out i hlt).1
   have e5 : (i : Int) < 64 := by omega
   cases hb : x.testBit i with
   | false =>
    rw [hb] at c
    go_wp2
    go_round
    case rel => exact ⟨i + 1, by first | rfl | go_num, by omega, by omega, fun j a b hj => by
     by_cases he : j = i
     ·subst he; rw [hb] at hj; cases hj
     ·exact hall j a (by omega) hj⟩
    case measure => simp [RowKit.intOf]; omega
   | true =>
    rw [hb] at c
    by_cases h12 : i < 12
    ·have d1 : decide ((i : Int) < 12) = true := by simp; omega
     go_wp2
     refine bodyPost_ret (v := .tuple #[dV zeroD, .bool false]) (by simp [results, Tryz.results123, go_sem, hz, r0, r1, r2, r3, r4, r5, r6, dV, zeroD]) rfl (.inr ⟨fun h => ?_, rfl, ?_⟩)
     ·have := h i hi2 hlt hb
      omega
     ·exact (((((((HB2.out.setCell (Nat.le_refl _) _).setCell (Nat.le_refl _) _).setCell (Nat.le_refl _) _).setCell (Nat.le_refl _) _).setCell (Nat.le_refl _) _).setCell (Nat.le_refl _) _).setCell (Nat.le_refl _) _)
    ·have d1 : decide ((i : Int) < 12) = false := by simp; omega
     by_cases h47 : 47 < i
     ·have d2 : decide ((47 : Int) < (i : Int)) = true := by simp; omega
      go_wp2
      refine bodyPost_ret (v := .tuple #[dV zeroD, .bool false]) (by simp [results, Tryz.results123, go_sem, hz, r0, r1, r2, r3, r4, r5, r6, dV, zeroD]) rfl (.inr ⟨fun h => ?_, rfl, ?_⟩)
      ·have := h i hi2 hlt hb
       omega
      ·exact (((((((HB2.out.setCell (Nat.le_refl _) _).setCell (Nat.le_refl _) _).setCell (Nat.le_refl _) _).setCell (Nat.le_refl _) _).setCell (Nat.le_refl _) _).setCell (Nat.le_refl _) _).setCell (Nat.le_refl _) _)
     ·have d2 : decide ((47 : Int) < (i : Int)) = false := by simp; omega
      go_wp2
      go_round
      case rel => exact ⟨i + 1, by first | rfl | go_num, by omega, by omega, fun j a b hj => by
       by_cases he : j = i
       ·omega
       ·exact hall j a (by omega) hj⟩
      case measure => simp [RowKit.intOf]; omega
  ·obtain rfl : i = 64 := by omega
   go_wp2
   refine bodyPost_ret (v := .tuple #[dV (tableD O), .bool true]) (by simp [results, Tryz.results123, go_sem, hz, r0, r1, r2, r3, r4, r5, r6, dV, tableD]) rfl (.inl ⟨fun j a b hj => hall j a b hj, rfl, ?_⟩)
   exact (((((((HB2.out.setCell (Nat.le_refl _) _).setCell (Nat.le_refl _) _).setCell (Nat.le_refl _) _).setCell (Nat.le_refl _) _).setCell (Nat.le_refl _) _).setCell (Nat.le_refl _) _).setCell (Nat.le_refl _) _)
end Go.Proofs.YtbapgngngaaojaaGreat
namespace Go.Proofs.YtbapgngngaaojaaGreat
open Go.RowKit Go.Lib
/-- A call keeps all that was there but the blocks of F. -/
structure Kp (F : Nat → Prop) (w w' : World) : Prop where
 os : w'.os = w.os
 tape : w'.tape = w.tape
 output : w'.output = w.output
 size : w.heap.size ≤ w'.heap.size
 block : ∀ k, k < w.heap.size → ¬ F k → w'.heap[k]? = w.heap[k]?
section
variable {F F2 : Nat → Prop} {a w w' w2 : World}
theorem Kp.refl (F : Nat → Prop) (w : World) : Kp F w w := ⟨rfl, rfl, rfl, Nat.le_refl _, fun _ _ _ => rfl⟩
theorem Kp.trans (h : Kp F a w) (k : Kp F2 w w2) (hs : ∀ i, F2 i → F i ∨ a.heap.size ≤ i) : Kp F a w2 :=
 ⟨k.os.trans h.os, k.tape.trans h.tape, k.output.trans h.output, Nat.le_trans h.size k.size,
  fun i hi hn => (k.block i (Nat.lt_of_lt_of_le hi h.size) (fun h2 => (hs i h2).elim hn (fun h3 => by omega))).trans (h.block i hi hn)⟩
theorem Kp.mono (h : Kp F a w) (hs : ∀ i, F i → F2 i) : Kp F2 a w := ⟨h.os, h.tape, h.output, h.size, fun i hi hn => h.block i hi (fun x => hn (hs i x))⟩
theorem Kp.ofBelow (h : Below a.heap.size a w) : Kp F a w := ⟨h.os, h.tape, h.output, h.size, fun i hi _ => h.block i hi⟩
theorem Kp.below (h : Kp F a w) (hb : Below w.heap.size w w2) : Kp F a w2 := h.trans (F2 := fun _ => False) (.ofBelow hb) (fun _ x => x.elim)
theorem Kp.alloc (h : Kp F a w) (o : Obj) : Kp F a (w.alloc o) := h.below ((Below.refl _ _).alloc (Nat.le_refl _) o)
theorem Kp.drewN (h : Kp F a w) (n : Nat) : Kp F a (w.drewN n) := ⟨h.os, h.tape, h.output, h.size, h.block⟩
theorem Kp.drew (h : Kp F a w) : Kp F a w.drew := ⟨h.os, h.tape, h.output, h.size, h.block⟩
theorem Kp.setCell (h : Kp F a w) {p : Addr} (hp : F p.block ∨ a.heap.size ≤ p.block) (u : Value) : Kp F a (w.setCell p u) :=
 h.trans (F2 := fun k => k = p.block) ⟨rfl, rfl, rfl, by simp [World.setCell], fun i _ hn => Below.heap_setCell w p u i hn⟩ (fun k hk => by rw [hk]; exact hp)
theorem Kp.setCells (h : Kp F a w) {b : Nat} (hp : F b ∨ a.heap.size ≤ b) : ∀ (o : Nat) (vs : List Value), Kp F a (w.setCells b o vs) := by
 intro o vs
 induction vs generalizing o w with
 | nil => exact h
 | cons v vs ih => exact ih (h.setCell (p := ⟨b, o, none⟩) hp v) (o + 1)
theorem Kp.grown {row : Option Nat} (h : Kp F a w) (hg : w.grownBy w2 row) (hr : ∀ k, row = some k → F k ∨ a.heap.size ≤ k) : Kp F a w2 :=
 h.trans (F2 := fun k => row = some k) ⟨hg.os, hg.tape, hg.output, hg.size, fun i hi hn => hg.block i hi (fun e => hn e.symm)⟩ hr
theorem Kp.toBelow {B : Nat} {w0 : World} (h : Kp F a w) (hb : Below B w0 a) (hB : B ≤ a.heap.size) (hF : ∀ k, F k → B ≤ k) : Below B w0 w :=
 hb.trans ⟨h.os, h.tape, h.output, h.size, fun i hi => h.block i (by omega) (fun x => by have := hF i x; omega)⟩
theorem Kp.below' (h : Kp F a w) (hF : ∀ k, F k → a.heap.size ≤ k) : Below a.heap.size a w := h.toBelow (Below.refl _ _) (Nat.le_refl _) hF
theorem Kp.cell (h : Kp F w w') {b o : Nat} {v : Value} (hc : w.cell? ⟨b, o, none⟩ = some v) (hn : ¬ F b) : w'.cell? ⟨b, o, none⟩ = some v :=
 (World.cell?_of_block (a := ⟨b, o, none⟩) (h.block b (World.block_lt_of_cell? w _ hc) hn)).trans hc
theorem Kp.frozen (h : Kp F w w') {b o : Nat} (hlt : b < w.heap.size) (hn : ¬ F b) : w'.frozen? ⟨b, o, none⟩ = w.frozen? ⟨b, o, none⟩ :=
 World.frozen?_of_block (a := ⟨b, o, none⟩) (h.block b hlt hn)
theorem Kp.range (h : Kp F w w') {b o : Nat} {cs : List Value} (hc : w.rangeAt b o cs) (hn : ¬ F b) : w'.rangeAt b o cs := fun j v hj => h.cell (hc j v hj) hn
theorem Kp.there (h : Kp F w w') {b o n : Nat} (hc : w.there b o n) (hlt : b < w.heap.size) (hn : ¬ F b) : w'.there b o n := fun j hj => by
 obtain ⟨h1, h2⟩ := hc j hj
 obtain ⟨v, hv⟩ := Option.isSome_iff_exists.1 h1
 exact ⟨by rw [h.cell hv hn]; rfl, by rw [h.frozen hlt hn]; exact h2⟩
end
/-- A slice's value v is a row of n elements of sz cells each, whose cells are cs; it lies in a block of ok. -/
def RowAt (w : World) (ok : Nat → Prop) (sz : Nat) (v : Value) (n : Nat) (cs : List Value) : Prop :=
 cs.length = n * sz ∧ ((v = .slice none 0 0 ∧ n = 0) ∨ ∃ g o cap, v = .slice (some ⟨g, o, none⟩) n cap ∧ ok g ∧ g < w.heap.size ∧ n ≤ cap ∧ cap ≤ maxLen ∧ w.rangeAt g o cs ∧ w.there g o (cap * sz))
/-- A slice's value that can be read: its cells. -/
def RdRow (w : World) (v : Value) (n : Nat) (cs : List Value) : Prop := ∃ A c, v = .slice A n c ∧ (0 < n → ∃ g o, A = some ⟨g, o, none⟩ ∧ w.rangeAt g o cs)
section
variable {F ok ok2 : Nat → Prop} {w w' : World} {sz n : Nat} {v : Value} {cs : List Value}
theorem RowAt.rd (h : RowAt w ok sz v n cs) : RdRow w v n cs := by
 rcases h.2 with ⟨rfl, rfl⟩ | ⟨g, o, cap, rfl, _, _, _, _, h1, _⟩
 ·exact ⟨none, 0, rfl, fun h => by omega⟩
 ·exact ⟨_, _, rfl, fun _ => ⟨g, o, rfl, h1⟩⟩
theorem RowAt.form (h : RowAt w ok sz v n cs) : ∃ A c, v = .slice A n c := by
 rcases h.2 with ⟨rfl, rfl⟩ | ⟨g, o, cap, rfl, _⟩
 ·exact ⟨_, _, rfl⟩
 ·exact ⟨_, _, rfl⟩
theorem RowAt.nil (w : World) (ok : Nat → Prop) (sz : Nat) : RowAt w ok sz (.slice none 0 0) 0 [] := ⟨by simp, .inl ⟨rfl, rfl⟩⟩
theorem RowAt.mono (h : RowAt w ok sz v n cs) (hs : ∀ k, k < w.heap.size → ok k → ok2 k) : RowAt w ok2 sz v n cs :=
 ⟨h.1, h.2.imp id fun ⟨g, o, cap, e, h1, h2, r⟩ => ⟨g, o, cap, e, hs g h2 h1, h2, r⟩⟩
theorem RowAt.kept (h : RowAt w ok sz v n cs) (hk : Kp F w w') (hn : ∀ k, ok k → ¬ F k) : RowAt w' ok sz v n cs :=
 ⟨h.1, h.2.imp id fun ⟨g, o, cap, e, h1, h2, h3, h4, h5, h6⟩ => ⟨g, o, cap, e, h1, Nat.lt_of_lt_of_le h2 hk.size, h3, h4, hk.range h5 (hn g h1), hk.there h6 h2 (hn g h1)⟩⟩
theorem RowAt.below (h : RowAt w ok sz v n cs) (hb : Below w.heap.size w w') : RowAt w' ok sz v n cs := h.kept (F := fun _ => False) (.ofBelow hb) (fun _ _ x => x)
theorem RdRow.below (h : RdRow w v n cs) (hb : Below w.heap.size w w') : RdRow w' v n cs := by
 obtain ⟨A, c, e, h1⟩ := h
 refine ⟨A, c, e, fun hp => ?_⟩
 obtain ⟨g, o, e2, h2⟩ := h1 hp
 exact ⟨g, o, e2, (Kp.ofBelow (F := fun _ => False) hb).range h2 (fun x => x)⟩
theorem RowAt.ofOwns {base : Nat} {e : TypeId} (h : w.ownsRow base e sz v n cs) (hok : ∀ k, base ≤ k → k < w.heap.size → ok k) : RowAt w ok sz v n cs := by
 refine ⟨h.1, h.2.imp id ?_⟩
 rintro ⟨g, cap, cur, rfl, hb, hg, h1, h2, h3, h4⟩
 have hlt : g < w.heap.size := (Array.getElem?_eq_some_iff.1 hg).1
 refine ⟨g, 0, cap, rfl, hok g hb hlt, hlt, h1, h2, ?_, ?_⟩
 ·intro j u hu
  rw [Nat.zero_add, cell_of_row w g j cur e (0, 0) hg]
  rw [← h4, List.getElem?_take] at hu
  split at hu
  ·simpa using hu
  ·cases hu
 ·intro j hj
  rw [Nat.zero_add]
  refine ⟨?_, by simp [World.frozen?, hg]⟩
  rw [cell_of_row w g j cur e (0, 0) hg, Array.getElem?_eq_getElem (by omega)]
  rfl
/-- The front is cut away. -/
theorem RowAt.cut {g o cap k : Nat} (h : RowAt w ok sz (.slice (some ⟨g, o, none⟩) n cap) n cs) (hk : k ≤ n) : RowAt w ok sz (.slice (some ⟨g, o + k * sz, none⟩) (n - k) (cap - k)) (n - k) (cs.drop (k * sz)) := by
 obtain ⟨hl, h⟩ := h
 rcases h with ⟨e, _⟩ | ⟨g', o', cap', e, h1, h2, h3, h4, h5, h6⟩
 ·cases e
 ·injection e with e1 e2 e3
  injection e1 with e1
  injection e1 with e4 e5
  subst e3 e4 e5
  refine ⟨by rw [List.length_drop, hl, Nat.sub_mul], .inr ⟨g, _, _, rfl, h1, h2, by omega, by omega, ?_, ?_⟩⟩
  ·intro j u hu
   rw [List.getElem?_drop] at hu
   have := h5 _ _ hu
   rwa [← Nat.add_assoc] at this
  ·intro j hj
   have := h6 (k * sz + j) (by rw [Nat.sub_mul] at hj; omega)
   rwa [← Nat.add_assoc] at this
/-- The end is cut away. -/
theorem RowAt.short {g o cap k : Nat} (h : RowAt w ok sz (.slice (some ⟨g, o, none⟩) n cap) n cs) (hk : k ≤ n) : RowAt w ok sz (.slice (some ⟨g, o, none⟩) k cap) k (cs.take (k * sz)) := by
 obtain ⟨hl, h⟩ := h
 rcases h with ⟨e, _⟩ | ⟨g', o', cap', e, h1, h2, h3, h4, h5, h6⟩
 ·cases e
 ·injection e with e1 e2 e3
  injection e1 with e1
  injection e1 with e4 e5
  subst e3 e4 e5
  refine ⟨by rw [List.length_take, hl]; exact Nat.min_eq_left (Nat.mul_le_mul_right _ hk), .inr ⟨g, _, _, rfl, h1, h2, by omega, by omega, ?_, h6⟩⟩
  intro j u hu
  rw [List.getElem?_take] at hu
  split at hu
  ·exact h5 _ _ hu
  ·cases hu
/-- Cells of a row are written: from element's cell k on. -/
theorem RowAt.put {g o cap k : Nat} (h : RowAt w ok sz (.slice (some ⟨g, o, none⟩) n cap) n cs) (news : List Value) (hk : k + news.length ≤ cs.length) :
  RowAt (w.setCells g (o + k) news) ok sz (.slice (some ⟨g, o, none⟩) n cap) n (cs.take k ++ news ++ cs.drop (k + news.length)) := by
 obtain ⟨hl, h⟩ := h
 rcases h with ⟨e, _⟩ | ⟨g', o', cap', e, h1, h2, h3, h4, h5, h6⟩
 ·cases e
 ·injection e with e1 e2 e3
  injection e1 with e1
  injection e1 with e4 e5
  subst e3 e4 e5
  have hcap : n * sz ≤ cap * sz := Nat.mul_le_mul_right _ h3
  have hin := World.cell?_setCells_in g news (o + k) w (fun j hj => by have := (h6 (k + j) (by omega)).1; rwa [← Nat.add_assoc] at this)
  refine ⟨by simp; omega, .inr ⟨g, o, cap, rfl, h1, by rw [size_setCells]; exact h2, h3, h4, ?_, ?_⟩⟩
  ·intro j u hu
   by_cases a1 : j < k
   ·rw [List.append_assoc, List.getElem?_append_left (by simp; omega), List.getElem?_take, if_pos a1] at hu
    rw [World.cell?_setCells_out g news (o + k) w _ (fun _ _ => by simp; omega)]
    exact h5 j u hu
   ·by_cases a2 : j < k + news.length
    ·rw [List.append_assoc, List.getElem?_append_right (by simp; omega), List.getElem?_append_left (by simp; omega)] at hu
     have hjl : j - (cs.take k).length = j - k := by simp; omega
     rw [hjl] at hu
     have := hin (j - k) (by omega)
     rw [show o + j = o + k + (j - k) by omega, this, ← hu, List.getElem?_eq_getElem (by omega)]
    ·rw [List.getElem?_append_right (by simp; omega), List.getElem?_drop] at hu
     rw [World.cell?_setCells_out g news (o + k) w _ (fun _ _ => by simp; omega)]
     refine h5 j u ?_
     rw [← hu]
     congr 1
     simp
     omega
  ·intro j hj
   refine ⟨?_, by rw [World.frozen?_setCells]; exact (h6 j hj).2⟩
   by_cases a1 : k ≤ j ∧ j < k + news.length
   ·have := hin (j - k) (by omega)
    rw [show o + j = o + k + (j - k) by omega, this]
    rfl
   ·rw [World.cell?_setCells_out g news (o + k) w _ (fun _ _ => by simp; omega)]
    exact (h6 j hj).1
end
/-- The blocks of F, and what is new. -/
def Gr (F : Nat → Prop) (w w' : World) : Nat → Prop := fun k => F k ∨ (w.heap.size ≤ k ∧ k < w'.heap.size)
theorem Gr.lt {F : Nat → Prop} {w w' : World} (h : ∀ k, F k → k < w.heap.size) (hs : w.heap.size ≤ w'.heap.size) : ∀ k, Gr F w w' k → k < w'.heap.size := fun k hk => hk.elim (fun x => Nat.lt_of_lt_of_le (h k x) hs) (fun x => x.2)
theorem Gr.not {F : Nat → Prop} {w w' : World} {p : Nat} (h : ¬ F p) (hs : p < w.heap.size) : ¬ Gr F w w' p := fun hk => hk.elim h (fun x => by have := x.1; omega)
theorem Gr.old {F : Nat → Prop} {w w' : World} {k : Nat} (h : Gr F w w' k) (hs : k < w.heap.size) : F k := h.elim id (fun x => by have := x.1; omega)
theorem Kp.transGr {F : Nat → Prop} {a w w2 : World} (h : Kp F a w) (k : Kp (Gr F a w) w w2) : Kp F a w2 := h.trans k (fun i x => x.imp id (fun y => y.1))
/-- New elements are laid behind a row's, in its own room. -/
theorem RowAt.spare {ok : Nat → Prop} {w : World} {size g of cap n m : Nat} {cs : List Value} (h : RowAt w ok size (.slice (some ⟨g, of, none⟩) n cap) n cs) (hle : n + m ≤ cap) :
  ∀ j, j < m * size → (w.cell? ⟨g, of + n * size + j, none⟩).isSome = true ∧ w.frozen? ⟨g, of + n * size + j, none⟩ = false := by
 rcases h.2 with ⟨e, _⟩ | ⟨g', o', cap', e, h1, h2, h3, h4, h5, h6⟩
 ·cases e
 ·injection e with e1 e2 e3
  injection e1 with e1
  injection e1 with e4 e5
  subst e3 e4 e5
  intro j hj
  rw [Nat.add_assoc]
  refine h6 _ ?_
  have := Nat.mul_le_mul_right size hle
  rw [Nat.add_mul] at this
  omega
theorem RowAt.grow {ok : Nat → Prop} {w : World} {size g of cap n m : Nat} {cs news : List Value} (h : RowAt w ok size (.slice (some ⟨g, of, none⟩) n cap) n cs) (hle : n + m ≤ cap) (hn : news.length = m * size) :
  RowAt (w.setCells g (of + n * size) news) ok size (.slice (some ⟨g, of, none⟩) (n + m) cap) (n + m) (cs ++ news) := by
 have hspare := h.spare hle
 obtain ⟨hl, h⟩ := h
 rcases h with ⟨e, _⟩ | ⟨g', o', cap', e, r1, r2, r3, r4, r5, r6⟩
 ·cases e
 ·injection e with e1 e2 e3
  injection e1 with e1
  injection e1 with e4 e5
  subst e3 e4 e5
  refine ⟨by rw [List.length_append, hl, hn, Nat.add_mul], .inr ⟨g, of, cap, rfl, r1, by rw [size_setCells]; exact r2, hle, r4, ?_, ?_⟩⟩
  all_goals
   have hle2 := Nat.mul_le_mul_right size hle
   rw [Nat.add_mul] at hle2
   have hin := World.cell?_setCells_in g news (of + n * size) w (fun j hj => (hspare j (by omega)).1)
  ·intro j u hu
   by_cases a1 : j < n * size
   ·rw [List.getElem?_append_left (by omega)] at hu
    rw [World.cell?_setCells_out g news (of + n * size) w _ (fun _ _ => by simp; omega)]
    exact r5 j u hu
   ·rw [List.getElem?_append_right (by omega), hl] at hu
    have hlt := (List.getElem?_eq_some_iff.1 hu).1
    have := hin (j - n * size) hlt
    rw [show of + j = of + n * size + (j - n * size) by omega, this, ← hu, List.getElem?_eq_getElem hlt]
  ·intro j hj
   refine ⟨?_, by rw [World.frozen?_setCells]; exact (r6 j hj).2⟩
   by_cases a1 : n * size ≤ j ∧ j < n * size + news.length
   ·have := hin (j - n * size) (by omega)
    rw [show of + j = of + n * size + (j - n * size) by omega, this]
    rfl
   ·rw [World.cell?_setCells_out g news (of + n * size) w _ (fun _ _ => by simp; omega)]
    exact (r6 j hj).1
/-- append onto a row. -/
theorem run_append_row {P : Program} {w : World} (t ty : TypeId) (e : TypeId) (i : TypeInfo) (z : Value) (size bytes : Nat) (h1 : P.underlying t = some (.slice e)) (h2 : P.info? e = some i) (h3 : i.zero = some z) (h4 : i.size = size) (h5 : i.bytes = bytes) (h6 : z.cells.size = size) (h7 : 0 < size)
  (ok : Nat → Prop) (v : Value) (n : Nat) (cs : List Value) (hrow : RowAt w ok size v n cs)
  (ad : Addr) (m c : Nat) (news : List Value) (hm : 0 ≤ m) (hn : news.length = m * size) (hc : ∀ j u, news[j]? = some u → w.cell? (ad.add j) = some u) (h1c : ∀ u ∈ news, u.oneCell' = true)
  (b1 : n + m ≤ maxLen) (b2 : (n + m) * bytes ≤ 140737488355328) :
  ∃ A' c' w', (Builtin.append_ #[t, t] ty #[v, .slice (some ad) m c]).run P w = .ok (.slice A' (n + m) c') w' ∧ RowAt w' (fun k => ok k ∨ w.heap.size ≤ k) size (.slice A' (n + m) c') (n + m) (cs ++ news) ∧ Kp ok w w' := by
 have fin : ∀ v' w', (Builtin.append_ #[t, t] ty #[v, .slice (some ad) m c]).run P w = .ok v' w' → RowAt w' (fun k => ok k ∨ w.heap.size ≤ k) size v' (n + m) (cs ++ news) → Kp ok w w' → ∃ A' c' w', (Builtin.append_ #[t, t] ty #[v, .slice (some ad) m c]).run P w = .ok (.slice A' (n + m) c') w' ∧ RowAt w' (fun k => ok k ∨ w.heap.size ≤ k) size (.slice A' (n + m) c') (n + m) (cs ++ news) ∧ Kp ok w w' := fun v' w' hr hrow hk => by
  obtain ⟨A', c', rfl⟩ := hrow.form
  exact ⟨A', c', w', hr, hrow, hk⟩
 obtain ⟨hl, hrow⟩ := hrow
 rcases hrow with ⟨rfl, rfl⟩ | ⟨g, of, cap, rfl, r1, r2, r3, r4, r5, r6⟩
 ·obtain rfl : cs = [] := List.eq_nil_of_length_eq_zero (by simpa using hl)
  obtain ⟨v', w', hr, ho, hgr, _⟩ := run_append_own (P := P) w w.heap.size t ty e i z size bytes h1 h2 h3 h4 h5 h6 h7 (.slice none 0 0) 0 [] (World.ownsRow_nil w _ e size) ad m c news hn hc h1c b1 b2 (Nat.le_refl _)
  exact fin v' w' hr (.ofOwns ho (fun k hk _ => .inr hk)) ((Kp.refl ok w).grown hgr (fun _ h => by cases h))
 ·by_cases hle : n + m ≤ cap
  ·subst h4
   have hspare : ∀ j, j < news.length → (w.cell? ⟨g, of + n * i.size + j, none⟩).isSome = true ∧ w.frozen? ⟨g, of + n * i.size + j, none⟩ = false := by
    intro j hj
    rw [Nat.add_assoc]
    refine r6 _ ?_
    rw [hn] at hj
    have := Nat.mul_le_mul_right i.size hle
    rw [Nat.add_mul] at this
    omega
   have hr := run_append_room_cells (P := P) w t ty e i h1 h2 g of n cap ad m c news hn hc h1c hle (fun j hj => (hspare j hj).1) (fun j hj => (hspare j hj).2)
   have hrow0 : RowAt w ok i.size (.slice (some ⟨g, of, none⟩) n cap) n cs := ⟨hl, .inr ⟨g, of, cap, rfl, r1, r2, r3, r4, r5, r6⟩⟩
   exact fin _ _ hr ((hrow0.grow hle hn).mono (fun _ _ h => .inl h)) ((Kp.refl ok w).setCells (.inl r1) _ _)
  ·obtain ⟨v', w', hr, ho, hgr⟩ := run_append_arg_grows (P := P) w t ty e i z size bytes h1 h2 h3 h4 h5 h6 h7 ⟨g, of, none⟩ n cap cs hl (fun j u hj => by rw [Addr.add_lit]; exact r5 j u hj) ad m c news hn hc (by omega) b1 b2
   exact fin v' w' hr (.ofOwns ho (fun k hk _ => .inr hk)) ((Kp.refl ok w).grown hgr (fun _ h => by cases h))
theorem wp_append_row {P : Program} {w : World} {o : Oper} {a : Act} {K : Act → World → Prop} {Q : Exit → Act → World → Prop} (s x : Operand) (t : TypeId) (hop : o.op = Op.call { callee := Callee.builtin Builtin.append, args := #[s, x], argTypes := #[t, t] })
  (e : TypeId) (i : TypeInfo) (z : Value) (size bytes : Nat) (h1 : P.underlying t = some (.slice e)) (h2 : P.info? e = some i) (h3 : i.zero = some z) (h4 : i.size = size) (h5 : i.bytes = bytes) (h6 : z.cells.size = size) (h7 : 0 < size)
  (ok : Nat → Prop) (v : Value) (n : Nat) (cs : List Value) (hs : a.eval s = v) (hrow : RowAt w ok size v n cs)
  (ad : Addr) (m c : Nat) (news : List Value) (hx : a.eval x = .slice (some ad) m c) (hm : 0 ≤ m) (hn : news.length = m * size) (hc : ∀ j u, news[j]? = some u → w.cell? (ad.add j) = some u) (h1c : ∀ u ∈ news, u.oneCell' = true)
  (b1 : n + m ≤ maxLen) (b2 : (n + m) * bytes ≤ 140737488355328)
  (hK : ∀ A' c' w', RowAt w' (fun k => ok k ∨ w.heap.size ≤ k) size (.slice A' (n + m) c') (n + m) (cs ++ news) → Kp ok w w' → K (a.put o.dst (.slice A' (n + m) c')) w') : o.wp P a w K Q := by
 obtain ⟨A', c', w', hr, k1, k2⟩ := run_append_row (P := P) t o.type e i z size bytes h1 h2 h3 h4 h5 h6 h7 ok v n cs hrow ad m c news hm hn hc h1c b1 b2
 unfold Oper.wp execOp
 simp only [hop, resolve, invoke, builtin, Sem.run_bind, Sem.run_pure, Result.andThen_ok, List.map_toArray, List.map_cons, List.map_nil, hs, hx, hr]
 exact hK A' c' w' k1 k2
theorem wpList_append_row {P : Program} {w : World} {ops : Array Oper} {rest : List Oper} {o : Oper} {a : Act} {Q : Exit → Act → World → Prop}
  (hg : o.guard = none) (s x : Operand) (t : TypeId) (hop : o.op = Op.call { callee := Callee.builtin Builtin.append, args := #[s, x], argTypes := #[t, t] })
  (e : TypeId) (i : TypeInfo) (z : Value) (size bytes : Nat) (h1 : P.underlying t = some (.slice e)) (h2 : P.info? e = some i) (h3 : i.zero = some z) (h4 : i.size = size) (h5 : i.bytes = bytes) (h6 : z.cells.size = size) (h7 : 0 < size)
  (ok : Nat → Prop) (v : Value) (n : Nat) (cs : List Value) (hs : a.eval s = v) (hrow : RowAt w ok size v n cs)
  (ad : Addr) (m c : Nat) (news : List Value) (hx : a.eval x = .slice (some ad) m c) (hm : 0 ≤ m) (hn : news.length = m * size) (hc : ∀ j u, news[j]? = some u → w.cell? (ad.add j) = some u) (h1c : ∀ u ∈ news, u.oneCell' = true)
  (b1 : n + m ≤ maxLen) (b2 : (n + m) * bytes ≤ 140737488355328)
  (hK : ∀ A' c' w', RowAt w' (fun k => ok k ∨ w.heap.size ≤ k) size (.slice A' (n + m) c') (n + m) (cs ++ news) → Kp ok w w' → wpList P ops Q rest (a.put o.dst (.slice A' (n + m) c')) w') :
  wpList P ops Q (o :: rest) a w :=
 wpList_plain hg fun _ hK' => wp_append_row s x t hop e i z size bytes h1 h2 h3 h4 h5 h6 h7 ok v n cs hs hrow ad m c news hx hm hn hc h1c b1 b2 fun A' c' w' k1 k2 => hK' _ _ (hK A' c' w' k1 k2)
theorem step_append_row {P : Program} {w : World} {ops : Array Oper} {o : Oper} {a : Act} {K : Act → World → Prop} {Q : Exit → Act → World → Prop} {E : Prop} (hg : o.guard = none) (s x : Operand) (t : TypeId) (hop : o.op = Op.call { callee := Callee.builtin Builtin.append, args := #[s, x], argTypes := #[t, t] })
  (e : TypeId) (i : TypeInfo) (z : Value) (size bytes : Nat) (h1 : P.underlying t = some (.slice e)) (h2 : P.info? e = some i) (h3 : i.zero = some z) (h4 : i.size = size) (h5 : i.bytes = bytes) (h6 : z.cells.size = size) (h7 : 0 < size)
  (ok : Nat → Prop) (v : Value) (n : Nat) (cs : List Value) (hs : a.eval s = v) (hrow : RowAt w ok size v n cs)
  (ad : Addr) (m c : Nat) (news : List Value) (hx : a.eval x = .slice (some ad) m c) (hm : 0 ≤ m) (hn : news.length = m * size) (hc : ∀ j u, news[j]? = some u → w.cell? (ad.add j) = some u) (h1c : ∀ u ∈ news, u.oneCell' = true)
  (b1 : n + m ≤ maxLen) (b2 : (n + m) * bytes ≤ 140737488355328)
  (hK : ∀ A' c' w', RowAt w' (fun k => ok k ∨ w.heap.size ≤ k) size (.slice A' (n + m) c') (n + m) (cs ++ news) → Kp ok w w' → K (a.put o.dst (.slice A' (n + m) c')) w') :
  if Region.wanted o (yielded ops a.tmps) = true then Oper.wp P o a w K Q else E := by
 have hw : Region.wanted o (yielded ops a.tmps) = true := by simp [Region.wanted, hg]
 rw [if_pos hw]
 exact wp_append_row s x t hop e i z size bytes h1 h2 h3 h4 h5 h6 h7 ok v n cs hs hrow ad m c news hx hm hn hc h1c b1 b2 hK
/-- append, where there is room. -/
theorem run_append_room_row {P : Program} {w : World} (t ty : TypeId) (e : TypeId) (i : TypeInfo) (size : Nat) (h1 : P.underlying t = some (.slice e)) (h2 : P.info? e = some i) (h4 : i.size = size)
  (ok : Nat → Prop) (g of cap n : Nat) (cs : List Value) (hrow : RowAt w ok size (.slice (some ⟨g, of, none⟩) n cap) n cs)
  (ad : Addr) (m c : Nat) (news : List Value) (hn : news.length = m * size) (hc : ∀ j u, news[j]? = some u → w.cell? (ad.add j) = some u) (h1c : ∀ u ∈ news, u.oneCell' = true) (hle : n + m ≤ cap) :
  (Builtin.append_ #[t, t] ty #[.slice (some ⟨g, of, none⟩) n cap, .slice (some ad) m c]).run P w = .ok (.slice (some ⟨g, of, none⟩) (n + m) cap) (w.setCells g (of + n * size) news) := by
 subst h4
 have hsp := hrow.spare hle
 exact run_append_room_cells (P := P) w t ty e i h1 h2 g of n cap ad m c news hn hc h1c hle (fun j hj => (hsp j (by omega)).1) (fun j hj => (hsp j (by omega)).2)
theorem step_append_room_row {P : Program} {w : World} {ops : Array Oper} {o : Oper} {a : Act} {K : Act → World → Prop} {Q : Exit → Act → World → Prop} {E : Prop} (hg : o.guard = none) (s x : Operand) (t : TypeId) (hop : o.op = Op.call { callee := Callee.builtin Builtin.append, args := #[s, x], argTypes := #[t, t] })
  (e : TypeId) (i : TypeInfo) (size : Nat) (h1 : P.underlying t = some (.slice e)) (h2 : P.info? e = some i) (h4 : i.size = size)
  (ok : Nat → Prop) (g of cap n : Nat) (cs : List Value) (hs : a.eval s = .slice (some ⟨g, of, none⟩) n cap) (hrow : RowAt w ok size (.slice (some ⟨g, of, none⟩) n cap) n cs)
  (ad : Addr) (m c : Nat) (news : List Value) (hx : a.eval x = .slice (some ad) m c) (hn : news.length = m * size) (hc : ∀ j u, news[j]? = some u → w.cell? (ad.add j) = some u) (h1c : ∀ u ∈ news, u.oneCell' = true) (hle : n + m ≤ cap)
  (hK : ∀ w', w' = w.setCells g (of + n * size) news → RowAt w' ok size (.slice (some ⟨g, of, none⟩) (n + m) cap) (n + m) (cs ++ news) → K (a.put o.dst (.slice (some ⟨g, of, none⟩) (n + m) cap)) w') :
  if Region.wanted o (yielded ops a.tmps) = true then Oper.wp P o a w K Q else E := by
 have hw : Region.wanted o (yielded ops a.tmps) = true := by simp [Region.wanted, hg]
 rw [if_pos hw]
 have hr := run_append_room_row (P := P) t o.type e i size h1 h2 h4 ok g of cap n cs hrow ad m c news hn hc h1c hle
 unfold Oper.wp execOp
 simp only [hop, resolve, invoke, builtin, Sem.run_bind, Sem.run_pure, Result.andThen_ok, List.map_toArray, List.map_cons, List.map_nil, hs, hx, hr]
 exact hK _ rfl (hrow.grow hle hn)
/-- clear of a row's end. -/
theorem wpList_clear_row {P : Program} {w : World} {ops : Array Oper} {rest : List Oper} {o : Oper} {a : Act} {Q : Exit → Act → World → Prop} (hg : o.guard = none) (x : Operand) (t : TypeId) (hop : o.op = Op.call { callee := Callee.builtin Builtin.clear, args := #[x], argTypes := #[t] })
  (e : TypeId) (z : Value) (size : Nat) (h1 : P.underlying t = some (.slice e)) (hv : ∀ w, (zeroValue e).run P w = .ok z w) (hzs : z.cells.size = size) (hz1 : ∀ u ∈ z.cells.toList, u.oneCell' = true)
  (ok : Nat → Prop) (g of cap n k m c : Nat) (cs : List Value) (hrow : RowAt w ok size (.slice (some ⟨g, of, none⟩) n cap) n cs) (hx : a.eval x = .slice (some ⟨g, of + n * size, none⟩) m c) (hm : 0 < m) (hle : n + m ≤ cap)
  (hK : ∀ w', RowAt w' ok size (.slice (some ⟨g, of, none⟩) n cap) n cs → Kp ok w w' → wpList P ops Q rest (a.put o.dst (.tuple #[])) w') : wpList P ops Q (o :: rest) a w := by
 have hsp := hrow.spare hle
 have hlen : (Builtin.zeroCells z.cells m).toList.length = m * size := by simp [Builtin.zeroCells, hzs]
 have h1c : ∀ u ∈ (Builtin.zeroCells z.cells m).toList, u.oneCell' = true := by
  intro u hu
  simp only [Builtin.zeroCells, Array.toList_map, List.mem_map, Array.mem_toList_iff, Array.mem_range] at hu
  obtain ⟨i, hi, rfl⟩ := hu
  have hp : 0 < z.cells.size := by
   rcases Nat.eq_zero_or_pos z.cells.size with h | h
   ·rw [h] at hi; omega
   ·exact h
  rw [getElem!_pos z.cells _ (Nat.mod_lt _ hp)]
  exact hz1 _ (by simp)
 have hst := run_storeCells_cells (P := P) g (of + n * size) (Builtin.zeroCells z.cells m).toList 0 w (by intro j hj; simpa using (hsp j (by omega)).1) (by intro j hj; simpa using (hsp j (by omega)).2) h1c
 simp only [Nat.add_zero] at hst
 refine wpList_plain hg fun K hK' => ?_
 obtain ⟨m', rfl⟩ : ∃ m', m = m' + 1 := ⟨m - 1, by omega⟩
 unfold Oper.wp
 simp [execOp, hop, resolve, invoke, builtin, hx, Builtin.clear_, run_underlying h1, hv, hst, Result.andThen]
 refine hK' _ _ (hK _ ?_ ?_)
 ·have h9 := (hrow.grow hle hlen).short (k := n) (by omega)
  rw [List.take_left' hrow.1] at h9
  exact h9
 ·rcases hrow.2 with ⟨e, _⟩ | ⟨g', o', cap', e, r1, _⟩
  ·cases e
  ·injection e with e1 e2 e3
   injection e1 with e1
   injection e1 with e4 e5
   subst e4
   exact (Kp.refl ok w).setCells (.inl r1) _ _
end Go.Proofs.YtbapgngngaaojaaGreat
namespace Go.Proofs.YtbapgngngaaojaaGreat
open Go.RowKit Go.Lib Go.Maps
/-- A page's sheet, as an element of the map: the number of its block. -/
def sheetElem : Value → Option (DataW Unit × List MemPlace)
 | .pointer (some ⟨b, 0, none⟩) => some (.lit (.int .u64 b), [])
 | .pointer none => some (.nil, [])
 | _ => none
theorem sheetElem_mk (b : Nat) : sheetElem (.pointer (some ⟨b, 0, none⟩)) = some (.lit (.int .u64 b), []) := rfl
theorem sheetElem_inv {v : Value} {b : Nat} {ps : List MemPlace} (h : sheetElem v = some (.lit (.int .u64 b), ps)) : v = .pointer (some ⟨b, 0, none⟩) := by
 unfold sheetElem at h
 split at h
 ·simp only [Option.some.injEq, Prod.mk.injEq, DataW.lit.injEq, Lit.int.injEq, true_and] at h
  have := h.1
  rename_i b'
  obtain rfl : b' = b := by omega
  rfl
 ·simp at h
 ·cases h
theorem keyed64 : Keyed Tryz.prog 23 := int_keyed Tryz.underlying23
def lk (q : Nat) : Lit := .int .u64 q
theorem lk_inj {a b : Nat} (h : lk a = lk b) : a = b := by injection h with _ h; omega
/-- Block mb is a map from pages to sheets: f. -/
def MapIs (w : World) (mb lim : Nat) (f : Nat → Option Nat) : Prop :=
 ∃ N D, w.ownsMap Tryz.prog 23 sheetElem mb N D ∧ (∀ q, (f q).isSome = has D (lk q)) ∧ (∀ q b, f q = some b → ∀ zd, D.atKey (lk q) zd = .lit (.int .u64 b)) ∧ (∀ kl, has D kl = true → ∃ q, q < lim ∧ kl = lk q)
theorem nodup_le : ∀ (n : Nat) (l : List Nat), l.Nodup → (∀ x ∈ l, x < n) → l.length ≤ n := by
 intro n
 induction n with
 | zero => intro l _ h; cases l with
  | nil => simp
  | cons a r => have := h a (by simp); omega
 | succ n ih =>
  intro l hn h
  by_cases hm : n ∈ l
  ·have h1 := ih (l.erase n) (hn.erase n) (fun x hx => by
    have h2 := h x (List.mem_of_mem_erase hx)
    have h3 : x ≠ n := fun e => by subst e; exact (hn.not_mem_erase hx)
    omega)
   rw [List.length_erase_of_mem hm] at h1
   omega
  ·have := ih l hn (fun x hx => by
    have h2 := h x hx
    have h3 : x ≠ n := fun e => by subst e; exact hm hx
    omega)
   omega
theorem MapIs.small {w : World} {mb lim : Nat} {f : Nat → Option Nat} (h : MapIs w mb lim f) : ∃ N D, N ≤ lim ∧ w.ownsMap Tryz.prog 23 sheetElem mb N D ∧ (∀ q, (f q).isSome = has D (lk q)) ∧ (∀ q b, f q = some b → ∀ zd, D.atKey (lk q) zd = .lit (.int .u64 b)) ∧ (∀ kl, has D kl = true → ∃ q, q < lim ∧ kl = lk q) := by
 obtain ⟨N, D, hown, h1, h2, h3⟩ := h
 obtain ⟨es, hD, hp, hk⟩ := hown.entries keyed64
 refine ⟨Maps.size D, D, ?_, ?_, h1, h2, h3⟩
 ·subst hD
  show es.length ≤ lim
  let g : Lit × DataW Unit → Nat := fun p => match p.1 with | .int _ a => a.toNat | _ => 0
  have hmem : ∀ p ∈ es, ∃ q, q < lim ∧ p.1 = lk q := fun p hpm => h3 p.1 (by
   rw [has_eq, List.any_eq_true]
   exact ⟨p, hpm, WideAt.sameKey_self (hk p hpm)⟩)
  have hg : ∀ p ∈ es, g p < lim ∧ p.1 = lk (g p) := fun p hpm => by
   obtain ⟨q, hq, e⟩ := hmem p hpm
   have : g p = q := by simp [g, e, lk]
   rw [this]; exact ⟨hq, e⟩
  have := nodup_le lim (es.map g) (by
   rw [List.Nodup, List.pairwise_map]
   refine List.Pairwise.imp_of_mem ?_ hp
   intro a b ha hb hne he
   exact hne (by rw [(hg a ha).2, (hg b hb).2, he])) (by
   intro x hx
   obtain ⟨p, hpm, rfl⟩ := List.mem_map.1 hx
   exact (hg p hpm).1)
  simpa using this
 ·obtain ⟨es', clock, hb, F, hs, hD'⟩ := hown
  refine ⟨es', clock, hb, F, ?_, hD'⟩
  rw [hD']
  simp [Maps.size, length_sorted]
theorem MapIs.lt {w : World} {mb lim : Nat} {f : Nat → Option Nat} (h : MapIs w mb lim f) : mb < w.heap.size := by obtain ⟨N, D, hown, _⟩ := h; exact hown.lt
theorem MapIs.kept {F : Nat → Prop} {w w' : World} {mb lim : Nat} {f : Nat → Option Nat} (h : MapIs w mb lim f) (hk : Kp F w w') (hn : ¬ F mb) : MapIs w' mb lim f := by
 have hlt := h.lt
 obtain ⟨N, D, ⟨es, clock, hb, r⟩, h1⟩ := h
 exact ⟨N, D, ⟨es, clock, (hk.block mb hlt hn).trans hb, r⟩, h1⟩
theorem MapIs.setCell {w : World} {mb lim : Nat} {f : Nat → Option Nat} (h : MapIs w mb lim f) {a : Addr} (ha : mb ≠ a.block) (u : Value) : MapIs (w.setCell a u) mb lim f := by
 obtain ⟨N, D, hown, h1⟩ := h
 exact ⟨N, D, hown.setCell ha u, h1⟩
theorem MapIs.new (w : World) (lim : Nat) : MapIs (w.alloc (.map #[] 0)) w.heap.size lim (fun _ => none) :=
 ⟨0, .map [], World.ownsMap_made _ _ _ _, (fun q => rfl), (by intro q b h; simp at h), (by intro kl h; simp [has] at h)⟩
/-- What the sheets of a memory hold. -/
structure Sheets (w : World) (ok : Nat → Prop) (f : Nat → Option Nat) (rd : Nat → Nat) : Prop where
 mine : ∀ q b, f q = some b → ok b ∧ b < w.heap.size
 cell : ∀ q b, f q = some b → ∀ i, i < 512 → w.cell? ⟨b, i, none⟩ = some (.int .u64 (rd (q * 4096 + 8 * i)))
 free : ∀ q b, f q = some b → ∀ i, i < 512 → w.frozen? ⟨b, i, none⟩ = false
 apart : ∀ q q' b, f q = some b → f q' = some b → q = q'
 zero : ∀ q, f q = none → ∀ i, i < 512 → rd (q * 4096 + 8 * i) = 0
/-- A memory of sz bytes at block p, in blocks of ok: its words are rd. -/
def MemAt (w : World) (ok : Nat → Prop) (p sz : Nat) (rd : Nat → Nat) : Prop :=
 ∃ mb f, w.cell? ⟨p, 0, none⟩ = some (.int .u64 sz) ∧ w.cell? ⟨p, 1, none⟩ = some (.map (some mb)) ∧ ok p ∧ ok mb ∧ MapIs w mb (sz / 4096) f ∧ Sheets w ok f rd ∧ (∀ a, rd a < 18446744073709551616)
section
variable {F ok ok2 : Nat → Prop} {w w' : World} {p sz : Nat} {f : Nat → Option Nat} {rd : Nat → Nat}
theorem Sheets.kept' (h : Sheets w ok f rd) (hk : Kp F w w') (hn : ∀ q b, f q = some b → ¬ F b) : Sheets w' ok f rd :=
 ⟨fun q b e => ⟨(h.mine q b e).1, Nat.lt_of_lt_of_le (h.mine q b e).2 hk.size⟩, fun q b e i hi => hk.cell (h.cell q b e i hi) (hn q b e),
  fun q b e i hi => by rw [hk.frozen (h.mine q b e).2 (hn q b e)]; exact h.free q b e i hi, h.apart, h.zero⟩
theorem Sheets.kept (h : Sheets w ok f rd) (hk : Kp F w w') (hn : ∀ k, ok k → ¬ F k) : Sheets w' ok f rd := h.kept' hk (fun q b e => hn b (h.mine q b e).1)
theorem Sheets.neMap {mb lim : Nat} (h : Sheets w ok f rd) (hm : MapIs w mb lim f) : ∀ q b, f q = some b → ¬ b = mb := fun q b e e2 => by
 obtain ⟨N, D, ⟨es, clock, hb, _⟩, _⟩ := hm
 have := h.cell q b e 0 (by omega)
 rw [e2] at this
 simp [World.cell?, hb] at this
theorem Sheets.mono (h : Sheets w ok f rd) (hs : ∀ k, k < w.heap.size → ok k → ok2 k) : Sheets w ok2 f rd :=
 ⟨fun q b e => ⟨hs b (h.mine q b e).2 (h.mine q b e).1, (h.mine q b e).2⟩, h.cell, h.free, h.apart, h.zero⟩
theorem MemAt.kept (h : MemAt w ok p sz rd) (hk : Kp F w w') (hn : ∀ k, ok k → ¬ F k) : MemAt w' ok p sz rd := by
 obtain ⟨mb, f, h0, h1, h2, h3, h4, h5, h6⟩ := h
 exact ⟨mb, f, hk.cell h0 (hn p h2), hk.cell h1 (hn p h2), h2, h3, h4.kept hk (hn mb h3), h5.kept hk hn, h6⟩
theorem MemAt.mono (h : MemAt w ok p sz rd) (hs : ∀ k, k < w.heap.size → ok k → ok2 k) : MemAt w ok2 p sz rd := by
 obtain ⟨mb, f, h0, h1, h2, h3, h4, h5, h6⟩ := h
 exact ⟨mb, f, h0, h1, hs p (World.block_lt_of_cell? w _ h0) h2, hs mb h4.lt h3, h4, h5.mono hs, h6⟩
theorem MemAt.below (h : MemAt w ok p sz rd) (hb : Below w.heap.size w w') : MemAt w' ok p sz rd := h.kept (F := fun _ => False) (.ofBelow hb) (fun _ _ x => x)
theorem MemAt.cell0 (h : MemAt w ok p sz rd) : w.cell? ⟨p, 0, none⟩ = some (.int .u64 sz) := by obtain ⟨mb, f, h0, _⟩ := h; exact h0
theorem MemAt.own (h : MemAt w ok p sz rd) : ok p := by obtain ⟨mb, f, _, _, h2, _⟩ := h; exact h2
theorem MemAt.word (h : MemAt w ok p sz rd) (a : Nat) : rd a < 18446744073709551616 := by obtain ⟨mb, f, _, _, _, _, _, _, h6⟩ := h; exact h6 a
end
/-- A word is written. -/
def putM (rd : Nat → Nat) (at_ x : Nat) : Nat → Nat := fun a => if a = at_ then x else rd a
theorem place_at (at_ : Nat) (h8 : at_ % 8 = 0) : at_ / 4096 * 4096 + 8 * (at_ % 4096 / 8) = at_ := by omega
theorem place_ne {at_ q i : Nat} (h8 : at_ % 8 = 0) (hi : i < 512) (h : q ≠ at_ / 4096 ∨ i ≠ at_ % 4096 / 8) : q * 4096 + 8 * i ≠ at_ := by omega
/-- A word of a page that has a sheet is written. -/
theorem Sheets.put {ok : Nat → Prop} {w : World} {f : Nat → Option Nat} {rd : Nat → Nat} (h : Sheets w ok f rd) (at_ x b : Nat) (h8 : at_ % 8 = 0) (hf : f (at_ / 4096) = some b) :
  Sheets (w.setCell ⟨b, at_ % 4096 / 8, none⟩ (.int .u64 x)) ok f (putM rd at_ x) := by
 refine ⟨fun q b' e => ⟨(h.mine q b' e).1, by rw [World.size_setCell]; exact (h.mine q b' e).2⟩, ?_, fun q b' e i hi => by rw [World.frozen?_setCell]; exact h.free q b' e i hi, h.apart, ?_⟩
 ·intro q b' e i hi
  by_cases hc : q = at_ / 4096 ∧ i = at_ % 4096 / 8
  ·obtain ⟨rfl, rfl⟩ := hc
   obtain rfl : b = b' := by rw [hf] at e; exact Option.some.inj e
   rw [World.cell?_setCell_same _ _ _ (h.cell _ _ hf _ hi)]
   unfold putM
   rw [place_at at_ h8, if_pos rfl]
  ·have hne := place_ne (q := q) h8 hi (by omega)
   rw [World.cell?_setCell_other _ _ _ _ (fun e2 => by
    injection e2 with e3 e4 _
    subst e3
    exact hc ⟨h.apart _ _ _ e hf, e4.symm⟩), h.cell q b' e i hi]
   unfold putM
   rw [if_neg hne]
 ·intro q e i hi
  unfold putM
  rw [if_neg (place_ne h8 hi (.inl (fun e2 => by rw [e2, hf] at e; cases e)))]
  exact h.zero q e i hi
/-- A 0 is written into a page that has no sheet. -/
theorem Sheets.skip {ok : Nat → Prop} {w : World} {f : Nat → Option Nat} {rd : Nat → Nat} (h : Sheets w ok f rd) (at_ : Nat) (h8 : at_ % 8 = 0) (hf : f (at_ / 4096) = none) : Sheets w ok f (putM rd at_ 0) := by
 have hz := h.zero _ hf (at_ % 4096 / 8) (by omega)
 rw [place_at at_ h8] at hz
 have : putM rd at_ 0 = rd := by
  funext a
  unfold putM
  split
  ·rename_i e; rw [e, hz]
  ·rfl
 rw [this]
 exact h
/-- A new sheet. -/
theorem Sheets.add {ok F : Nat → Prop} {w w' : World} {f : Nat → Option Nat} {rd : Nat → Nat} (h : Sheets w ok f rd) (at_ x b : Nat) (h8 : at_ % 8 = 0) (hf : f (at_ / 4096) = none) (hk : Kp F w w') (hnF : ∀ q b, f q = some b → ¬ F b) (hbn : w.heap.size ≤ b) (hb : b < w'.heap.size)
  (hc : ∀ i, i < 512 → w'.cell? ⟨b, i, none⟩ = some (.int .u64 ((if i = at_ % 4096 / 8 then x else 0 : Nat) : Int)) ∧ w'.frozen? ⟨b, i, none⟩ = false) :
  Sheets w' (fun k => ok k ∨ w.heap.size ≤ k) (fun q => if q = at_ / 4096 then some b else f q) (putM rd at_ x) := by
 have hk2 := h.kept' hk hnF
 have hne : ∀ q b', f q = some b' → b' ≠ b := fun q b' e e2 => by have := (h.mine q b' e).2; omega
 refine ⟨?_, ?_, ?_, ?_, ?_⟩
 ·intro q b' e
  split at e
  ·cases e; exact ⟨.inr hbn, hb⟩
  ·exact ⟨.inl (hk2.mine q b' e).1, (hk2.mine q b' e).2⟩
 ·intro q b' e i hi
  split at e
  ·rename_i eq
   cases e
   rw [(hc i hi).1]
   unfold putM
   have hz := h.zero _ hf i hi
   subst eq
   by_cases hi2 : i = at_ % 4096 / 8
   ·rw [if_pos hi2, hi2, place_at at_ h8, if_pos rfl]
   ·rw [if_neg hi2, if_neg (place_ne h8 hi (.inr hi2)), hz]
  ·rename_i hq
   rw [hk2.cell q b' e i hi]
   unfold putM
   rw [if_neg (place_ne h8 hi (.inl hq))]
 ·intro q b' e i hi
  split at e
  ·cases e; exact (hc i hi).2
  ·exact hk2.free q b' e i hi
 ·intro q q' b' e e'
  split at e <;> split at e'
  ·omega
  ·cases e; exact absurd rfl (hne _ _ e')
  ·cases e'; exact absurd rfl (hne _ _ e)
  ·exact h.apart _ _ _ e e'
 ·intro q e i hi
  split at e
  ·cases e
  ·rename_i hq
   unfold putM
   rw [if_neg (place_ne h8 hi (.inl hq))]
   exact h.zero q e i hi
end Go.Proofs.YtbapgngngaaojaaGreat
