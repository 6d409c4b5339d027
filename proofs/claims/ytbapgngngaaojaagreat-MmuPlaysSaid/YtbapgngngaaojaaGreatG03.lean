/- Descriptors, in numbers. The walks of package desc. The walks of package desc: Right, word. The walks of package desc: word. The walks of package desc: Decode. The walks of package desc: Decode whole, Base, ReadBase. -/
import Derived.Test.YtbapgngngaaojaaGreatG01
import Derived.KernelRfl
import Derived.Test.YtbapgngngaaojaaGreatG02
set_option linter.unusedSimpArgs false
set_option linter.unusedVariables false
namespace Go.Proofs.YtbapgngngaaojaaGreat
structure Dd where
 kind : Nat
 out : Nat
 user : Bool
 write : Bool
 exec : Bool
 used : Bool
 attr : Nat
 deriving DecidableEq
def zeroD : Dd := ⟨0, 0, false, false, false, false, 0⟩
def dV (d : Dd) : Value := .agg #[.int .i64 d.kind, .int .u64 d.out, .bool d.user, .bool d.write, .bool d.exec, .bool d.used, .int .i64 d.attr]
def dCells (d : Dd) : List Value := [.int .i64 d.kind, .int .u64 d.out, .bool d.user, .bool d.write, .bool d.exec, .bool d.used, .int .i64 d.attr]
/-- How many of an address's bits an entry covers. -/
def bitsL (level : Nat) : Nat := if level = 0 then 39 else if level = 1 then 30 else if level = 2 then 21 else 12
def outW (x : Nat) : Nat := x / 4096 % 68719476736 * 4096
def tableD (x : Nat) : Dd := ⟨1, x, false, false, false, false, 0⟩
def leafD (x : Nat) : Dd := ⟨if x.testBit 1 then 3 else 2, outW x, x.testBit 6, !x.testBit 7, !x.testBit 54, x.testBit 10, x / 4 % 8⟩
/-- What a word may say at a level. -/
def saidD (level x : Nat) : Dd := if x.testBit 0 = false then zeroD else if x.testBit 1 = true ∧ level < 3 then tableD (outW x) else leafD x
def leafK (kind level : Nat) : Bool := (kind == 2 && (level == 1 || level == 2)) || (kind == 3 && level == 3)
def rightL (d : Dd) (level : Nat) : Bool := leafK d.kind level && decide (d.out < 281474976710656) && (d.out % 2 ^ bitsL level == 0) && decide (d.attr < 8)
def bn (b : Bool) (n : Nat) : Nat := if b then 2 ^ n else 0
/-- A leaf's word. -/
def wordD (d : Dd) : Nat := (andN (d.out ||| 9007199254743808 ||| 1 ||| bn (d.kind == 3) 1 ||| bn d.user 6 ||| bn (!d.write) 7 ||| bn d.used 10 ||| bn (!d.exec) 54) 28) ||| d.attr * 4
/-- What a word says at a level; none: it is reserved. -/
def decP (level x : Nat) : Option Dd :=
 if x.testBit 0 = false then some zeroD
 else if x.testBit 1 = true ∧ level < 3 then (if (outW x ||| 2) ||| 1 = x then some (tableD (outW x)) else none)
 else if rightL (leafD x) level = true ∧ wordD (leafD x) = x then some (leafD x) else none
theorem outW_lt (x : Nat) : outW x < 281474976710656 := by unfold outW; omega
theorem outW_al (x : Nat) : outW x % 4096 = 0 := by unfold outW; omega
theorem and_pow (x n : Nat) : x &&& 2 ^ n = bn (x.testBit n) n := by
 refine Nat.eq_of_testBit_eq fun i => ?_
 unfold bn
 rw [Nat.testBit_and, Nat.testBit_two_pow]
 by_cases h : n = i
 ·subst h; cases h2 : x.testBit n <;> simp
 ·cases h2 : x.testBit n <;> simp [h]
theorem bit_test (x n : Nat) (hx : x < 18446744073709551616) (hn : n < 64) : (bits .and .u64 (x : Int) ((2 ^ n : Nat) : Int) != 0) = x.testBit n := by
 rw [bits_and_u64_nat _ _ hx (pow_lt64 hn), and_pow]
 unfold bn
 have hp := Nat.two_pow_pos n
 generalize 2 ^ n = P at hp
 cases h : x.testBit n with
 | true =>
  show (((if true = true then P else 0 : Nat) : Int) != 0) = true
  rw [if_pos rfl, bne_iff_ne]
  omega
 | false => rfl
theorem bit_test0 (x n : Nat) (hx : x < 18446744073709551616) (hn : n < 64) : (bits .and .u64 (x : Int) ((2 ^ n : Nat) : Int) == 0) = !x.testBit n := by
 rw [← bit_test x n hx hn]; cases h : (bits .and .u64 (x : Int) ((2 ^ n : Nat) : Int) == 0) <;> simp_all
end Go.Proofs.YtbapgngngaaojaaGreat
namespace Go.Proofs.YtbapgngngaaojaaGreat
open Go.RowKit Go.Lib
set_option maxRecDepth 100000
theorem bit_nat (n : Nat) (b : Bool) (w : World) (hn : n < 64) :
  Calls Tryz.prog 146 #[.int .i64 n, .bool b] w fun e w' => e = .returned (.int .u64 (bn b n)) ∧ w' = w := by
 have hp := pow_lt64 hn
 cases b with
 | true =>
  have e1 : IntKind.u64.wrap (2 ^ n) = ((2 ^ n : Nat) : Int) := by
   rw [show ((2 : Int) ^ n) = ((2 ^ n : Nat) : Int) by simp, IntKind.wrap_u64]; generalize 2 ^ n = P at hp ⊢; omega
  go_enter Tryz.func146, Tryz.ntmps146
  go_wp2
  go_ret
  exact ⟨rfl, rfl⟩
 | false =>
  go_enter Tryz.func146, Tryz.ntmps146
  go_wp2
  go_ret
  exact ⟨rfl, rfl⟩
theorem fixed_nat (w : World) : Calls Tryz.prog 149 #[] w fun e w' => e = .returned (.int .u64 9007199254743808) ∧ w' = w := by
 go_enter Tryz.func149, Tryz.ntmps149
 go_wp2
 go_ret
 exact ⟨rfl, rfl⟩
theorem attr_nat (w : World) : Calls Tryz.prog 147 #[] w fun e w' => e = .returned (.agg #[.int .i64 2, .int .i64 3]) ∧ Below w.heap.size w w' := by
 go_enter Tryz.func147, Tryz.ntmps147
 go_wp2
 exact bodyPost_ret (v := .agg #[.int .i64 2, .int .i64 3]) (by simp [results, Tryz.results147, go_sem]) rfl ⟨rfl, below1 _ _⟩
theorem asid_nat (w : World) : Calls Tryz.prog 78 #[] w fun e w' => e = .returned (.agg #[.int .i64 48, .int .i64 8]) ∧ Below w.heap.size w w' := by
 go_enter Tryz.func78, Tryz.ntmps78
 go_wp2
 exact bodyPost_ret (v := .agg #[.int .i64 48, .int .i64 8]) (by simp [results, Tryz.results78, go_sem]) rfl ⟨rfl, below1 _ _⟩
theorem bits_nat (level : Nat) (w : World) (hl : level ≤ 3) : Calls Tryz.prog 106 #[.int .i64 level] w fun e w' => e = .returned (.int .i64 (bitsL level)) ∧ w' = w := by
 rcases (show level = 0 ∨ level = 1 ∨ level = 2 ∨ level = 3 by omega) with rfl | rfl | rfl | rfl
 all_goals
  go_enter Tryz.func106, Tryz.ntmps106
  go_wp2
  go_ret
  exact ⟨rfl, rfl⟩
theorem leaf_nat (kind level : Nat) (w : World) : Calls Tryz.prog 148 #[.int .i64 kind, .int .i64 level] w fun e w' => e = .returned (.bool (leafK kind level)) ∧ w' = w := by
 by_cases h2 : kind = 2
 ·subst h2
  by_cases h1 : level = 1
  ·subst h1
   go_enter Tryz.func148, Tryz.ntmps148
   go_wp2
   go_ret
   exact ⟨rfl, rfl⟩
  ·by_cases h12 : level = 2
   ·subst h12
    go_enter Tryz.func148, Tryz.ntmps148
    go_wp2
    go_ret
    exact ⟨rfl, rfl⟩
   ·have e1 : ((level : Int) == 1) = false := by simp; omega
    have e2 : ((level : Int) == 2) = false := by simp; omega
    have e3 : leafK 2 level = false := by unfold leafK; simp [h1, h12]
    go_enter Tryz.func148, Tryz.ntmps148
    go_wp2
    go_ret
    exact ⟨by rw [e3]; rfl, rfl⟩
 ·have e1 : ((kind : Int) == 2) = false := by simp; omega
  by_cases h3 : kind = 3
  ·subst h3
   have e3 : leafK 3 level = ((level : Int) == 3) := by unfold leafK; rw [Bool.eq_iff_iff]; simp; omega
   go_enter Tryz.func148, Tryz.ntmps148
   go_wp2
   go_ret
   refine ⟨by rw [e3]; rfl, rfl⟩
  ·have e2 : ((kind : Int) == 3) = false := by simp; omega
   have e3 : leafK kind level = false := by unfold leafK; simp [h2, h3]
   go_enter Tryz.func148, Tryz.ntmps148
   go_wp2
   go_ret
   exact ⟨by rw [e3]; rfl, rfl⟩
set_option maxHeartbeats 1000000 in
theorem said_nat (level x : Nat) (w : World) (hx : x < 18446744073709551616) (hl : level ≤ 3) :
  Calls Tryz.prog 130 #[.int .i64 level, .int .u64 x] w fun e w' => e = .returned (dV (saidD level x)) ∧ Below w.heap.size w w' := by
 have G1 : Hid (∀ w, Calls Tryz.prog 79 #[.agg #[.int .i64 12, .int .i64 36], .int .u64 x] w fun e w' => e = .returned (.int .u64 (x / 4096 % 68719476736 : Nat)) ∧ Below w.heap.size w w') :=
  fun w => get_nat 12 36 x w hx (by omega) (by omega) (by omega)
 have G2 : Hid (∀ w, Calls Tryz.prog 79 #[.agg #[.int .i64 2, .int .i64 3], .int .u64 x] w fun e w' => e = .returned (.int .u64 (x / 4 % 8 : Nat)) ∧ Below w.heap.size w w') :=
  fun w => get_nat 2 3 x w hx (by omega) (by omega) (by omega)
 have B6 : Hid (∀ w, Calls Tryz.prog 146 #[.int .i64 6, .bool true] w fun e w' => e = .returned (.int .u64 64) ∧ w' = w) := fun w => bit_nat 6 true w (by omega)
 have B7 : Hid (∀ w, Calls Tryz.prog 146 #[.int .i64 7, .bool true] w fun e w' => e = .returned (.int .u64 128) ∧ w' = w) := fun w => bit_nat 7 true w (by omega)
 have B54 : Hid (∀ w, Calls Tryz.prog 146 #[.int .i64 54, .bool true] w fun e w' => e = .returned (.int .u64 18014398509481984) ∧ w' = w) := fun w => bit_nat 54 true w (by omega)
 have B10 : Hid (∀ w, Calls Tryz.prog 146 #[.int .i64 10, .bool true] w fun e w' => e = .returned (.int .u64 1024) ∧ w' = w) := fun w => bit_nat 10 true w (by omega)
 have C3 := Lib.hid attr_nat
 have e6 : (bits .and .u64 (x : Int) 64 != 0) = x.testBit 6 := bit_test x 6 hx (by omega)
 have e7 : (bits .and .u64 (x : Int) 128 == 0) = !x.testBit 7 := bit_test0 x 7 hx (by omega)
 have e54 : (bits .and .u64 (x : Int) 18014398509481984 == 0) = !x.testBit 54 := bit_test0 x 54 hx (by omega)
 have e10 : (bits .and .u64 (x : Int) 1024 != 0) = x.testBit 10 := bit_test x 10 hx (by omega)
 have e0 : (bits .and .u64 (x : Int) 1 == 0) = !x.testBit 0 := bit_test0 x 0 hx (by omega)
 have e1 : (bits .and .u64 (x : Int) 2 != 0) = x.testBit 1 := bit_test x 1 hx (by omega)
 have hout : IntKind.u64.wrap (((x / 4096 % 68719476736 : Nat) : Int) * 4096) = ((outW x : Nat) : Int) := by rw [IntKind.wrap_u64]; unfold outW; omega
 have hat : IntKind.i64.wrap ((x / 4 % 8 : Nat) : Int) = ((x / 4 % 8 : Nat) : Int) := IntWalk.i64_in _ (by omega)
 have ho := outW_lt x
 unfold saidD leafD
 generalize x / 4096 % 68719476736 = Y at G1 hout
 generalize x / 4 % 8 = Z at G2 hat ⊢
 generalize outW x = O at hout ho ⊢
 generalize x.testBit 6 = b6 at e6 ⊢
 generalize x.testBit 7 = b7 at e7 ⊢
 generalize x.testBit 54 = b54 at e54 ⊢
 generalize x.testBit 10 = b10 at e10 ⊢
 have main : ∀ R : Dd, (R = if x.testBit 0 = false then zeroD else if x.testBit 1 = true ∧ level < 3 then tableD O else ⟨if x.testBit 1 = true then 3 else 2, O, b6, !b7, !b54, b10, Z⟩) →
   Calls Tryz.prog 130 #[.int .i64 level, .int .u64 x] w fun e w' => e = .returned (dV R) ∧ Below w.heap.size w w' := by
  intro R hR
  cases h0 : x.testBit 0 with
  | false =>
   rw [h0, if_pos rfl] at hR
   rw [h0] at e0
   subst hR
   go_enter Tryz.func130, Tryz.ntmps130
   go_wp2_with fail
   refine (G1.out _).mono ?_
   rintro e w1 ⟨rfl, hb⟩
   have HB := Lib.hid ((below1 w _).trans (hb.mono (below1 w _).size))
   have r0 : w1.cell? ⟨w.heap.size, 0, none⟩ = some (.int .i64 0) := keep_cell hb (by simp)
   have r1 : w1.cell? ⟨w.heap.size, 1, none⟩ = some (.int .u64 0) := keep_cell hb (by simp)
   have r2 : w1.cell? ⟨w.heap.size, 2, none⟩ = some (.bool false) := keep_cell hb (by simp)
   have r3 : w1.cell? ⟨w.heap.size, 3, none⟩ = some (.bool false) := keep_cell hb (by simp)
   have r4 : w1.cell? ⟨w.heap.size, 4, none⟩ = some (.bool false) := keep_cell hb (by simp)
   have r5 : w1.cell? ⟨w.heap.size, 5, none⟩ = some (.bool false) := keep_cell hb (by simp)
   have r6 : w1.cell? ⟨w.heap.size, 6, none⟩ = some (.int .i64 0) := keep_cell hb (by simp)
   have fr : ∀ j, w1.frozen? ⟨w.heap.size, j, none⟩ = false := fun j => keep_frozen hb (by simp) (by simp)
   have hz : w.heap.size < w1.heap.size := by have := hb.size; simp at this; omega
   clear hb
   go_wp2_with (first | (go_at_call_of 146 (Value.int IntKind.i64 6); refine (B6.out _).mono ?_; rintro e w' ⟨rfl, rfl⟩) | (go_at_call_of 146 (Value.int IntKind.i64 7); refine (B7.out _).mono ?_; rintro e w' ⟨rfl, rfl⟩) | (go_at_call_of 146 (Value.int IntKind.i64 54); refine (B54.out _).mono ?_; rintro e w' ⟨rfl, rfl⟩) | (go_at_call_of 146 (Value.int IntKind.i64 10); refine (B10.out _).mono ?_; rintro e w' ⟨rfl, rfl⟩))
   refine (C3.out _).mono ?_
   rintro e w2 ⟨rfl, hb⟩
   replace r0 := keep_cell hb r0
   replace r1 := keep_cell hb r1
   replace r2 := keep_cell hb r2
   replace r3 := keep_cell hb r3
   replace r4 := keep_cell hb r4
   replace r5 := keep_cell hb r5
   replace r6 := keep_cell hb r6
   replace fr := fun j => keep_frozen hb hz (fr j)
   replace HB := Lib.hid (HB.out.trans (hb.mono HB.size))
   replace hz := Nat.lt_of_lt_of_le hz hb.size
   clear hb
   go_wp2_with fail
   refine (G2.out _).mono ?_
   rintro e w3 ⟨rfl, hb⟩
   replace r0 := keep_cell hb r0
   replace r1 := keep_cell hb r1
   replace r2 := keep_cell hb r2
   replace r3 := keep_cell hb r3
   replace r4 := keep_cell hb r4
   replace r5 := keep_cell hb r5
   replace r6 := keep_cell hb r6
   replace fr := fun j => keep_frozen hb hz (fr j)
   replace HB := Lib.hid (HB.out.trans (hb.mono HB.size))
   replace hz := Nat.lt_of_lt_of_le hz hb.size
   clear hb G1 G2 B6 B7 B54 B10 C3
   go_wp2
   refine bodyPost_ret (v := dV zeroD) (by simp [results, Tryz.results130, go_sem, hz, r0, r1, r2, r3, r4, r5, r6, dV, zeroD]) rfl ⟨rfl, ?_⟩
   exact (((((((HB.out.setCell (Nat.le_refl _) _).setCell (Nat.le_refl _) _).setCell (Nat.le_refl _) _).setCell (Nat.le_refl _) _).setCell (Nat.le_refl _) _).setCell (Nat.le_refl _) _).setCell (Nat.le_refl _) _).alloc (by simp; omega) _
  | true =>
   rw [h0, if_neg (by simp)] at hR
   rw [h0] at e0
   cases h1 : x.testBit 1 with
   | true =>
    rw [h1] at hR e1
    by_cases hl3 : level < 3
    ·rw [if_pos ⟨rfl, hl3⟩] at hR
     subst hR
     go_enter Tryz.func130, Tryz.ntmps130
     go_wp2_with fail
     refine (G1.out _).mono ?_
     rintro e w1 ⟨rfl, hb⟩
     have HB := Lib.hid ((below1 w _).trans (hb.mono (below1 w _).size))
     have r0 : w1.cell? ⟨w.heap.size, 0, none⟩ = some (.int .i64 0) := keep_cell hb (by simp)
     have r1 : w1.cell? ⟨w.heap.size, 1, none⟩ = some (.int .u64 0) := keep_cell hb (by simp)
     have r2 : w1.cell? ⟨w.heap.size, 2, none⟩ = some (.bool false) := keep_cell hb (by simp)
     have r3 : w1.cell? ⟨w.heap.size, 3, none⟩ = some (.bool false) := keep_cell hb (by simp)
     have r4 : w1.cell? ⟨w.heap.size, 4, none⟩ = some (.bool false) := keep_cell hb (by simp)
     have r5 : w1.cell? ⟨w.heap.size, 5, none⟩ = some (.bool false) := keep_cell hb (by simp)
     have r6 : w1.cell? ⟨w.heap.size, 6, none⟩ = some (.int .i64 0) := keep_cell hb (by simp)
     have fr : ∀ j, w1.frozen? ⟨w.heap.size, j, none⟩ = false := fun j => keep_frozen hb (by simp) (by simp)
     have hz : w.heap.size < w1.heap.size := by have := hb.size; simp at this; omega
     clear hb
     go_wp2_with (first | (go_at_call_of 146 (Value.int IntKind.i64 6); refine (B6.out _).mono ?_; rintro e w' ⟨rfl, rfl⟩) | (go_at_call_of 146 (Value.int IntKind.i64 7); refine (B7.out _).mono ?_; rintro e w' ⟨rfl, rfl⟩) | (go_at_call_of 146 (Value.int IntKind.i64 54); refine (B54.out _).mono ?_; rintro e w' ⟨rfl, rfl⟩) | (go_at_call_of 146 (Value.int IntKind.i64 10); refine (B10.out _).mono ?_; rintro e w' ⟨rfl, rfl⟩))
     refine (C3.out _).mono ?_
     rintro e w2 ⟨rfl, hb⟩
     replace r0 := keep_cell hb r0
     replace r1 := keep_cell hb r1
     replace r2 := keep_cell hb r2
     replace r3 := keep_cell hb r3
     replace r4 := keep_cell hb r4
     replace r5 := keep_cell hb r5
     replace r6 := keep_cell hb r6
     replace fr := fun j => keep_frozen hb hz (fr j)
     replace HB := Lib.hid (HB.out.trans (hb.mono HB.size))
     replace hz := Nat.lt_of_lt_of_le hz hb.size
     clear hb
     go_wp2_with fail
     refine (G2.out _).mono ?_
     rintro e w3 ⟨rfl, hb⟩
     replace r0 := keep_cell hb r0
     replace r1 := keep_cell hb r1
     replace r2 := keep_cell hb r2
     replace r3 := keep_cell hb r3
     replace r4 := keep_cell hb r4
     replace r5 := keep_cell hb r5
     replace r6 := keep_cell hb r6
     replace fr := fun j => keep_frozen hb hz (fr j)
     replace HB := Lib.hid (HB.out.trans (hb.mono HB.size))
     replace hz := Nat.lt_of_lt_of_le hz hb.size
     clear hb G1 G2 B6 B7 B54 B10 C3
     go_wp2
     refine bodyPost_ret (v := dV (tableD O)) (by simp [results, Tryz.results130, go_sem, hz, r0, r1, r2, r3, r4, r5, r6, dV, tableD]) rfl ⟨rfl, ?_⟩
     exact (((((((HB.out.setCell (Nat.le_refl _) _).setCell (Nat.le_refl _) _).setCell (Nat.le_refl _) _).setCell (Nat.le_refl _) _).setCell (Nat.le_refl _) _).setCell (Nat.le_refl _) _).setCell (Nat.le_refl _) _).alloc (by simp; omega) _
    ·rw [if_neg (by simp; omega), if_pos rfl] at hR
     subst hR
     go_enter Tryz.func130, Tryz.ntmps130
     go_wp2_with fail
     refine (G1.out _).mono ?_
     rintro e w1 ⟨rfl, hb⟩
     have HB := Lib.hid ((below1 w _).trans (hb.mono (below1 w _).size))
     have r0 : w1.cell? ⟨w.heap.size, 0, none⟩ = some (.int .i64 0) := keep_cell hb (by simp)
     have r1 : w1.cell? ⟨w.heap.size, 1, none⟩ = some (.int .u64 0) := keep_cell hb (by simp)
     have r2 : w1.cell? ⟨w.heap.size, 2, none⟩ = some (.bool false) := keep_cell hb (by simp)
     have r3 : w1.cell? ⟨w.heap.size, 3, none⟩ = some (.bool false) := keep_cell hb (by simp)
     have r4 : w1.cell? ⟨w.heap.size, 4, none⟩ = some (.bool false) := keep_cell hb (by simp)
     have r5 : w1.cell? ⟨w.heap.size, 5, none⟩ = some (.bool false) := keep_cell hb (by simp)
     have r6 : w1.cell? ⟨w.heap.size, 6, none⟩ = some (.int .i64 0) := keep_cell hb (by simp)
     have fr : ∀ j, w1.frozen? ⟨w.heap.size, j, none⟩ = false := fun j => keep_frozen hb (by simp) (by simp)
     have hz : w.heap.size < w1.heap.size := by have := hb.size; simp at this; omega
     clear hb
     go_wp2_with (first | (go_at_call_of 146 (Value.int IntKind.i64 6); refine (B6.out _).mono ?_; rintro e w' ⟨rfl, rfl⟩) | (go_at_call_of 146 (Value.int IntKind.i64 7); refine (B7.out _).mono ?_; rintro e w' ⟨rfl, rfl⟩) | (go_at_call_of 146 (Value.int IntKind.i64 54); refine (B54.out _).mono ?_; rintro e w' ⟨rfl, rfl⟩) | (go_at_call_of 146 (Value.int IntKind.i64 10); refine (B10.out _).mono ?_; rintro e w' ⟨rfl, rfl⟩))
     refine (C3.out _).mono ?_
     rintro e w2 ⟨rfl, hb⟩
     replace r0 := keep_cell hb r0
     replace r1 := keep_cell hb r1
     replace r2 := keep_cell hb r2
     replace r3 := keep_cell hb r3
     replace r4 := keep_cell hb r4
     replace r5 := keep_cell hb r5
     replace r6 := keep_cell hb r6
     replace fr := fun j => keep_frozen hb hz (fr j)
     replace HB := Lib.hid (HB.out.trans (hb.mono HB.size))
     replace hz := Nat.lt_of_lt_of_le hz hb.size
     clear hb
     go_wp2_with fail
     refine (G2.out _).mono ?_
     rintro e w3 ⟨rfl, hb⟩
     replace r0 := keep_cell hb r0
     replace r1 := keep_cell hb r1
     replace r2 := keep_cell hb r2
     replace r3 := keep_cell hb r3
     replace r4 := keep_cell hb r4
     replace r5 := keep_cell hb r5
     replace r6 := keep_cell hb r6
     replace fr := fun j => keep_frozen hb hz (fr j)
     replace HB := Lib.hid (HB.out.trans (hb.mono HB.size))
     replace hz := Nat.lt_of_lt_of_le hz hb.size
     clear hb G1 G2 B6 B7 B54 B10 C3
     go_wp2
     refine bodyPost_ret (v := dV ⟨3, O, b6, !b7, !b54, b10, Z⟩) (by simp [results, Tryz.results130, go_sem, hz, r0, r1, r2, r3, r4, r5, r6, dV]) rfl ⟨rfl, ?_⟩
     exact (((((((HB.out.setCell (Nat.le_refl _) _).setCell (Nat.le_refl _) _).setCell (Nat.le_refl _) _).setCell (Nat.le_refl _) _).setCell (Nat.le_refl _) _).setCell (Nat.le_refl _) _).setCell (Nat.le_refl _) _).alloc (by simp; omega) _
   | false =>
    rw [h1, if_neg (by simp), if_neg (by simp)] at hR
    rw [h1] at e1
    subst hR
    go_enter Tryz.func130, Tryz.ntmps130
    go_wp2_with fail
    refine (G1.out _).mono ?_
    rintro e w1 ⟨rfl, hb⟩
    have HB := Lib.hid ((below1 w _).trans (hb.mono (below1 w _).size))
    have r0 : w1.cell? ⟨w.heap.size, 0, none⟩ = some (.int .i64 0) := keep_cell hb (by simp)
    have r1 : w1.cell? ⟨w.heap.size, 1, none⟩ = some (.int .u64 0) := keep_cell hb (by simp)
    have r2 : w1.cell? ⟨w.heap.size, 2, none⟩ = some (.bool false) := keep_cell hb (by simp)
    have r3 : w1.cell? ⟨w.heap.size, 3, none⟩ = some (.bool false) := keep_cell hb (by simp)
    have r4 : w1.cell? ⟨w.heap.size, 4, none⟩ = some (.bool false) := keep_cell hb (by simp)
    have r5 : w1.cell? ⟨w.heap.size, 5, none⟩ = some (.bool false) := keep_cell hb (by simp)
    have r6 : w1.cell? ⟨w.heap.size, 6, none⟩ = some (.int .i64 0) := keep_cell hb (by simp)
    have fr : ∀ j, w1.frozen? ⟨w.heap.size, j, none⟩ = false := fun j => keep_frozen hb (by simp) (by simp)
    have hz : w.heap.size < w1.heap.size := by have := hb.size; simp at this; omega
    clear hb
    go_wp2_with (first | (go_at_call_of 146 (Value.int IntKind.i64 6); refine (B6.out _).mono ?_; rintro e w' ⟨rfl, rfl⟩) | (go_at_call_of 146 (Value.int IntKind.i64 7); refine (B7.out _).mono ?_; rintro e w' ⟨rfl, rfl⟩) | (go_at_call_of 146 (Value.int IntKind.i64 54); refine (B54.out _).mono ?_; rintro e w' ⟨rfl, rfl⟩) | (go_at_call_of 146 (Value.int IntKind.i64 10); refine (B10.out _).mono ?_; rintro e w' ⟨rfl, rfl⟩))
    refine (C3.out _).mono ?_
    rintro e w2 ⟨rfl, hb⟩
    replace r0 := keep_cell hb r0
    replace r1 := keep_cell hb r1
    replace r2 := keep_cell hb r2
    replace r3 := keep_cell hb r3
    replace r4 := keep_cell hb r4
    replace r5 := keep_cell hb r5
    replace r6 := keep_cell hb r6
    replace fr := fun j => keep_frozen hb hz (fr j)
    replace HB := Lib.hid (HB.out.trans (hb.mono HB.size))
    replace hz := Nat.lt_of_lt_of_le hz hb.size
    clear hb
    go_wp2_with fail
    refine (G2.out _).mono ?_
    rintro e w3 ⟨rfl, hb⟩
    replace r0 := keep_cell hb r0
    replace r1 := keep_cell hb r1
    replace r2 := keep_cell hb r2
    replace r3 := keep_cell hb r3
    replace r4 := keep_cell hb r4
    replace r5 := keep_cell hb r5
    replace r6 := keep_cell hb r6
    replace fr := fun j => keep_frozen hb hz (fr j)
    replace HB := Lib.hid (HB.out.trans (hb.mono HB.size))
    replace hz := Nat.lt_of_lt_of_le hz hb.size
    clear hb G1 G2 B6 B7 B54 B10 C3
    go_wp2
    refine bodyPost_ret (v := dV ⟨2, O, b6, !b7, !b54, b10, Z⟩) (by simp [results, Tryz.results130, go_sem, hz, r0, r1, r2, r3, r4, r5, r6, dV]) rfl ⟨rfl, ?_⟩
    exact (((((((HB.out.setCell (Nat.le_refl _) _).setCell (Nat.le_refl _) _).setCell (Nat.le_refl _) _).setCell (Nat.le_refl _) _).setCell (Nat.le_refl _) _).setCell (Nat.le_refl _) _).setCell (Nat.le_refl _) _).alloc (by simp; omega) _
 exact main _ rfl
end Go.Proofs.YtbapgngngaaojaaGreat
namespace Go.Proofs.YtbapgngngaaojaaGreat
open Go.RowKit Go.Lib
set_option maxRecDepth 100000
theorem right_table (out level : Nat) (w : World) (hl : level < 3) (ho : out < 281474976710656) (ha : out % 4096 = 0) :
  Calls Tryz.prog 131 #[.agg #[.int .i64 1, .int .u64 out, .bool false, .bool false, .bool false, .bool false, .int .i64 0], .int .i64 level] w fun e w' => e = .returned (.bool true) ∧ Below w.heap.size w w' := by
 have C1 : Hid (∀ w, Calls Tryz.prog 73 #[.int .u64 out, .int .i64 12] w fun e w' => e = .returned (.bool true) ∧ w' = w) := fun w => by
  have h := aligned_nat out 12 w (by omega) (by omega)
  rw [show (out % 2 ^ 12 == 0) = true by simp; omega] at h
  exact h
 have e1 : ((out : Int) / 281474976710656 == 0) = true := by simp; omega
 go_enter Tryz.func131, Tryz.ntmps131
 go_wp2_with (go_at_call 73; refine (C1.out _).mono ?_; rintro e w' ⟨rfl, rfl⟩)
 go_ret
 exact ⟨rfl, below1 _ _⟩
set_option maxHeartbeats 1000000 in
theorem right_leaf (kind out attr level : Nat) (user write exec used : Bool) (w : World) (hk : kind = 2 ∨ kind = 3) (hl : level ≤ 3) (ho : out < 18446744073709551616) :
  Calls Tryz.prog 131 #[.agg #[.int .i64 kind, .int .u64 out, .bool user, .bool write, .bool exec, .bool used, .int .i64 attr], .int .i64 level] w fun e w' => e = .returned (.bool (rightL ⟨kind, out, user, write, exec, used, attr⟩ level)) ∧ Below w.heap.size w w' := by
 have e1 : ((kind : Int) == 0) = false := by simp; omega
 have e2 : ((kind : Int) == 1) = false := by simp; omega
 have e3 : decide ((level : Int) < 0) = false := by simp
 have e4 : decide ((4 : Int) ≤ (level : Int)) = false := by simp; omega
 have e5 : decide ((0 : Int) ≤ (attr : Int)) = true := by simp
 have C1 := Lib.hid (fun w => leaf_nat kind level w)
 have C2 := Lib.hid (fun w => bits_nat level w hl)
 have hb : bitsL level < 64 := by unfold bitsL; split <;> (try split) <;> (try split) <;> omega
 have C3 := Lib.hid (fun w => aligned_nat out (bitsL level) w ho hb)
 unfold rightL
 dsimp only
 generalize bitsL level = B at C2 C3 hb ⊢
 generalize (out % 2 ^ B == 0) = al at C3 ⊢
 generalize leafK kind level = lf at C1 ⊢
 obtain ⟨small, hsm⟩ : ∃ b, decide (out < 281474976710656) = b := ⟨_, rfl⟩
 obtain ⟨at8, h8⟩ : ∃ b, decide (attr < 8) = b := ⟨_, rfl⟩
 have e6 : ((out : Int) / 281474976710656 == 0) = small := by rw [← hsm, Bool.eq_iff_iff]; simp; omega
 have e7 : decide ((attr : Int) < 8) = at8 := by rw [← h8, Bool.eq_iff_iff]; simp; omega
 rw [hsm, h8]
 clear hsm h8 hk ho
 cases lf with
 | false =>
  go_enter Tryz.func131, Tryz.ntmps131
  go_wp2_with fail
  go_quiet (first | (go_at_call 148; exact Calls.quiet_of_same (C1.out _)) | (go_at_call 106; exact Calls.quiet_of_same (C2.out _)) | (go_at_call 73; exact Calls.quiet_of_same (C3.out _)))
  go_wp2_with fail
  go_ret
  exact ⟨ret_bool (by simp), below_drewN (below1 _ _) _⟩
 | true =>
  cases small with
  | false =>
   go_enter Tryz.func131, Tryz.ntmps131
   go_wp2_with fail
   go_quiet (first | (go_at_call 148; exact Calls.quiet_of_same (C1.out _)) | (go_at_call 106; exact Calls.quiet_of_same (C2.out _)) | (go_at_call 73; exact Calls.quiet_of_same (C3.out _)))
   go_wp2_with fail
   go_ret
   exact ⟨ret_bool (by simp), below_drewN (below1 _ _) _⟩
  | true =>
   cases al with
   | false =>
    go_enter Tryz.func131, Tryz.ntmps131
    go_wp2_with fail
    go_quiet (first | (go_at_call 148; exact Calls.quiet_of_same (C1.out _)) | (go_at_call 106; exact Calls.quiet_of_same (C2.out _)) | (go_at_call 73; exact Calls.quiet_of_same (C3.out _)))
    go_wp2_with fail
    go_ret
    exact ⟨ret_bool (by simp), below_drewN (below1 _ _) _⟩
   | true =>
    cases at8 with
    | false =>
     go_enter Tryz.func131, Tryz.ntmps131
     go_wp2_with fail
     go_quiet (first | (go_at_call 148; exact Calls.quiet_of_same (C1.out _)) | (go_at_call 106; exact Calls.quiet_of_same (C2.out _)) | (go_at_call 73; exact Calls.quiet_of_same (C3.out _)))
     go_wp2_with fail
     go_ret
     exact ⟨ret_bool (by simp), below_drewN (below1 _ _) _⟩
    | true =>
     go_enter Tryz.func131, Tryz.ntmps131
     go_wp2_with fail
     go_quiet (first | (go_at_call 148; exact Calls.quiet_of_same (C1.out _)) | (go_at_call 106; exact Calls.quiet_of_same (C2.out _)) | (go_at_call 73; exact Calls.quiet_of_same (C3.out _)))
     go_wp2_with fail
     go_ret
     exact ⟨ret_bool (by simp), below_drewN (below1 _ _) _⟩
end Go.Proofs.YtbapgngngaaojaaGreat
namespace Go.Proofs.YtbapgngngaaojaaGreat
open Go.RowKit Go.Lib
set_option maxRecDepth 100000
theorem word_table (out : Nat) (w : World) (ho : out < 18446744073709551616) :
  Calls Tryz.prog 132 #[.agg #[.int .i64 1, .int .u64 out, .bool false, .bool false, .bool false, .bool false, .int .i64 0]] w fun e w' => e = .returned (.int .u64 ((out ||| 2) ||| 1 : Nat)) ∧ Below w.heap.size w w' := by
 have o1 : bits .or .u64 (out : Int) 2 = ((out ||| 2 : Nat) : Int) := bits_or_u64_nat out 2 ho (by omega)
 have h1 : out ||| 2 < 2 ^ 64 := Nat.or_lt_two_pow (by omega) (by omega)
 have o2 : bits .or .u64 ((out ||| 2 : Nat) : Int) 1 = (((out ||| 2) ||| 1 : Nat) : Int) := bits_or_u64_nat (out ||| 2) 1 (by omega) (by omega)
 generalize (out ||| 2) ||| 1 = b at o2 ⊢
 generalize out ||| 2 = a at o1 o2
 go_enter Tryz.func132, Tryz.ntmps132
 go_wp2
 go_ret
 exact ⟨rfl, below1 _ _⟩
theorem or_step (a b : Nat) (ha : a < 18446744073709551616) (hb : b < 18446744073709551616) : ∃ c, c = (a ||| b) ∧ bits .or .u64 (a : Int) (b : Int) = (c : Int) ∧ c < 18446744073709551616 :=
 ⟨_, rfl, bits_or_u64_nat a b ha hb, Nat.or_lt_two_pow (n := 64) ha hb⟩
theorem bn_lt (b : Bool) (n : Nat) (h : n < 64) : bn b n < 18446744073709551616 := by
 have := pow_lt64 h
 unfold bn
 split <;> omega
set_option maxHeartbeats 1000000 in
theorem word_leaf (kind out attr : Nat) (user write exec used : Bool) (w : World) (hk : kind = 2 ∨ kind = 3) (ho : out < 18446744073709551616) (hat : attr < 8) :
  Calls Tryz.prog 132 #[.agg #[.int .i64 kind, .int .u64 out, .bool user, .bool write, .bool exec, .bool used, .int .i64 attr]] w fun e w' => e = .returned (.int .u64 (wordD ⟨kind, out, user, write, exec, used, attr⟩)) ∧ Below w.heap.size w w' := by
 have e1 : ((kind : Int) == 0) = false := by simp; omega
 have e2 : ((kind : Int) == 1) = false := by simp; omega
 have e3 : ((kind : Int) == 3) = (kind == 3) := by rw [Bool.eq_iff_iff]; simp; omega
 have e4 : IntKind.u64.wrap (attr : Int) = (attr : Int) := by rw [IntKind.wrap_u64]; omega
 have B1 := Lib.hid (fun w => bit_nat 1 (kind == 3) w (by omega))
 have B6 := Lib.hid (fun w => bit_nat 6 user w (by omega))
 have B7 := Lib.hid (fun w => bit_nat 7 (!write) w (by omega))
 have B10 := Lib.hid (fun w => bit_nat 10 used w (by omega))
 have B54 := Lib.hid (fun w => bit_nat 54 (!exec) w (by omega))
 have C1 := Lib.hid fixed_nat
 have C2 := Lib.hid attr_nat
 unfold wordD
 dsimp only
 obtain ⟨a1, ha1, o1, l1⟩ := or_step out 9007199254743808 ho (by omega)
 obtain ⟨a2, ha2, o2, l2⟩ := or_step a1 1 l1 (by omega)
 obtain ⟨a3, ha3, o3, l3⟩ := or_step a2 (bn (kind == 3) 1) l2 (bn_lt _ _ (by omega))
 obtain ⟨a4, ha4, o4, l4⟩ := or_step a3 (bn user 6) l3 (bn_lt _ _ (by omega))
 obtain ⟨a5, ha5, o5, l5⟩ := or_step a4 (bn (!write) 7) l4 (bn_lt _ _ (by omega))
 obtain ⟨a6, ha6, o6, l6⟩ := or_step a5 (bn used 10) l5 (bn_lt _ _ (by omega))
 obtain ⟨a7, ha7, o7, l7⟩ := or_step a6 (bn (!exec) 54) l6 (bn_lt _ _ (by omega))
 replace o1 : bits .or .u64 (out : Int) 9007199254743808 = (a1 : Int) := o1
 replace o2 : bits .or .u64 (a1 : Int) 1 = (a2 : Int) := o2
 rw [← ha1, ← ha2, ← ha3, ← ha4, ← ha5, ← ha6, ← ha7]
 have C3 : Hid (∀ w, Calls Tryz.prog 120 #[.agg #[.int .i64 2, .int .i64 3], .int .u64 a7, .int .u64 attr] w fun e w' => e = .returned (.tuple #[.int .u64 (andN a7 28 ||| attr * 4 : Nat), .int .i64 0]) ∧ Below w.heap.size w w') :=
  fun w => put_nat 2 3 a7 attr w l7 (by omega) (by omega) (by omega) hat
 generalize andN a7 28 ||| attr * 4 = R at C3 ⊢
 generalize (kind == 3) = k3 at e3 B1 o3
 generalize bn k3 1 = b1 at B1 o3
 generalize bn user 6 = b6 at B6 o4
 generalize bn (!write) 7 = b7 at B7 o5
 generalize bn used 10 = b10 at B10 o6
 generalize bn (!exec) 54 = b54 at B54 o7
 clear ha1 ha2 ha3 ha4 ha5 ha6 ha7 l1 l2 l3 l4 l5 l6 l7
 go_enter Tryz.func132, Tryz.ntmps132
 go_wp2_with fail
 go_quiet (first | (go_at_call 149; exact Calls.quiet_of_same (C1.out _)) | (go_at_call_of 146 (Value.int IntKind.i64 1); exact Calls.quiet_of_same (B1.out _)) | (go_at_call_of 146 (Value.int IntKind.i64 6); exact Calls.quiet_of_same (B6.out _)) | (go_at_call_of 146 (Value.int IntKind.i64 7); exact Calls.quiet_of_same (B7.out _)) | (go_at_call_of 146 (Value.int IntKind.i64 10); exact Calls.quiet_of_same (B10.out _)) | (go_at_call_of 146 (Value.int IntKind.i64 54); exact Calls.quiet_of_same (B54.out _)))
 go_wp2_with fail
 (try simp only [o1, o2, o3, o4, o5, o6, o7])
 generalize hW : World.drewN _ _ = W
 have m6 : W.cell? ⟨w.heap.size, 6, none⟩ = some (.int .i64 attr) := by rw [← hW]; simp
 have hC : CtxB w W := hW ▸ below_drewN (below1 _ _) _
 clear hW B1 B6 B7 B10 B54 C1 o1 o2 o3 o4 o5 o6 o7
 go_region_held3 (fun u => u.cell? ⟨w.heap.size, 6, none⟩ = some (.int .i64 attr) ∧ CtxB w u)
  (first | assumption | exact ⟨drew_cell m6, hC.drew⟩ | (go_split_ands; exact ⟨keep_cell hb5 (by assumption), CtxB.next (by assumption) hb5⟩))
  (first | (go_at_call 147; refine (C2.out _).mono ?_; rintro e w5 ⟨rfl, hb5⟩) | (go_at_call 120; refine (C3.out _).mono ?_; rintro e w6 ⟨rfl, hb5⟩))
 go_split_ands
 have HB : Hid (Below w.heap.size w w6) := CtxB.out (by assumption)
 clear m6 hC
 go_wp2
 go_ret
 exact ⟨rfl, HB.out⟩
end Go.Proofs.YtbapgngngaaojaaGreat
namespace Go.Proofs.YtbapgngngaaojaaGreat
open Go.RowKit Go.Lib
set_option maxRecDepth 100000
def decV (level x : Nat) : Dd × Nat := match decP level x with | some d => (d, 0) | none => (zeroD, 10)
def DecPost (R : Dd × Nat) (w : World) (e : Ending) (w' : World) : Prop := e = .returned (.tuple #[dV R.1, .int .i64 R.2]) ∧ Below w.heap.size w w'
set_option maxHeartbeats 1000000 in
theorem decode_core (level x K out attr W : Nat) (b1 b2 b3 b4 R : Bool) (w : World) (hl : level ≤ 3)
  (C1 : Hid (∀ w, Calls Tryz.prog 130 #[.int .i64 level, .int .u64 x] w fun e w' => e = .returned (.agg #[.int .i64 K, .int .u64 out, .bool b1, .bool b2, .bool b3, .bool b4, .int .i64 attr]) ∧ Below w.heap.size w w'))
  (C2 : Hid (∀ w, Calls Tryz.prog 131 #[.agg #[.int .i64 K, .int .u64 out, .bool b1, .bool b2, .bool b3, .bool b4, .int .i64 attr], .int .i64 level] w fun e w' => e = .returned (.bool R) ∧ Below w.heap.size w w'))
  (C3 : R = true → Hid (∀ w, Calls Tryz.prog 132 #[.agg #[.int .i64 K, .int .u64 out, .bool b1, .bool b2, .bool b3, .bool b4, .int .i64 attr]] w fun e w' => e = .returned (.int .u64 W) ∧ Below w.heap.size w w'))
  (hK : ((K : Int) != 0) = true) :
  Calls Tryz.prog 102 #[.int .i64 level, .int .u64 x] w (DecPost (if R = true ∧ W = x then (⟨K, out, b1, b2, b3, b4, attr⟩, 0) else (zeroD, 10)) w) := by
 have e3 : decide ((level : Int) < 0) = false := by simp
 have e4 : decide ((4 : Int) ≤ (level : Int)) = false := by simp; omega
 cases R with
 | false =>
  rw [if_neg (by simp)]
  clear C3
  go_enter Tryz.func102, Tryz.ntmps102
  go_wp2_with fail
  refine (C1.out _).mono ?_
  rintro e w1 ⟨rfl, hb⟩
  have HB := Lib.hid ((below1 w _).trans (hb.mono (below1 w _).size))
  have r0 : w1.cell? ⟨w.heap.size, 0, none⟩ = some (.int .i64 0) := keep_cell hb (by simp)
  have r1 : w1.cell? ⟨w.heap.size, 1, none⟩ = some (.int .u64 0) := keep_cell hb (by simp)
  have r2 : w1.cell? ⟨w.heap.size, 2, none⟩ = some (.bool false) := keep_cell hb (by simp)
  have r3 : w1.cell? ⟨w.heap.size, 3, none⟩ = some (.bool false) := keep_cell hb (by simp)
  have r4 : w1.cell? ⟨w.heap.size, 4, none⟩ = some (.bool false) := keep_cell hb (by simp)
  have r5 : w1.cell? ⟨w.heap.size, 5, none⟩ = some (.bool false) := keep_cell hb (by simp)
  have r6 : w1.cell? ⟨w.heap.size, 6, none⟩ = some (.int .i64 0) := keep_cell hb (by simp)
  have fr : ∀ j, w1.frozen? ⟨w.heap.size, j, none⟩ = false := fun j => keep_frozen hb (by simp) (by simp)
  have hz : w.heap.size < w1.heap.size := by have := hb.size; simp at this; omega
  clear hb C1
  go_wp2_with fail
  refine (C2.out _).mono ?_
  rintro e w2 ⟨rfl, hb⟩
  have hz1 : w.heap.size < (w1.alloc (.cells #[.int .i64 K, .int .u64 out, .bool b1, .bool b2, .bool b3, .bool b4, .int .i64 attr] 60)).heap.size := by simp; omega
  have d0 : w2.cell? ⟨w1.heap.size, 0, none⟩ = some (.int .i64 K) := keep_cell hb (by simp)
  have d1 : w2.cell? ⟨w1.heap.size, 1, none⟩ = some (.int .u64 out) := keep_cell hb (by simp)
  have d2 : w2.cell? ⟨w1.heap.size, 2, none⟩ = some (.bool b1) := keep_cell hb (by simp)
  have d3 : w2.cell? ⟨w1.heap.size, 3, none⟩ = some (.bool b2) := keep_cell hb (by simp)
  have d4 : w2.cell? ⟨w1.heap.size, 4, none⟩ = some (.bool b3) := keep_cell hb (by simp)
  have d5 : w2.cell? ⟨w1.heap.size, 5, none⟩ = some (.bool b4) := keep_cell hb (by simp)
  have d6 : w2.cell? ⟨w1.heap.size, 6, none⟩ = some (.int .i64 attr) := keep_cell hb (by simp)
  replace r0 := keep_cell hb (keep_cell (below1 w1 _) r0)
  replace r1 := keep_cell hb (keep_cell (below1 w1 _) r1)
  replace r2 := keep_cell hb (keep_cell (below1 w1 _) r2)
  replace r3 := keep_cell hb (keep_cell (below1 w1 _) r3)
  replace r4 := keep_cell hb (keep_cell (below1 w1 _) r4)
  replace r5 := keep_cell hb (keep_cell (below1 w1 _) r5)
  replace r6 := keep_cell hb (keep_cell (below1 w1 _) r6)
  replace fr : ∀ j, w2.frozen? ⟨w.heap.size, j, none⟩ = false := fun j => keep_frozen hb hz1 (keep_frozen (below1 w1 _) hz (fr j))
  replace HB := Lib.hid (HB.out.trans (((below1 w1 _).trans (hb.mono (below1 w1 _).size)).mono HB.size))
  have hz2 : w.heap.size < w2.heap.size := Nat.lt_of_lt_of_le hz1 hb.size
  have hz3 : w1.heap.size < w2.heap.size := Nat.lt_of_lt_of_le (by simp) hb.size
  clear hb hz hz1 C2
  go_wp2
  refine bodyPost_ret (v := .tuple #[dV zeroD, .int .i64 10]) (by simp [results, Tryz.results102, go_sem, hz2, r0, r1, r2, r3, r4, r5, r6, dV, zeroD]) rfl ⟨rfl, ?_⟩
  exact (((((((HB.out.setCell (Nat.le_refl _) _).setCell (Nat.le_refl _) _).setCell (Nat.le_refl _) _).setCell (Nat.le_refl _) _).setCell (Nat.le_refl _) _).setCell (Nat.le_refl _) _).setCell (Nat.le_refl _) _)
 | true =>
  replace C3 := C3 rfl
  by_cases hW : W = x
  ·subst hW
   rw [if_pos ⟨rfl, rfl⟩]
   go_enter Tryz.func102, Tryz.ntmps102
   go_wp2_with fail
   refine (C1.out _).mono ?_
   rintro e w1 ⟨rfl, hb⟩
   have HB := Lib.hid ((below1 w _).trans (hb.mono (below1 w _).size))
   have r0 : w1.cell? ⟨w.heap.size, 0, none⟩ = some (.int .i64 0) := keep_cell hb (by simp)
   have r1 : w1.cell? ⟨w.heap.size, 1, none⟩ = some (.int .u64 0) := keep_cell hb (by simp)
   have r2 : w1.cell? ⟨w.heap.size, 2, none⟩ = some (.bool false) := keep_cell hb (by simp)
   have r3 : w1.cell? ⟨w.heap.size, 3, none⟩ = some (.bool false) := keep_cell hb (by simp)
   have r4 : w1.cell? ⟨w.heap.size, 4, none⟩ = some (.bool false) := keep_cell hb (by simp)
   have r5 : w1.cell? ⟨w.heap.size, 5, none⟩ = some (.bool false) := keep_cell hb (by simp)
   have r6 : w1.cell? ⟨w.heap.size, 6, none⟩ = some (.int .i64 0) := keep_cell hb (by simp)
   have fr : ∀ j, w1.frozen? ⟨w.heap.size, j, none⟩ = false := fun j => keep_frozen hb (by simp) (by simp)
   have hz : w.heap.size < w1.heap.size := by have := hb.size; simp at this; omega
   clear hb C1
   go_wp2_with fail
   refine (C2.out _).mono ?_
   rintro e w2 ⟨rfl, hb⟩
   have hz1 : w.heap.size < (w1.alloc (.cells #[.int .i64 K, .int .u64 out, .bool b1, .bool b2, .bool b3, .bool b4, .int .i64 attr] 60)).heap.size := by simp; omega
   have d0 : w2.cell? ⟨w1.heap.size, 0, none⟩ = some (.int .i64 K) := keep_cell hb (by simp)
   have d1 : w2.cell? ⟨w1.heap.size, 1, none⟩ = some (.int .u64 out) := keep_cell hb (by simp)
   have d2 : w2.cell? ⟨w1.heap.size, 2, none⟩ = some (.bool b1) := keep_cell hb (by simp)
   have d3 : w2.cell? ⟨w1.heap.size, 3, none⟩ = some (.bool b2) := keep_cell hb (by simp)
   have d4 : w2.cell? ⟨w1.heap.size, 4, none⟩ = some (.bool b3) := keep_cell hb (by simp)
   have d5 : w2.cell? ⟨w1.heap.size, 5, none⟩ = some (.bool b4) := keep_cell hb (by simp)
   have d6 : w2.cell? ⟨w1.heap.size, 6, none⟩ = some (.int .i64 attr) := keep_cell hb (by simp)
   replace r0 := keep_cell hb (keep_cell (below1 w1 _) r0)
   replace r1 := keep_cell hb (keep_cell (below1 w1 _) r1)
   replace r2 := keep_cell hb (keep_cell (below1 w1 _) r2)
   replace r3 := keep_cell hb (keep_cell (below1 w1 _) r3)
   replace r4 := keep_cell hb (keep_cell (below1 w1 _) r4)
   replace r5 := keep_cell hb (keep_cell (below1 w1 _) r5)
   replace r6 := keep_cell hb (keep_cell (below1 w1 _) r6)
   replace fr : ∀ j, w2.frozen? ⟨w.heap.size, j, none⟩ = false := fun j => keep_frozen hb hz1 (keep_frozen (below1 w1 _) hz (fr j))
   replace HB := Lib.hid (HB.out.trans (((below1 w1 _).trans (hb.mono (below1 w1 _).size)).mono HB.size))
   have hz2 : w.heap.size < w2.heap.size := Nat.lt_of_lt_of_le hz1 hb.size
   have hz3 : w1.heap.size < w2.heap.size := Nat.lt_of_lt_of_le (by simp) hb.size
   clear hb hz hz1 C2
   go_wp2_with fail
   refine (C3.out _).mono ?_
   rintro e w3 ⟨rfl, hb⟩
   replace r0 := keep_cell hb r0
   replace r1 := keep_cell hb r1
   replace r2 := keep_cell hb r2
   replace r3 := keep_cell hb r3
   replace r4 := keep_cell hb r4
   replace r5 := keep_cell hb r5
   replace r6 := keep_cell hb r6
   replace d0 := keep_cell hb d0
   replace d1 := keep_cell hb d1
   replace d2 := keep_cell hb d2
   replace d3 := keep_cell hb d3
   replace d4 := keep_cell hb d4
   replace d5 := keep_cell hb d5
   replace d6 := keep_cell hb d6
   replace fr := fun j => keep_frozen hb hz2 (fr j)
   replace HB := Lib.hid (HB.out.trans (hb.mono HB.size))
   replace hz2 := Nat.lt_of_lt_of_le hz2 hb.size
   clear hb C3
   go_wp2
   refine bodyPost_ret (v := .tuple #[dV ⟨K, out, b1, b2, b3, b4, attr⟩, .int .i64 0]) (by simp [results, Tryz.results102, go_sem, hz2, r0, r1, r2, r3, r4, r5, r6, dV, zeroD]) rfl ⟨rfl, ?_⟩
   exact (((((((HB.out.setCell (Nat.le_refl _) _).setCell (Nat.le_refl _) _).setCell (Nat.le_refl _) _).setCell (Nat.le_refl _) _).setCell (Nat.le_refl _) _).setCell (Nat.le_refl _) _).setCell (Nat.le_refl _) _)
  ·rw [if_neg (by simp [hW])]
   have e5 : ((W : Int) != (x : Int)) = true := by simp; omega
   go_enter Tryz.func102, Tryz.ntmps102
   go_wp2_with fail
   refine (C1.out _).mono ?_
   rintro e w1 ⟨rfl, hb⟩
   have HB := Lib.hid ((below1 w _).trans (hb.mono (below1 w _).size))
   have r0 : w1.cell? ⟨w.heap.size, 0, none⟩ = some (.int .i64 0) := keep_cell hb (by simp)
   have r1 : w1.cell? ⟨w.heap.size, 1, none⟩ = some (.int .u64 0) := keep_cell hb (by simp)
   have r2 : w1.cell? ⟨w.heap.size, 2, none⟩ = some (.bool false) := keep_cell hb (by simp)
   have r3 : w1.cell? ⟨w.heap.size, 3, none⟩ = some (.bool false) := keep_cell hb (by simp)
   have r4 : w1.cell? ⟨w.heap.size, 4, none⟩ = some (.bool false) := keep_cell hb (by simp)
   have r5 : w1.cell? ⟨w.heap.size, 5, none⟩ = some (.bool false) := keep_cell hb (by simp)
   have r6 : w1.cell? ⟨w.heap.size, 6, none⟩ = some (.int .i64 0) := keep_cell hb (by simp)
   have fr : ∀ j, w1.frozen? ⟨w.heap.size, j, none⟩ = false := fun j => keep_frozen hb (by simp) (by simp)
   have hz : w.heap.size < w1.heap.size := by have := hb.size; simp at this; omega
   clear hb C1
   go_wp2_with fail
   refine (C2.out _).mono ?_
   rintro e w2 ⟨rfl, hb⟩
   have hz1 : w.heap.size < (w1.alloc (.cells #[.int .i64 K, .int .u64 out, .bool b1, .bool b2, .bool b3, .bool b4, .int .i64 attr] 60)).heap.size := by simp; omega
   have d0 : w2.cell? ⟨w1.heap.size, 0, none⟩ = some (.int .i64 K) := keep_cell hb (by simp)
   have d1 : w2.cell? ⟨w1.heap.size, 1, none⟩ = some (.int .u64 out) := keep_cell hb (by simp)
   have d2 : w2.cell? ⟨w1.heap.size, 2, none⟩ = some (.bool b1) := keep_cell hb (by simp)
   have d3 : w2.cell? ⟨w1.heap.size, 3, none⟩ = some (.bool b2) := keep_cell hb (by simp)
   have d4 : w2.cell? ⟨w1.heap.size, 4, none⟩ = some (.bool b3) := keep_cell hb (by simp)
   have d5 : w2.cell? ⟨w1.heap.size, 5, none⟩ = some (.bool b4) := keep_cell hb (by simp)
   have d6 : w2.cell? ⟨w1.heap.size, 6, none⟩ = some (.int .i64 attr) := keep_cell hb (by simp)
   replace r0 := keep_cell hb (keep_cell (below1 w1 _) r0)
   replace r1 := keep_cell hb (keep_cell (below1 w1 _) r1)
   replace r2 := keep_cell hb (keep_cell (below1 w1 _) r2)
   replace r3 := keep_cell hb (keep_cell (below1 w1 _) r3)
   replace r4 := keep_cell hb (keep_cell (below1 w1 _) r4)
   replace r5 := keep_cell hb (keep_cell (below1 w1 _) r5)
   replace r6 := keep_cell hb (keep_cell (below1 w1 _) r6)
   replace fr : ∀ j, w2.frozen? ⟨w.heap.size, j, none⟩ = false := fun j => keep_frozen hb hz1 (keep_frozen (below1 w1 _) hz (fr j))
   replace HB := Lib.hid (HB.out.trans (((below1 w1 _).trans (hb.mono (below1 w1 _).size)).mono HB.size))
   have hz2 : w.heap.size < w2.heap.size := Nat.lt_of_lt_of_le hz1 hb.size
   have hz3 : w1.heap.size < w2.heap.size := Nat.lt_of_lt_of_le (by simp) hb.size
   clear hb hz hz1 C2
   go_wp2_with fail
   refine (C3.out _).mono ?_
   rintro e w3 ⟨rfl, hb⟩
   replace r0 := keep_cell hb r0
   replace r1 := keep_cell hb r1
   replace r2 := keep_cell hb r2
   replace r3 := keep_cell hb r3
   replace r4 := keep_cell hb r4
   replace r5 := keep_cell hb r5
   replace r6 := keep_cell hb r6
   replace d0 := keep_cell hb d0
   replace d1 := keep_cell hb d1
   replace d2 := keep_cell hb d2
   replace d3 := keep_cell hb d3
   replace d4 := keep_cell hb d4
   replace d5 := keep_cell hb d5
   replace d6 := keep_cell hb d6
   replace fr := fun j => keep_frozen hb hz2 (fr j)
   replace HB := Lib.hid (HB.out.trans (hb.mono HB.size))
   replace hz2 := Nat.lt_of_lt_of_le hz2 hb.size
   clear hb C3
   go_wp2
   refine bodyPost_ret (v := .tuple #[dV zeroD, .int .i64 10]) (by simp [results, Tryz.results102, go_sem, hz2, r0, r1, r2, r3, r4, r5, r6, dV, zeroD]) rfl ⟨rfl, ?_⟩
   exact (((((((HB.out.setCell (Nat.le_refl _) _).setCell (Nat.le_refl _) _).setCell (Nat.le_refl _) _).setCell (Nat.le_refl _) _).setCell (Nat.le_refl _) _).setCell (Nat.le_refl _) _).setCell (Nat.le_refl _) _)
end Go.Proofs.YtbapgngngaaojaaGreat
namespace Go.Proofs.YtbapgngngaaojaaGreat
open Go.RowKit Go.Lib
set_option maxRecDepth 100000
theorem decode_zero (level x : Nat) (w : World) (hl : level ≤ 3)
  (C1 : Hid (∀ w, Calls Tryz.prog 130 #[.int .i64 level, .int .u64 x] w fun e w' => e = .returned (.agg #[.int .i64 0, .int .u64 0, .bool false, .bool false, .bool false, .bool false, .int .i64 0]) ∧ Below w.heap.size w w')) :
  Calls Tryz.prog 102 #[.int .i64 level, .int .u64 x] w (DecPost (zeroD, 0) w) := by
 have e3 : decide ((level : Int) < 0) = false := by simp
 have e4 : decide ((4 : Int) ≤ (level : Int)) = false := by simp; omega
 go_enter Tryz.func102, Tryz.ntmps102
 go_wp2_with fail
 refine (C1.out _).mono ?_
 rintro e w1 ⟨rfl, hb⟩
 have HB := Lib.hid ((below1 w _).trans (hb.mono (below1 w _).size))
 have r0 : w1.cell? ⟨w.heap.size, 0, none⟩ = some (.int .i64 0) := keep_cell hb (by simp)
 have r1 : w1.cell? ⟨w.heap.size, 1, none⟩ = some (.int .u64 0) := keep_cell hb (by simp)
 have r2 : w1.cell? ⟨w.heap.size, 2, none⟩ = some (.bool false) := keep_cell hb (by simp)
 have r3 : w1.cell? ⟨w.heap.size, 3, none⟩ = some (.bool false) := keep_cell hb (by simp)
 have r4 : w1.cell? ⟨w.heap.size, 4, none⟩ = some (.bool false) := keep_cell hb (by simp)
 have r5 : w1.cell? ⟨w.heap.size, 5, none⟩ = some (.bool false) := keep_cell hb (by simp)
 have r6 : w1.cell? ⟨w.heap.size, 6, none⟩ = some (.int .i64 0) := keep_cell hb (by simp)
 have fr : ∀ j, w1.frozen? ⟨w.heap.size, j, none⟩ = false := fun j => keep_frozen hb (by simp) (by simp)
 have hz : w.heap.size < w1.heap.size := by have := hb.size; simp at this; omega
 clear hb C1
 go_wp2
 refine bodyPost_ret (v := .tuple #[dV zeroD, .int .i64 0]) (by simp [results, Tryz.results102, go_sem, hz, r0, r1, r2, r3, r4, r5, r6, dV, zeroD]) rfl ⟨rfl, ?_⟩
 exact (((((((HB.out.setCell (Nat.le_refl _) _).setCell (Nat.le_refl _) _).setCell (Nat.le_refl _) _).setCell (Nat.le_refl _) _).setCell (Nat.le_refl _) _).setCell (Nat.le_refl _) _).setCell (Nat.le_refl _) _).alloc (by simp; omega) _
theorem leafD_kind (x : Nat) : (leafD x).kind = 2 ∨ (leafD x).kind = 3 := by unfold leafD; dsimp only; split <;> simp
theorem leafD_attr (x : Nat) : (leafD x).attr < 8 := by unfold leafD; dsimp only; omega
theorem rightL_attr {d : Dd} {level : Nat} (h : rightL d level = true) : d.attr < 8 := by
 unfold rightL at h
 simp only [Bool.and_eq_true, decide_eq_true_eq] at h
 exact h.2
/-- What a descriptor says. -/
theorem decode_any (level x : Nat) (w : World) (hl : level ≤ 3) (hx : x < 18446744073709551616) :
  Calls Tryz.prog 102 #[.int .i64 level, .int .u64 x] w (DecPost (decV level x) w) := by
 have C1 := fun w => said_nat level x w hx hl
 cases h0 : x.testBit 0 with
 | false =>
  have hs : saidD level x = zeroD := by unfold saidD; rw [if_pos h0]
  have hd : decV level x = (zeroD, 0) := by unfold decV decP; rw [if_pos h0]
  rw [hs] at C1
  rw [hd]
  exact decode_zero level x w hl C1
 | true =>
  by_cases ht : x.testBit 1 = true ∧ level < 3
  ·have hs : saidD level x = tableD (outW x) := by unfold saidD; rw [if_neg (by simp [h0]), if_pos ht]
   have hd : decV level x = if true = true ∧ ((outW x ||| 2) ||| 1) = x then (tableD (outW x), 0) else (zeroD, 10) := by
    unfold decV decP
    rw [if_neg (by simp [h0]), if_pos ht]
    by_cases hW : ((outW x ||| 2) ||| 1) = x
    ·rw [if_pos hW, if_pos ⟨rfl, hW⟩]
    ·rw [if_neg hW, if_neg (by simp [hW])]
   rw [hs] at C1
   rw [hd]
   exact decode_core level x 1 (outW x) 0 _ false false false false true w hl C1 (fun w => right_table (outW x) level w ht.2 (outW_lt x) (outW_al x)) (fun _ w => word_table (outW x) w (Nat.lt_trans (outW_lt x) (by omega))) (by decide)
  ·have hs : saidD level x = leafD x := by unfold saidD; rw [if_neg (by simp [h0]), if_neg ht]
   have hd : decV level x = if rightL (leafD x) level = true ∧ wordD (leafD x) = x then (leafD x, 0) else (zeroD, 10) := by
    unfold decV decP
    rw [if_neg (by simp [h0]), if_neg ht]
    by_cases hW : rightL (leafD x) level = true ∧ wordD (leafD x) = x
    ·rw [if_pos hW, if_pos hW]
    ·rw [if_neg hW, if_neg hW]
   rw [hs] at C1
   rw [hd]
   have hk := leafD_kind x
   have ho : (leafD x).out < 18446744073709551616 := Nat.lt_trans (show (leafD x).out < 281474976710656 from outW_lt x) (by omega)
   exact decode_core level x (leafD x).kind (leafD x).out (leafD x).attr _ (leafD x).user (leafD x).write (leafD x).exec (leafD x).used _ w hl C1
    (fun w => right_leaf (leafD x).kind (leafD x).out (leafD x).attr level (leafD x).user (leafD x).write (leafD x).exec (leafD x).used w hk hl ho)
    (fun hR w => word_leaf (leafD x).kind (leafD x).out (leafD x).attr (leafD x).user (leafD x).write (leafD x).exec (leafD x).used w hk ho (leafD_attr x)) (by rcases hk with h | h <;> rw [h] <;> decide)
theorem base_ok (at_ asid : Nat) (w : World) (h1 : at_ % 4096 = 0) (h2 : at_ < 281474976710656) (h3 : asid < 256) :
  Calls Tryz.prog 80 #[.int .u64 at_, .int .i64 asid] w fun e w' => e = .returned (.tuple #[.int .u64 (at_ + asid * 281474976710656 : Nat), .int .i64 0]) ∧ Below w.heap.size w w' := by
 have C1 : Hid (∀ w, Calls Tryz.prog 73 #[.int .u64 at_, .int .i64 12] w fun e w' => e = .returned (.bool true) ∧ w' = w) := fun w => by
  have h := aligned_nat at_ 12 w (by omega) (by omega)
  rw [show (at_ % 2 ^ 12 == 0) = true by simp; omega] at h
  exact h
 have C2 := Lib.hid asid_nat
 have C3 : Hid (∀ w, Calls Tryz.prog 120 #[.agg #[.int .i64 48, .int .i64 8], .int .u64 at_, .int .u64 asid] w fun e w' => e = .returned (.tuple #[.int .u64 (at_ + asid * 281474976710656 : Nat), .int .i64 0]) ∧ Below w.heap.size w w') := fun w => by
  have h := put_nat 48 8 at_ asid w (by omega) (by omega) (by omega) (by omega) h3
  rw [andN_field at_ 48 8 (by omega), show at_ % 2 ^ 48 + at_ / 2 ^ (48 + 8) * 2 ^ (48 + 8) = at_ by omega, or_sum 48 (by omega)] at h
  exact h
 have e1 : ((at_ : Int) / 281474976710656 != 0) = false := by simp; omega
 have e2 : decide ((asid : Int) < 0) = false := by simp
 have e3 : decide ((256 : Int) ≤ (asid : Int)) = false := by simp; omega
 have e4 : IntKind.u64.wrap (asid : Int) = (asid : Int) := by rw [IntKind.wrap_u64]; omega
 generalize at_ + asid * 281474976710656 = R at C3 ⊢
 go_enter Tryz.func80, Tryz.ntmps80
 go_wp2_with (go_at_call 73; refine (C1.out _).mono ?_; rintro e w' ⟨rfl, rfl⟩)
 refine (C2.out _).mono ?_
 rintro e w1 ⟨rfl, hb1⟩
 go_wp2_with fail
 refine (C3.out _).mono ?_
 rintro e w2 ⟨rfl, hb2⟩
 go_wp2
 go_ret2
 exact ⟨rfl, hb1.trans (hb2.mono hb1.size)⟩
theorem base_odd (at_ asid : Nat) (w : World) (hx : at_ < 18446744073709551616) (h1 : at_ % 4096 ≠ 0) :
  Calls Tryz.prog 80 #[.int .u64 at_, .int .i64 asid] w fun e w' => e = .returned (.tuple #[.int .u64 0, .int .i64 13]) ∧ Below w.heap.size w w' := by
 have C1 : Hid (∀ w, Calls Tryz.prog 73 #[.int .u64 at_, .int .i64 12] w fun e w' => e = .returned (.bool false) ∧ w' = w) := fun w => by
  have h := aligned_nat at_ 12 w hx (by omega)
  rw [show (at_ % 2 ^ 12 == 0) = false by simp; omega] at h
  exact h
 go_enter Tryz.func80, Tryz.ntmps80
 go_wp2_with (go_at_call 73; refine (C1.out _).mono ?_; rintro e w' ⟨rfl, rfl⟩)
 go_ret2
 exact ⟨rfl, Below.refl _ _⟩
theorem base_far (at_ asid : Nat) (w : World) (hx : at_ < 18446744073709551616) (h1 : at_ % 4096 = 0) (h2 : 281474976710656 ≤ at_) :
  Calls Tryz.prog 80 #[.int .u64 at_, .int .i64 asid] w fun e w' => e = .returned (.tuple #[.int .u64 0, .int .i64 12]) ∧ Below w.heap.size w w' := by
 have C1 : Hid (∀ w, Calls Tryz.prog 73 #[.int .u64 at_, .int .i64 12] w fun e w' => e = .returned (.bool true) ∧ w' = w) := fun w => by
  have h := aligned_nat at_ 12 w hx (by omega)
  rw [show (at_ % 2 ^ 12 == 0) = true by simp; omega] at h
  exact h
 have e1 : ((at_ : Int) / 281474976710656 != 0) = true := by simp; omega
 go_enter Tryz.func80, Tryz.ntmps80
 go_wp2_with (go_at_call 73; refine (C1.out _).mono ?_; rintro e w' ⟨rfl, rfl⟩)
 go_ret2
 exact ⟨rfl, Below.refl _ _⟩
end Go.Proofs.YtbapgngngaaojaaGreat
