/- The walks of package desc: ReadBase. The walks of package virt. The walks of the first reference's words as bits. The walks of the first reference: Word. The walks of the first reference: Get, Down; of the fourth: Low. The walks of the first reference: Down; of the fourth: Low. The walks of virt.Let and of what an entry and a mark tell. The walks of the fifth reference: Index, Base, Offset, Let. The walk of the fifth reference's Let. A descriptor's word, bit by bit. -/
import Derived.Test.YtbapgngngaaojaaGreatG03
import Derived.Deep.MidRow
set_option linter.unusedSimpArgs false
set_option linter.unusedVariables false
namespace Go.Proofs.YtbapgngngaaojaaGreat
open Go.RowKit Go.Lib
set_option maxRecDepth 100000
def regV (x : Nat) : Nat × Nat × Nat := if x % 4096 = 0 ∧ x < 72057594037927936 then (x % 281474976710656, x / 281474976710656, 0) else (0, 0, 10)
theorem rest_asid (x g cap : Nat) (w : World) (hx : x < 18446744073709551616)
  (k0 : w.cell? ⟨g, 0, none⟩ = some (.int .i64 48)) (k1 : w.cell? ⟨g, 1, none⟩ = some (.int .i64 8)) :
  Calls Tryz.prog 77 #[.int .u64 x, .slice (some ⟨g, 0, none⟩) 1 cap] w fun e w' => e = .returned (.int .u64 (x % 281474976710656 + x / 72057594037927936 * 72057594037927936 : Nat)) ∧ Below w.heap.size w w' := by
 have h := rest_one x 48 8 g cap w hx (by omega) (by omega) (by omega) k0 k1
 rw [andN_field x 48 8 hx] at h
 exact h
set_option maxHeartbeats 1000000 in
theorem readBase_any (x : Nat) (w : World) (hx : x < 18446744073709551616) :
  Calls Tryz.prog 33 #[.int .u64 x] w fun e w' => e = .returned (.tuple #[.int .u64 (regV x).1, .int .i64 (regV x).2.1, .int .i64 (regV x).2.2]) ∧ Below w.heap.size w w' := by
 have C2 := Lib.hid asid_nat
 have C3 := Lib.hid (fun g cap w k0 k1 => rest_asid x g cap w hx k0 k1)
 have C4 : Hid (∀ w, Calls Tryz.prog 79 #[.agg #[.int .i64 48, .int .i64 8], .int .u64 x] w fun e w' => e = .returned (.int .u64 (x / 281474976710656 % 256 : Nat)) ∧ Below w.heap.size w w') :=
  fun w => get_nat 48 8 x w hx (by omega) (by omega) (by omega)
 obtain ⟨at_, hat⟩ : ∃ a, x % 281474976710656 + x / 72057594037927936 * 72057594037927936 = a := ⟨_, rfl⟩
 obtain ⟨asid, has⟩ : ∃ a, x / 281474976710656 % 256 = a := ⟨_, rfl⟩
 rw [hat] at C3
 rw [has] at C4
 have e4 : IntKind.i64.wrap (asid : Int) = (asid : Int) := IntWalk.i64_in _ (by omega)
 by_cases h : x % 4096 = 0 ∧ x < 72057594037927936
 ·unfold regV
  rw [if_pos h]
  obtain ⟨h1, h2⟩ := h
  have q1 : at_ = x % 281474976710656 := by omega
  have q2 : asid = x / 281474976710656 := by omega
  have q3 : at_ % 4096 = 0 := by omega
  have q4 : at_ < 281474976710656 := by omega
  have q5 : asid < 256 := by omega
  have q6 : at_ + asid * 281474976710656 = x := by omega
  have C5 := Lib.hid (fun w => base_ok at_ asid w q3 q4 q5)
  rw [q6] at C5
  dsimp only
  rw [← q1, ← q2]
  have e5 : ((x : Int) != (x : Int)) = false := by simp
  clear hat has q1 q2 q3 q4 q5 q6
  go_enter Tryz.func33, Tryz.ntmps33
  go_wp2_with fail
  refine (C2.out _).mono ?_
  rintro e w1 ⟨rfl, hb1⟩
  go_wp2_with fail
  refine (C3.out _ _ _ (by simp) (by simp)).mono ?_
  rintro e w2 ⟨rfl, hb2⟩
  replace hb1 := hb1.trans (((below1 w1 _).trans (hb2.mono (below1 w1 _).size)).mono hb1.size)
  clear hb2
  go_wp2_with fail
  refine (C2.out _).mono ?_
  rintro e w3 ⟨rfl, hb2⟩
  replace hb1 := hb1.trans (hb2.mono hb1.size)
  clear hb2
  go_wp2_with fail
  refine (C4.out _).mono ?_
  rintro e w4 ⟨rfl, hb2⟩
  replace hb1 := hb1.trans (hb2.mono hb1.size)
  clear hb2
  go_wp2_with fail
  refine (C5.out _).mono ?_
  rintro e w5 ⟨rfl, hb2⟩
  replace hb1 := Lib.hid (hb1.trans (hb2.mono hb1.size))
  clear hb2 C2 C3 C4 C5
  go_wp2
  go_ret3
  exact ⟨rfl, hb1.out⟩
 ·unfold regV
  rw [if_neg h]
  by_cases h1 : at_ % 4096 = 0
  ·have C5 := Lib.hid (fun w => base_far at_ asid w (by omega) h1 (by omega))
   clear hat has
   go_enter Tryz.func33, Tryz.ntmps33
   go_wp2_with fail
   refine (C2.out _).mono ?_
   rintro e w1 ⟨rfl, hb1⟩
   go_wp2_with fail
   refine (C3.out _ _ _ (by simp) (by simp)).mono ?_
   rintro e w2 ⟨rfl, hb2⟩
   replace hb1 := hb1.trans (((below1 w1 _).trans (hb2.mono (below1 w1 _).size)).mono hb1.size)
   clear hb2
   go_wp2_with fail
   refine (C2.out _).mono ?_
   rintro e w3 ⟨rfl, hb2⟩
   replace hb1 := hb1.trans (hb2.mono hb1.size)
   clear hb2
   go_wp2_with fail
   refine (C4.out _).mono ?_
   rintro e w4 ⟨rfl, hb2⟩
   replace hb1 := hb1.trans (hb2.mono hb1.size)
   clear hb2
   go_wp2_with fail
   refine (C5.out _).mono ?_
   rintro e w5 ⟨rfl, hb2⟩
   replace hb1 := Lib.hid (hb1.trans (hb2.mono hb1.size))
   clear hb2 C2 C3 C4 C5
   go_wp2
   go_ret3
   exact ⟨rfl, hb1.out⟩
  ·have C5 := Lib.hid (fun w => base_odd at_ asid w (by omega) h1)
   clear hat has
   go_enter Tryz.func33, Tryz.ntmps33
   go_wp2_with fail
   refine (C2.out _).mono ?_
   rintro e w1 ⟨rfl, hb1⟩
   go_wp2_with fail
   refine (C3.out _ _ _ (by simp) (by simp)).mono ?_
   rintro e w2 ⟨rfl, hb2⟩
   replace hb1 := hb1.trans (((below1 w1 _).trans (hb2.mono (below1 w1 _).size)).mono hb1.size)
   clear hb2
   go_wp2_with fail
   refine (C2.out _).mono ?_
   rintro e w3 ⟨rfl, hb2⟩
   replace hb1 := hb1.trans (hb2.mono hb1.size)
   clear hb2
   go_wp2_with fail
   refine (C4.out _).mono ?_
   rintro e w4 ⟨rfl, hb2⟩
   replace hb1 := hb1.trans (hb2.mono hb1.size)
   clear hb2
   go_wp2_with fail
   refine (C5.out _).mono ?_
   rintro e w5 ⟨rfl, hb2⟩
   replace hb1 := Lib.hid (hb1.trans (hb2.mono hb1.size))
   clear hb2 C2 C3 C4 C5
   go_wp2
   go_ret3
   exact ⟨rfl, hb1.out⟩
end Go.Proofs.YtbapgngngaaojaaGreat
namespace Go.Proofs.YtbapgngngaaojaaGreat
open Go.RowKit Go.Lib
set_option maxRecDepth 100000
def lowB (va : Nat) : Bool := decide (va < 281474976710656)
theorem bitsL_lt (level : Nat) : bitsL level < 64 := by unfold bitsL; split <;> (try split) <;> (try split) <;> omega
def indexP (va level : Nat) : Nat := va / 2 ^ bitsL level % 512
def baseP (va level : Nat) : Nat := va % 281474976710656 - va % 281474976710656 % 2 ^ bitsL level
def offP (va level : Nat) : Nat := va % 2 ^ bitsL level
theorem low_nat (va : Nat) (w : World) : Calls Tryz.prog 133 #[.int .u64 va] w fun e w' => e = .returned (.bool (lowB va)) ∧ w' = w := by
 have e1 : ((va : Int) / 281474976710656 == 0) = lowB va := by unfold lowB; rw [Bool.eq_iff_iff]; simp; omega
 go_enter Tryz.func133, Tryz.ntmps133
 go_wp2
 go_ret
 exact ⟨by rw [← e1]; rfl, rfl⟩
theorem known_nat (level : Nat) (w : World) (hl : level ≤ 3) : Calls Tryz.prog 104 #[.int .i64 level] w fun e w' => e = .returned (.bool true) ∧ w' = w := by
 have e3 : decide ((0 : Int) ≤ (level : Int)) = true := by simp
 have e4 : decide ((level : Int) < (4 : Int)) = true := by simp; omega
 go_enter Tryz.func104, Tryz.ntmps104
 go_wp2
 go_ret
 exact ⟨by first | rfl | (refine ret_bool ?_; first | exact e4 | simp), rfl⟩
theorem index_nat (va level : Nat) (w : World) (hl : level ≤ 3) (hv : va < 18446744073709551616) :
  Calls Tryz.prog 135 #[.int .u64 va, .int .i64 level] w fun e w' => e = .returned (.int .i64 (indexP va level)) ∧ Below w.heap.size w w' := by
 have C1 := Lib.hid (fun w => known_nat level w hl)
 have C2 := Lib.hid (fun w => bits_nat level w hl)
 have hb : bitsL level + 9 ≤ 64 := by unfold bitsL; split <;> (try split) <;> (try split) <;> omega
 have C3 : Hid (∀ w, Calls Tryz.prog 79 #[.agg #[.int .i64 (bitsL level), .int .i64 9], .int .u64 va] w fun e w' => e = .returned (.int .u64 (indexP va level)) ∧ Below w.heap.size w w') :=
  fun w => get_nat (bitsL level) 9 va w hv (by omega) (by omega) (by omega)
 have e1 : IntKind.i64.wrap (indexP va level : Int) = (indexP va level : Int) := IntWalk.i64_in _ (by unfold indexP; omega)
 generalize indexP va level = R at C3 e1 ⊢
 generalize bitsL level = B at C2 C3
 go_enter Tryz.func135, Tryz.ntmps135
 go_wp2_with (first | (go_at_call 104; refine (C1.out _).mono ?_; rintro e w' ⟨rfl, rfl⟩) | (go_at_call 106; refine (C2.out _).mono ?_; rintro e w' ⟨rfl, rfl⟩))
 refine (C3.out _).mono ?_
 rintro e w1 ⟨rfl, hb1⟩
 go_wp2
 go_ret
 exact ⟨rfl, hb1⟩
theorem vbase_nat (va level : Nat) (w : World) (hl : level ≤ 3) (hv : va < 18446744073709551616) :
  Calls Tryz.prog 111 #[.int .u64 va, .int .i64 level] w fun e w' => e = .returned (.int .u64 (baseP va level)) ∧ w' = w := by
 have C1 := Lib.hid (fun w => known_nat level w hl)
 have C2 := Lib.hid (fun w => bits_nat level w hl)
 have C4 : Hid (∀ w, Calls Tryz.prog 105 #[.int .i64 48] w fun e w' => e = .returned (.int .u64 281474976710655) ∧ w' = w) := fun w => ones_nat 48 w (by omega)
 have C3 : Hid (∀ w, Calls Tryz.prog 140 #[.int .u64 (va % 281474976710656 : Nat), .int .i64 (bitsL level)] w fun e w' => e = .returned (.int .u64 (baseP va level)) ∧ w' = w) :=
  fun w => down_nat (va % 281474976710656) (bitsL level) w (by omega) (bitsL_lt level)
 have e1 : bits .and .u64 (va : Int) 281474976710655 = ((va % 281474976710656 : Nat) : Int) := by
  have h := bits_and_u64_nat va 281474976710655 hv (by omega)
  rw [show va &&& 281474976710655 = va % 281474976710656 from and_ones va 48] at h
  exact h
 generalize baseP va level = R at C3 ⊢
 generalize va % 281474976710656 = Y at C3 e1
 generalize bitsL level = B at C2 C3
 go_enter Tryz.func111, Tryz.ntmps111
 go_wp2_with (first | (go_at_call 104; refine (C1.out _).mono ?_; rintro e w' ⟨rfl, rfl⟩) | (go_at_call 106; refine (C2.out _).mono ?_; rintro e w' ⟨rfl, rfl⟩) | (go_at_call 140; refine (C3.out _).mono ?_; rintro e w' ⟨rfl, rfl⟩) | (go_at_call 105; refine (C4.out _).mono ?_; rintro e w' ⟨rfl, rfl⟩))
 go_ret
 exact ⟨rfl, rfl⟩
theorem offset_nat (va level : Nat) (w : World) (hl : level ≤ 3) (hv : va < 18446744073709551616) :
  Calls Tryz.prog 63 #[.int .u64 va, .int .i64 level] w fun e w' => e = .returned (.int .u64 (offP va level)) ∧ w' = w := by
 have C1 := Lib.hid (fun w => known_nat level w hl)
 have C2 := Lib.hid (fun w => bits_nat level w hl)
 have C4 := Lib.hid (fun w => ones_nat (bitsL level) w (bitsL_lt level))
 have hp := pow_lt64 (bitsL_lt level)
 have e1 : bits .and .u64 (va : Int) ((2 ^ bitsL level - 1 : Nat) : Int) = (offP va level : Int) := by
  rw [bits_and_u64_nat _ _ hv (by omega), and_ones]; rfl
 generalize offP va level = R at e1 ⊢
 generalize 2 ^ bitsL level - 1 = M at C4 e1
 generalize bitsL level = B at C2 C4
 go_enter Tryz.func63, Tryz.ntmps63
 go_wp2_with (first | (go_at_call 104; refine (C1.out _).mono ?_; rintro e w' ⟨rfl, rfl⟩) | (go_at_call 106; refine (C2.out _).mono ?_; rintro e w' ⟨rfl, rfl⟩) | (go_at_call 105; refine (C4.out _).mono ?_; rintro e w' ⟨rfl, rfl⟩))
 go_ret
 exact ⟨rfl, rfl⟩
end Go.Proofs.YtbapgngngaaojaaGreat
namespace Go.Proofs.YtbapgngngaaojaaGreat
open Go.RowKit Go.Lib
set_option maxRecDepth 100000
theorem range_new (w : World) (C : Array Value) (t : TypeId) : (w.alloc (.cells C t)).rangeAt w.heap.size 0 C.toList := by
 have h := World.rangeAt_of_block (heap_alloc_new w (.cells C t)) 0 C.size
 simpa using h
theorem there_new (w : World) (C : Array Value) (t : TypeId) : (w.alloc (.cells C t)).there w.heap.size 0 C.size := by
 intro j hj
 refine ⟨?_, ?_⟩
 ·have h := range_new w C t j C[j] (by simp [hj])
  rw [h]; rfl
 ·simp
theorem Below.range {w w' : World} {b o : Nat} {cs : List Value} (h : w.rangeAt b o cs) (hb : Below w.heap.size w w') : w'.rangeAt b o cs := fun j v hj => keep_cell hb (h j v hj)
theorem Below.thereB {w w' : World} {b o n : Nat} (h : w.there b o n) (hlt : b < w.heap.size) (hb : Below w.heap.size w w') : w'.there b o n := fun j hj => by
 have h1 := h j hj
 refine ⟨?_, keep_frozen hb hlt h1.2⟩
 obtain ⟨v, hv⟩ := Option.isSome_iff_exists.1 h1.1
 rw [keep_cell hb hv]; rfl
def arrB (x i : Nat) : List Value := (List.range 64).map fun j => .bool (decide (j < i) && x.testBit j)
theorem arrB_at (x i j : Nat) (h : j < 64) : (arrB x i)[j]? = some (.bool (decide (j < i) && x.testBit j)) := by simp [arrB, h]
theorem arrB_len (x i : Nat) : (arrB x i).length = 64 := by simp [arrB]
/-- The bits set so far, in the second of two new rows. -/
def BitsInv (x i G : Nat) (w wr : World) : Prop := wr.rangeAt (G + 1) 0 (arrB x i) ∧ wr.there (G + 1) 0 64 ∧ wr.there G 0 64 ∧ Below w.heap.size w wr
theorem BitsInv.step {x i G : Nat} {w wr : World} (h : BitsInv x i G w wr) (hi : i < 64) (hG : w.heap.size ≤ G) : BitsInv x (i + 1) G w (wr.setCell ⟨G + 1, i, none⟩ (.bool (x.testBit i))) := by
 obtain ⟨h1, h2, h3, h4⟩ := h
 refine ⟨?_, ?_, ?_, h4.setCell (by show w.heap.size ≤ G + 1; omega) _⟩
 ·intro j v hj
  have hj64 : j < 64 := by
   have := (List.getElem?_eq_some_iff.1 hj).1
   rwa [arrB_len] at this
  rw [arrB_at _ _ _ hj64] at hj
  rw [Nat.zero_add]
  have h5 := h1 j _ (arrB_at x i j hj64)
  rw [Nat.zero_add] at h5
  by_cases he : j = i
  ·subst he
   rw [World.cell?_setCell_same _ _ _ h5, ← hj]
   simp
  ·rw [World.cell?_setCell_other _ _ _ _ (fun e => he (by injection e with _ e2 _; exact e2.symm)), h5, ← hj]
   congr 2
   rw [show decide (j < i) = decide (j < i + 1) by rw [decide_eq_decide]; omega]
 ·intro j hj
  have := h2 j hj
  refine ⟨?_, by rw [World.frozen?_setCell]; exact this.2⟩
  by_cases he : 0 + j = i
  ·subst he
   obtain ⟨v, hv⟩ := Option.isSome_iff_exists.1 this.1
   rw [World.cell?_setCell_same _ _ _ hv]; rfl
  ·rw [World.cell?_setCell_other _ _ _ _ (fun e => he (by injection e with _ e2 _; exact e2.symm))]; exact this.1
 ·intro j hj
  have := h3 j hj
  refine ⟨?_, by rw [World.frozen?_setCell]; exact this.2⟩
  rw [World.cell?_setCell_other _ _ _ _ (fun e => by injection e with e1 _ _; omega)]; exact this.1
theorem below_setCells {w wr : World} {b0 : Nat} (h : Below b0 w wr) {b : Nat} (hb : b0 ≤ b) : ∀ (o : Nat) (vs : List Value), Below b0 w (wr.setCells b o vs) := by
 intro o vs
 induction vs generalizing o wr with
 | nil => exact h
 | cons v vs ih => exact ih (h.setCell hb _) _
theorem info215 : (Tryz.prog.info? 215).map (·.size) = some 64 := by kernel_rfl
theorem bit_of (x i : Nat) : ((((x / 2 ^ i : Nat) : Int) % 2) == 1) = x.testBit i := by
 rw [Nat.testBit_eq_decide_div_mod_eq, Bool.eq_iff_iff, beq_iff_eq, decide_eq_true_eq]
 generalize x / 2 ^ i = y
 omega
set_option maxHeartbeats 1000000 in
theorem rbits_any (x : Nat) (w : World) (hx : x < 18446744073709551616) :
  Calls Tryz.prog 127 #[.int .u64 x] w fun e w' => e = .returned (.agg (arrB x 64).toArray) ∧ Below w.heap.size w w' := by
 go_enter Tryz.func127, Tryz.ntmps127
 go_wp2
 generalize hW : World.alloc (World.alloc _ _) _ = W
 have HI : Hid (BitsInv x 0 w.heap.size w W) := by
  rw [← hW]
  refine ⟨?_, ?_, ?_, (below1 w _).alloc (by simp) _⟩
  ·have h := range_new (w.alloc (.cells (Array.replicate 64 (Value.bool false)) 215)) (Array.replicate 64 (Value.bool false)) 215
   simp only [World.size_alloc] at h
   exact h
  ·have h := there_new (w.alloc (.cells (Array.replicate 64 (Value.bool false)) 215)) (Array.replicate 64 (Value.bool false)) 215
   simp only [World.size_alloc] at h
   exact h
  ·have h := World.there_alloc (there_new w (Array.replicate 64 (Value.bool false)) 215) (.cells (Array.replicate 64 (Value.bool false)) 215)
   exact h
 clear hW
 go_loopw [0, 4] (fun xv iv wr => ∃ i : Nat, iv = .int .i64 i ∧ i ≤ 64 ∧ xv = .int .u64 (x / 2 ^ i : Nat) ∧ Hid (BitsInv x i w.heap.size w wr)) (fun _ iv _ => 64 - (RowKit.intOf iv).toNat)
 case atStart => exact ⟨0, rfl, by omega, by simp, HI⟩
 case round =>
  obtain ⟨i, rfl, hi, rfl, HI⟩ := hrel
  by_cases hlt : i < 64
  ·have c1 := HI.out.1 i _ (arrB_at x i i hlt)
   have f1 := (HI.out.2.1 i hlt).2
   rw [Nat.zero_add] at c1 f1
   have hbit := bit_of x i
   have hnext : ((x / 2 ^ i : Nat) : Int) / 2 = ((x / 2 ^ (i + 1) : Nat) : Int) := by rw [Nat.pow_succ, ← Nat.div_div_eq_div_mul]; rfl
   have HN := Lib.hid (HI.out.step hlt (Nat.le_refl _))
   have hw1 : IntKind.u64.wrap ((x / 2 ^ (i + 1) : Nat) : Int) = ((x / 2 ^ (i + 1) : Nat) : Int) := by
    have := Nat.div_le_self x (2 ^ (i + 1))
    generalize x / 2 ^ (i + 1) = y at this ⊢
    rw [IntKind.wrap_u64]; omega
   have hx1 : Hid (x / 2 ^ (i + 1) = x / 2 ^ (i + 1)) := rfl
   generalize hg1 : x / 2 ^ (i + 1) = x1 at hnext hw1
   replace hx1 : Hid (x1 = x / 2 ^ (i + 1)) := hg1.symm
   clear hg1
   generalize x / 2 ^ i = x0 at hbit hnext
   generalize x.testBit i = b at hbit HN
   go_wp2
   go_roundw
   case rel => exact ⟨i + 1, by first | rfl | go_num, by omega, by rw [← hx1.out], HN⟩
   case measure => simp [RowKit.intOf]; omega
  ·obtain rfl : i = 64 := by omega
   obtain ⟨h1, h2, h3, h4⟩ := HI.out
   have hi1 : (Tryz.prog.info? 215).map (·.size) = some (arrB x 64).length := by rw [info215, arrB_len]
   have hi2 : (Tryz.prog.info? 215).map (·.size) = some (arrB x 64).toArray.size := by simp [info215, arrB_len]
   have h33 : wr.there w.heap.size 0 (arrB x 64).toArray.size := by simpa [arrB_len] using h3
   have hone : (arrB x 64).toArray.all (·.oneCell') = true := all_oneCell_toArray (by intro v hv; simp [arrB] at hv; obtain ⟨k, _, rfl⟩ := hv; rfl)
   have hr2 := World.rangeAt_setCells_same wr w.heap.size 0 (arrB x 64) (by rw [arrB_len]; exact h3)
   have rload2 := run_loadVar_mid (P := Tryz.prog) (wr.setCells w.heap.size 0 (arrB x 64)) w.heap.size 0 215 (arrB x 64) _ hr2 Tryz.underlying215 rfl hi1
   have hfin : Hid (Below w.heap.size w (wr.setCells w.heap.size 0 (arrB x 64))) := below_setCells h4 (Nat.le_refl _) _ _
   have L1 := Lib.hid h1
   have L3 := Lib.hid h33
   clear h1 h2 h3 h4 h33 hr2 HI
   generalize hL : arrB x 64 = L at *
   have HL := Lib.hid hL
   clear hL
   have I1 := Lib.hid hi1
   have I2 := Lib.hid hi2
   have I3 := Lib.hid hone
   have RL := Lib.hid rload2
   clear hi1 hi2 hone rload2
   go_wp2_with (first | (refine wpList_load_mid (by rfl) 215 _ (by rfl) (w.heap.size + 1) 0 (by rfl) L _ L1.out Tryz.underlying215 rfl I1.out ?_) | (refine wpList_store_mid (by rfl) 215 _ _ (by rfl) w.heap.size 0 L.toArray (by rfl) (by rfl) L3.out I2.out I3.out ?_))
   refine bodyPost_ret (v := .agg L.toArray) ?_ rfl ⟨by rw [HL.out], hfin.out⟩
   have rl := RL.out
   clear RL L1 L3 I1 I2 I3 hfin
   generalize World.setCells wr w.heap.size 0 L = W2 at rl ⊢
   simp [results, Tryz.results127, Act.put, asAddr, rl]
end Go.Proofs.YtbapgngngaaojaaGreat
namespace Go.Proofs.YtbapgngngaaojaaGreat
open Go.RowKit Go.Lib
set_option maxRecDepth 100000
theorem half_bit (y i : Nat) : 2 * (y / 2 ^ (i + 1)) + (if y.testBit i then 1 else 0) = y / 2 ^ i := by
 rw [Nat.testBit_eq_decide_div_mod_eq, Nat.pow_succ, ← Nat.div_div_eq_div_mul]
 generalize y / 2 ^ i = z
 by_cases h : z % 2 = 1 <;> simp [h] <;> omega
set_option maxHeartbeats 1000000 in
theorem rword_any (y : Nat) (L : List Value) (w : World) (hy : y < 18446744073709551616) (hlen : L.length = 64) (hL : ∀ j, j < 64 → L[j]? = some (.bool (y.testBit j))) :
  Calls Tryz.prog 128 #[.agg L.toArray] w fun e w' => e = .returned (.int .u64 y) ∧ Below w.heap.size w w' := by
 have HL := Lib.hid hL
 have HN := Lib.hid hlen
 clear hL hlen
 go_enter Tryz.func128, Tryz.ntmps128
 go_wp2
 generalize hW : World.alloc _ _ = W
 have HC : Hid (∀ j, j < 64 → W.cell? ⟨w.heap.size, j, none⟩ = some (.bool (y.testBit j))) := by
  intro j hj
  have h := range_new w L.toArray 215 j (.bool (y.testBit j)) (by simpa using HL.out j hj)
  rw [hW, Nat.zero_add] at h
  exact h
 have HB : Hid (Below w.heap.size w W) := by rw [← hW]; exact below1 _ _
 have hz : w.heap.size < W.heap.size := by rw [← hW]; simp
 clear hW HL HN
 go_loop [3, 4] (fun xv iv => ∃ i : Nat, i ≤ 64 ∧ iv = .int .i64 ((i : Int) - 1) ∧ xv = .int .u64 (y / 2 ^ i : Nat)) (fun _ iv => (RowKit.intOf iv + 1).toNat)
 case atStart => exact ⟨64, by omega, rfl, by rw [Nat.div_eq_of_lt (by simpa using hy)]; rfl⟩
 case round =>
  obtain ⟨i, hi, rfl, rfl⟩ := hrel
  cases i with
  | zero =>
   have e1 : (y / 2 ^ 0) = y := by simp
   rw [e1]
   go_wp2
   go_ret
   exact ⟨rfl, HB.out⟩
  | succ k =>
   rw [show (((k + 1 : Nat) : Int) - 1) = (k : Int) by omega]
   have c := HC.out k (by omega)
   have hh := half_bit y k
   have hy0 := Nat.div_le_self y (2 ^ k)
   have hk1 : (k : Int) < 64 := by omega
   have hk0 : (0 : Int) ≤ (k : Int) := by omega
   generalize y / 2 ^ (k + 1) = y1 at hh ⊢
   have hx1 : Hid (y / 2 ^ k = y / 2 ^ k) := rfl
   generalize hg : y / 2 ^ k = y0 at hh hy0 hx1
   replace hx1 : Hid (y0 = y / 2 ^ k) := hg.symm
   clear hg
   cases hb : y.testBit k with
   | true =>
    rw [hb] at c hh
    rw [if_pos rfl] at hh
    have e1 : IntKind.u64.wrap ((y1 : Int) * 2) = (y1 : Int) * 2 := by rw [IntKind.wrap_u64]; omega
    have e2 : IntKind.u64.wrap ((y1 : Int) * 2 + 1) = (y0 : Int) := by rw [IntKind.wrap_u64]; omega
    go_wp2
    go_round
    case rel => exact ⟨k, by omega, by first | rfl | go_num, by rw [← hx1.out]⟩
    case measure => simp [RowKit.intOf]
   | false =>
    rw [hb] at c hh
    rw [if_neg (by simp)] at hh
    have e1 : IntKind.u64.wrap ((y1 : Int) * 2) = (y0 : Int) := by rw [IntKind.wrap_u64]; omega
    go_wp2
    go_round
    case rel => exact ⟨k, by omega, by first | rfl | go_num, by rw [← hx1.out]⟩
    case measure => simp [RowKit.intOf]
end Go.Proofs.YtbapgngngaaojaaGreat
namespace Go.Proofs.YtbapgngngaaojaaGreat
open Go.RowKit Go.Lib
set_option maxRecDepth 100000
/-- Bits as a row of cells. -/
def BitCells (f : Nat → Bool) (g : Nat) (wr : World) : Prop := ∀ j, j < 64 → wr.cell? ⟨g, j, none⟩ = some (.bool (f j)) ∧ wr.frozen? ⟨g, j, none⟩ = false
theorem BitCells.new (w : World) (L : List Value) (t : TypeId) (f : Nat → Bool) (hlen : L.length = 64) (h : ∀ j, j < 64 → L[j]? = some (.bool (f j))) : BitCells f w.heap.size (w.alloc (.cells L.toArray t)) := by
 intro j hj
 have h1 := range_new w L.toArray t j (.bool (f j)) (by simpa using h j hj)
 have h2 := there_new w L.toArray t j (by simpa [hlen] using hj)
 rw [Nat.zero_add] at h1 h2
 exact ⟨h1, h2.2⟩
theorem BitCells.set {f : Nat → Bool} {g : Nat} {wr : World} (h : BitCells f g wr) (i : Nat) (b : Bool) (hi : i < 64) : BitCells (fun j => if j = i then b else f j) g (wr.setCell ⟨g, i, none⟩ (.bool b)) := by
 intro j hj
 refine ⟨?_, by rw [World.frozen?_setCell]; exact (h j hj).2⟩
 by_cases he : j = i
 ·subst he
  rw [World.cell?_setCell_same _ _ _ (h j hj).1]
  simp
 ·rw [World.cell?_setCell_other _ _ _ _ (fun e => he (by injection e with _ e2 _; exact e2.symm)), (h j hj).1]
  simp [he]
theorem BitCells.far {f : Nat → Bool} {g g2 : Nat} {wr : World} (h : BitCells f g wr) (hne : g2 ≠ g) (i : Nat) (v : Value) : BitCells f g (wr.setCell ⟨g2, i, none⟩ v) := by
 intro j hj
 refine ⟨?_, by rw [World.frozen?_setCell]; exact (h j hj).2⟩
 rw [World.cell?_setCell_other _ _ _ _ (fun e => hne (by injection e))]
 exact (h j hj).1
theorem BitCells.below {f : Nat → Bool} {g : Nat} {w w' : World} (h : BitCells f g w) (hb : Below w.heap.size w w') : BitCells f g w' := fun j hj =>
 ⟨keep_cell hb (h j hj).1, keep_frozen hb (World.block_lt_of_cell? w _ (h j hj).1) (h j hj).2⟩
theorem BitCells.congr {f g0 : Nat → Bool} {g : Nat} {w : World} (h : BitCells f g w) (e : ∀ j, j < 64 → f j = g0 j) : BitCells g0 g w := fun j hj => by rw [← e j hj]; exact h j hj
def rowB (f : Nat → Bool) : List Value := (List.range 64).map fun j => .bool (f j)
theorem rowB_len (f : Nat → Bool) : (rowB f).length = 64 := by simp [rowB]
theorem rowB_at (f : Nat → Bool) (j : Nat) (h : j < 64) : (rowB f)[j]? = some (.bool (f j)) := by simp [rowB, h]
theorem BitCells.range {f : Nat → Bool} {g : Nat} {w : World} (h : BitCells f g w) : w.rangeAt g 0 (rowB f) := by
 intro j v hj
 have hj64 : j < 64 := by
  have := (List.getElem?_eq_some_iff.1 hj).1
  rwa [rowB_len] at this
 rw [rowB_at _ _ hj64] at hj
 rw [Nat.zero_add, (h j hj64).1, ← hj]
theorem size_setCells (b : Nat) : ∀ (o : Nat) (vs : List Value) (w : World), (w.setCells b o vs).heap.size = w.heap.size := by
 intro o vs
 induction vs generalizing o with
 | nil => intro w; rfl
 | cons v vs ih => intro w; show (World.setCells (w.setCell ⟨b, o, none⟩ v) b (o + 1) vs).heap.size = _; rw [ih]; exact World.size_setCell _ _ _
theorem BitCells.stored (w1 : World) (C : Array Value) (t : TypeId) (f : Nat → Bool) (hC : C.size = 64) : BitCells f w1.heap.size ((w1.alloc (.cells C t)).setCells w1.heap.size 0 (rowB f)) := by
 have ht := there_new w1 C t
 have h := World.rangeAt_setCells_same (w1.alloc (.cells C t)) w1.heap.size 0 (rowB f) (by rw [rowB_len, ← hC]; exact ht)
 intro j hj
 have h1 := h j (.bool (f j)) (rowB_at f j hj)
 have h2 := (ht j (by rw [hC]; exact hj)).2
 rw [Nat.zero_add] at h1 h2
 exact ⟨h1, by rw [World.frozen?_setCells]; exact h2⟩
theorem arrB_row (x : Nat) : arrB x 64 = rowB (fun j => x.testBit j) := by
 unfold arrB rowB
 refine List.map_congr_left fun j hj => ?_
 rw [List.mem_range] at hj
 simp [hj]
theorem rowB_oneCell (f : Nat → Bool) : (rowB f).toArray.all (·.oneCell') = true := all_oneCell_toArray (by intro v hv; simp [rowB] at hv; obtain ⟨k, _, rfl⟩ := hv; rfl)
set_option maxHeartbeats 1000000 in
theorem rget_any (x low wide : Nat) (w : World) (hx : x < 18446744073709551616) (h1 : low + wide ≤ 64) :
  Calls Tryz.prog 87 #[.int .u64 x, .int .i64 low, .int .i64 wide] w fun e w' => e = .returned (.int .u64 (x / 2 ^ low % 2 ^ wide : Nat)) ∧ Below w.heap.size w w' := by
 have C1 := Lib.hid (fun w => rbits_any x w hx)
 have hy : x / 2 ^ low % 2 ^ wide < 18446744073709551616 := Nat.lt_of_le_of_lt (Nat.mod_le _ _) (Nat.lt_of_le_of_lt (Nat.div_le_self _ _) hx)
 have C2 := Lib.hid (fun w => rword_any (x / 2 ^ low % 2 ^ wide) (rowB fun j => (x / 2 ^ low % 2 ^ wide).testBit j) w hy (rowB_len _) (fun j hj => rowB_at _ j hj))
 have hbits : Hid (∀ j, (x / 2 ^ low % 2 ^ wide).testBit j = (decide (j < wide) && x.testBit (low + j))) := fun j => by
  rw [Nat.testBit_mod_two_pow, Nat.testBit_div_two_pow, Nat.add_comm]
 generalize x / 2 ^ low % 2 ^ wide = Y at C2 hbits ⊢
 go_enter Tryz.func87, Tryz.ntmps87
 go_wp2_with fail
 refine (C1.out _).mono ?_
 rintro e w1 ⟨rfl, hb1⟩
 rw [arrB_row]
 generalize hR : (rowB fun j => x.testBit j) = R
 have HR := Lib.hid hR
 clear hR
 have I0 : Hid ((Tryz.prog.info? 215).map (·.size) = some R.toArray.size) := by rw [← HR.out]; simp [Hid, info215, rowB_len]
 have I1 : Hid (R.toArray.all (·.oneCell') = true) := by rw [← HR.out]; exact rowB_oneCell _
 have hsz : R.toArray.size = 64 := by rw [← HR.out]; simp [rowB_len]
 have SZ := Lib.hid hsz
 have HB1 := Lib.hid hb1
 clear hsz hb1 C1
 go_wp2_with (first | (refine wpList_store_mid (by rfl) 215 _ _ (by rfl) w1.heap.size 0 R.toArray (by rfl) (by rfl) (by rw [SZ.out]; exact there_new w1 _ _) I0.out I1.out ?_))
 rw [size_setCells, World.size_alloc]
 generalize hW : World.alloc (World.setCells _ _ _ _) _ = W
 have hF : Hid (BitCells (fun j => x.testBit j) w1.heap.size W ∧ BitCells (fun _ => false) (w1.heap.size + 1) W ∧ Below w.heap.size w W) := by
  rw [← hW, ← HR.out]
  refine ⟨(BitCells.stored w1 (Array.replicate 64 (Value.bool false)) 215 _ (by simp)).below (below1 _ _), ?_, ?_⟩
  ·have h := BitCells.new ((w1.alloc (.cells (Array.replicate 64 (Value.bool false)) 215)).setCells w1.heap.size 0 (rowB fun j => x.testBit j)) (List.replicate 64 (Value.bool false)) 215 (fun _ => false) (by simp) (by intro j hj; rw [List.getElem?_replicate, if_pos hj])
   rw [size_setCells, World.size_alloc] at h
   exact h
  ·have h := below_setCells (HB1.out.trans ((below1 w1 (.cells (Array.replicate 64 (Value.bool false)) 215)).mono HB1.size)) HB1.size 0 (rowB fun j => x.testBit j)
   exact h.alloc h.size _
 clear hW I0 I1 SZ HR
 have hG := HB1.size
 generalize w1.heap.size = G at hF hG ⊢
 go_loopw [9] (fun iv wr => ∃ i : Nat, iv = .int .i64 i ∧ i ≤ wide ∧ Hid (BitCells (fun j => x.testBit j) G wr ∧ BitCells (fun j => decide (j < i) && x.testBit (low + j)) (G + 1) wr ∧ Below w.heap.size w wr)) (fun iv _ => wide - (RowKit.intOf iv).toNat)
 case atStart => exact ⟨0, rfl, by omega, hF.1, hF.2.1.congr (by simp), hF.2.2⟩
 case round =>
  obtain ⟨i, rfl, hi, HI⟩ := hrel
  by_cases hlt : i < wide
  ·have c1 := (HI.1 (low + i) (by omega)).1
   have c2 := (HI.2.1 i (by omega)).1
   have f2 := (HI.2.1 i (by omega)).2
   have e3 : (low : Int) + (i : Int) < 64 := by omega
   have e4 : (0 : Int) ≤ (low : Int) + (i : Int) := by omega
   have e5 : (i : Int) < 64 := by omega
   have HN : Hid (BitCells (fun j => x.testBit j) G (wr.setCell ⟨G + 1, i, none⟩ (.bool (x.testBit (low + i)))) ∧ BitCells (fun j => decide (j < i + 1) && x.testBit (low + j)) (G + 1) (wr.setCell ⟨G + 1, i, none⟩ (.bool (x.testBit (low + i)))) ∧ Below w.heap.size w (wr.setCell ⟨G + 1, i, none⟩ (.bool (x.testBit (low + i))))) := by
    refine ⟨HI.1.far (by omega) _ _, (HI.2.1.set i _ (by omega)).congr ?_, HI.2.2.setCell (by show w.heap.size ≤ G + 1; omega) _⟩
    intro j hj
    by_cases he : j = i
    ·subst he; simp
    ·simp only [he, if_false]
     rw [show decide (j < i) = decide (j < i + 1) by rw [decide_eq_decide]; omega]
   go_wp2
   go_roundw
   case rel => exact ⟨i + 1, by first | rfl | go_num, by omega, HN⟩
   case measure => simp [RowKit.intOf]; omega
  ·obtain rfl : i = wide := by omega
   have hR := (HI.2.1.congr (g0 := fun j => Y.testBit j) (fun j _ => (hbits j).symm)).range
   have hB := HI.2.2
   have J1 : Hid ((Tryz.prog.info? 215).map (·.size) = some (rowB fun j => Y.testBit j).length) := by rw [rowB_len]; exact info215
   have HRR := Lib.hid hR
   have HBB := Lib.hid hB
   clear hR hB HI hbits
   generalize (rowB fun j => Y.testBit j) = L at *
   go_wp2_with (first | (refine wpList_load_mid (by rfl) 215 _ (by rfl) (G + 1) 0 (by rfl) L _ HRR.out Tryz.underlying215 rfl J1.out ?_))
   refine (C2.out _).mono ?_
   rintro e w2 ⟨rfl, hb2⟩
   go_wp2
   go_ret
   exact ⟨rfl, HBB.out.trans (hb2.mono HBB.size)⟩
end Go.Proofs.YtbapgngngaaojaaGreat
namespace Go.Proofs.YtbapgngngaaojaaGreat
open Go.RowKit Go.Lib
set_option maxRecDepth 100000
set_option maxHeartbeats 1000000 in
theorem rdown_any (x n : Nat) (w : World) (hx : x < 18446744073709551616) (hn : n < 64) :
  Calls Tryz.prog 126 #[.int .u64 x, .int .i64 n] w fun e w' => e = .returned (.int .u64 (x - x % 2 ^ n : Nat)) ∧ Below w.heap.size w w' := by
 have C1 := Lib.hid (fun w => rbits_any x w hx)
 have hy : x - x % 2 ^ n < 18446744073709551616 := by omega
 have C2 := Lib.hid (fun w => rword_any (x - x % 2 ^ n) (rowB fun j => (x - x % 2 ^ n).testBit j) w hy (rowB_len _) (fun j hj => rowB_at _ j hj))
 have hbits : Hid (∀ j, (x - x % 2 ^ n).testBit j = (!decide (j < n) && x.testBit j)) := fun j => by
  rw [← andN_low x n hx, andN_bit _ _ hx, Nat.testBit_two_pow_sub_one, Bool.and_comm]
 generalize x - x % 2 ^ n = Y at C2 hbits hy ⊢
 go_enter Tryz.func126, Tryz.ntmps126
 go_wp2_with fail
 refine (C1.out _).mono ?_
 rintro e w1 ⟨rfl, hb1⟩
 rw [arrB_row]
 generalize hR : (rowB fun j => x.testBit j) = R
 have HR := Lib.hid hR
 clear hR
 have I0 : Hid ((Tryz.prog.info? 215).map (·.size) = some R.toArray.size) := by rw [← HR.out]; simp [Hid, info215, rowB_len]
 have I1 : Hid (R.toArray.all (·.oneCell') = true) := by rw [← HR.out]; exact rowB_oneCell _
 have hsz : R.toArray.size = 64 := by rw [← HR.out]; simp [rowB_len]
 have SZ := Lib.hid hsz
 have HB1 := Lib.hid hb1
 clear hsz hb1 C1
 go_wp2_with (first | (refine wpList_store_mid (by rfl) 215 _ _ (by rfl) w1.heap.size 0 R.toArray (by rfl) (by rfl) (by rw [SZ.out]; exact there_new w1 _ _) I0.out I1.out ?_))
 generalize hW : World.setCells _ _ _ _ = W
 have hF : Hid (BitCells (fun j => x.testBit j) w1.heap.size W ∧ Below w.heap.size w W) := by
  rw [← hW, ← HR.out]
  exact ⟨BitCells.stored w1 (Array.replicate 64 (Value.bool false)) 215 _ (by simp), below_setCells (HB1.out.trans ((below1 w1 (.cells (Array.replicate 64 (Value.bool false)) 215)).mono HB1.size)) HB1.size 0 (rowB fun j => x.testBit j)⟩
 clear hW I0 I1 SZ HR
 have hG := HB1.size
 generalize w1.heap.size = G at hF hG ⊢
 go_loopw [6] (fun iv wr => ∃ i : Nat, iv = .int .i64 i ∧ i ≤ n ∧ Hid (BitCells (fun j => !decide (j < i) && x.testBit j) G wr ∧ Below w.heap.size w wr)) (fun iv _ => n - (RowKit.intOf iv).toNat)
 case atStart => exact ⟨0, rfl, by omega, hF.1.congr (by simp), hF.2⟩
 case round =>
  obtain ⟨i, rfl, hi, HI⟩ := hrel
  by_cases hlt : i < n
  ·have c2 := (HI.1 i (by omega)).1
   have f2 := (HI.1 i (by omega)).2
   have e5 : (i : Int) < 64 := by omega
   have d1 : decide ((i : Int) < (n : Int)) = true := by simp; omega
   have HN : Hid (BitCells (fun j => !decide (j < i + 1) && x.testBit j) G (wr.setCell ⟨G, i, none⟩ (.bool false)) ∧ Below w.heap.size w (wr.setCell ⟨G, i, none⟩ (.bool false))) := by
    refine ⟨(HI.1.set i _ (by omega)).congr ?_, HI.2.setCell hG _⟩
    intro j hj
    by_cases he : j = i
    ·subst he; simp
    ·simp only [he, if_false]
     rw [show decide (j < i) = decide (j < i + 1) by rw [decide_eq_decide]; omega]
   go_wp2
   go_roundw
   case rel => exact ⟨i + 1, by first | rfl | go_num, by omega, HN⟩
   case measure => simp [RowKit.intOf]; omega
  ·obtain rfl : i = n := by omega
   have hR := (HI.1.congr (g0 := fun j => Y.testBit j) (fun j _ => (hbits j).symm)).range
   have hB := HI.2
   have J1 : Hid ((Tryz.prog.info? 215).map (·.size) = some (rowB fun j => Y.testBit j).length) := by rw [rowB_len]; exact info215
   have HRR := Lib.hid hR
   have HBB := Lib.hid hB
   clear hR hB HI hbits
   generalize (rowB fun j => Y.testBit j) = L at *
   go_wp2_with (first | (refine wpList_load_mid (by rfl) 215 _ (by rfl) G 0 (by rfl) L _ HRR.out Tryz.underlying215 rfl J1.out ?_))
   refine (C2.out _).mono ?_
   rintro e w2 ⟨rfl, hb2⟩
   go_wp2
   go_ret
   exact ⟨rfl, HBB.out.trans (hb2.mono HBB.size)⟩
theorem rlow_nat (level : Nat) (w : World) (hl : level ≤ 3) :
  Calls Tryz.prog 88 #[.int .i64 level] w fun e w' => e = .returned (.int .i64 (bitsL level)) ∧ Below w.heap.size w w' := by
 rcases (show level = 0 ∨ level = 1 ∨ level = 2 ∨ level = 3 by omega) with rfl | rfl | rfl | rfl
 all_goals
  go_enter Tryz.func88, Tryz.ntmps88
  go_wp2
  go_ret
  exact ⟨rfl, below1 _ _⟩
end Go.Proofs.YtbapgngngaaojaaGreat
namespace Go.Proofs.YtbapgngngaaojaaGreat
open Go.RowKit Go.Lib
set_option maxRecDepth 100000
def letP (d : Dd) (level : Nat) (acc : Int) : Nat × Nat := if d.used = false then (2, level) else if d.user = false ∨ (acc = 2 ∧ d.write = false) ∨ (acc = 3 ∧ d.exec = false) then (3, level) else (0, 0)
def fV (f : Nat × Nat) : Value := .agg #[.int .i64 f.1, .int .i64 f.2]
theorem let_nat (K out attr level : Nat) (user write exec used : Bool) (acc : Int) (w : World) :
  Calls Tryz.prog 20 #[.agg #[.int .i64 K, .int .u64 out, .bool user, .bool write, .bool exec, .bool used, .int .i64 attr], .int .i64 level, .int .i64 acc] w fun e w' => e = .returned (fV (letP ⟨K, out, user, write, exec, used, attr⟩ level acc)) ∧ Below w.heap.size w w' := by
 have main : ∀ R, letP ⟨K, out, user, write, exec, used, attr⟩ level acc = R → Calls Tryz.prog 20 #[.agg #[.int .i64 K, .int .u64 out, .bool user, .bool write, .bool exec, .bool used, .int .i64 attr], .int .i64 level, .int .i64 acc] w fun e w' => e = .returned (fV R) ∧ Below w.heap.size w w' := by
  intro R hR
  unfold letP at hR
  dsimp only at hR
  cases used with
  | false =>
   rw [if_pos rfl] at hR
   subst hR
   go_enter Tryz.func20, Tryz.ntmps20
   go_wp2
   refine bodyPost_ret (v := fV (2, level)) (by simp [results, Tryz.results20, go_sem, fV]) rfl ⟨rfl, ?_⟩
   exact (below1 w _).alloc (by simp) _
  | true =>
   rw [if_neg (by simp)] at hR
   cases user with
   | false =>
    rw [if_pos (by simp)] at hR
    subst hR
    go_enter Tryz.func20, Tryz.ntmps20
    go_wp2
    refine bodyPost_ret (v := fV (3, level)) (by simp [results, Tryz.results20, go_sem, fV]) rfl ⟨rfl, ?_⟩
    exact (below1 w _).alloc (by simp) _
   | true =>
    by_cases h2 : acc = 2
    ·subst h2
     cases write with
     | false =>
      rw [if_pos (by simp)] at hR
      subst hR
      go_enter Tryz.func20, Tryz.ntmps20
      go_wp2
      refine bodyPost_ret (v := fV (3, level)) (by simp [results, Tryz.results20, go_sem, fV]) rfl ⟨rfl, ?_⟩
      exact (below1 w _).alloc (by simp) _
     | true =>
      rw [if_neg (by simp)] at hR
      subst hR
      go_enter Tryz.func20, Tryz.ntmps20
      go_wp2
      refine bodyPost_ret (v := fV (0, 0)) (by simp [results, Tryz.results20, go_sem, fV]) rfl ⟨rfl, ?_⟩
      exact (below1 w _).alloc (by simp) _
    ·have e2 : (acc == 2) = false := by simp [h2]
     by_cases h3 : acc = 3
     ·subst h3
      cases exec with
      | false =>
       rw [if_pos (by simp)] at hR
       subst hR
       go_enter Tryz.func20, Tryz.ntmps20
       go_wp2
       refine bodyPost_ret (v := fV (3, level)) (by simp [results, Tryz.results20, go_sem, fV]) rfl ⟨rfl, ?_⟩
       exact (below1 w _).alloc (by simp) _
      | true =>
       rw [if_neg (by simp)] at hR
       subst hR
       go_enter Tryz.func20, Tryz.ntmps20
       go_wp2
       refine bodyPost_ret (v := fV (0, 0)) (by simp [results, Tryz.results20, go_sem, fV]) rfl ⟨rfl, ?_⟩
       exact (below1 w _).alloc (by simp) _
     ·have e3 : (acc == 3) = false := by simp [h3]
      rw [if_neg (by simp [h2, h3])] at hR
      subst hR
      clear h2 h3
      go_enter Tryz.func20, Tryz.ntmps20
      go_wp2
      refine bodyPost_ret (v := fV (0, 0)) (by simp [results, Tryz.results20, go_sem, fV]) rfl ⟨rfl, ?_⟩
      exact (below1 w _).alloc (by simp) _
 exact main _ rfl
def matchP (asid0 va0 level : Nat) (asid : Int) (va : Nat) : Bool := ((asid0 : Int) == asid) && (lowB va && (baseP va level == va0))
theorem matches_nat (ea ev el K out attr : Nat) (b1 b2 b3 b4 : Bool) (asid : Int) (va : Nat) (w : World) (hl : el ≤ 3) (hv : va < 18446744073709551616) :
  Calls Tryz.prog 107 #[.agg #[.int .i64 ea, .int .u64 ev, .int .i64 el, .int .i64 K, .int .u64 out, .bool b1, .bool b2, .bool b3, .bool b4, .int .i64 attr], .int .i64 asid, .int .u64 va] w fun e w' => e = .returned (.bool (matchP ea ev el asid va)) ∧ Below w.heap.size w w' := by
 have C1 := Lib.hid (fun w => low_nat va w)
 have C2 := Lib.hid (fun w => vbase_nat va el w hl hv)
 unfold matchP
 obtain ⟨q1, h1⟩ : ∃ b, ((ea : Int) == asid) = b := ⟨_, rfl⟩
 obtain ⟨q3, h3⟩ : ∃ b, (baseP va el == ev) = b := ⟨_, rfl⟩
 have h3' : ((baseP va el : Int) == (ev : Int)) = q3 := by rw [← h3, Bool.eq_iff_iff]; simp; omega
 rw [h1, h3]
 clear h3
 generalize lowB va = q2 at C1 ⊢
 generalize baseP va el = B at C2 h3'
 cases q1 with
 | false =>
  go_enter Tryz.func107, Tryz.ntmps107
  go_wp2_with fail
  go_quiet (first | (go_at_call 133; exact Calls.quiet_of_same (C1.out _)) | (go_at_call 111; exact Calls.quiet_of_same (C2.out _)))
  go_wp2_with fail
  go_ret
  exact ⟨by first | rfl | (refine ret_bool ?_; simp [h3']), below_drewN (below1 _ _) _⟩
 | true =>
  cases q2 with
  | false =>
   go_enter Tryz.func107, Tryz.ntmps107
   go_wp2_with fail
   go_quiet (first | (go_at_call 133; exact Calls.quiet_of_same (C1.out _)) | (go_at_call 111; exact Calls.quiet_of_same (C2.out _)))
   go_wp2_with fail
   go_ret
   exact ⟨by first | rfl | (refine ret_bool ?_; simp [h3']), below_drewN (below1 _ _) _⟩
  | true =>
   go_enter Tryz.func107, Tryz.ntmps107
   go_wp2_with fail
   go_quiet (first | (go_at_call 133; exact Calls.quiet_of_same (C1.out _)) | (go_at_call 111; exact Calls.quiet_of_same (C2.out _)))
   go_wp2_with fail
   go_ret
   exact ⟨by first | rfl | (refine ret_bool ?_; simp [h3']), below_drewN (below1 _ _) _⟩
theorem leads_nat (ea ev el tb : Nat) (asid : Int) (va : Nat) (w : World) (h1 : 1 ≤ el) (hl : el ≤ 3) (hv : va < 18446744073709551616) :
  Calls Tryz.prog 116 #[.agg #[.int .i64 ea, .int .u64 ev, .int .i64 el, .int .u64 tb], .int .i64 asid, .int .u64 va] w fun e w' => e = .returned (.bool (matchP ea ev (el - 1) asid va)) ∧ Below w.heap.size w w' := by
 have C1 := Lib.hid (fun w => low_nat va w)
 have C2 := Lib.hid (fun w => vbase_nat va (el - 1) w (by omega) hv)
 have e9 : IntKind.i64.wrap ((el : Int) - 1) = ((el - 1 : Nat) : Int) := by rw [show (el : Int) - 1 = ((el - 1 : Nat) : Int) by omega]; exact IntWalk.i64_in _ (by omega)
 have e8 : ((el : Int) - 1) = ((el - 1 : Nat) : Int) := by omega
 unfold matchP
 obtain ⟨q1, h1⟩ : ∃ b, ((ea : Int) == asid) = b := ⟨_, rfl⟩
 obtain ⟨q3, h3⟩ : ∃ b, (baseP va (el - 1) == ev) = b := ⟨_, rfl⟩
 have h3' : ((baseP va (el - 1) : Int) == (ev : Int)) = q3 := by rw [← h3, Bool.eq_iff_iff]; simp; omega
 rw [h1, h3]
 clear h3
 generalize lowB va = q2 at C1 ⊢
 generalize baseP va (el - 1) = B at C2 h3'
 generalize el - 1 = el1 at C2 e9 e8
 cases q1 with
 | false =>
  go_enter Tryz.func116, Tryz.ntmps116
  go_wp2_with fail
  go_quiet (first | (go_at_call 133; exact Calls.quiet_of_same (C1.out _)) | (go_at_call 111; (try rw [e9]); (try rw [e8]); exact Calls.quiet_of_same (C2.out _)))
  go_wp2_with fail
  go_ret
  exact ⟨by first | rfl | (refine ret_bool ?_; simp [h3']), below_drewN (below1 _ _) _⟩
 | true =>
  cases q2 with
  | false =>
   go_enter Tryz.func116, Tryz.ntmps116
   go_wp2_with fail
   go_quiet (first | (go_at_call 133; exact Calls.quiet_of_same (C1.out _)) | (go_at_call 111; (try rw [e9]); (try rw [e8]); exact Calls.quiet_of_same (C2.out _)))
   go_wp2_with fail
   go_ret
   exact ⟨by first | rfl | (refine ret_bool ?_; simp [h3']), below_drewN (below1 _ _) _⟩
  | true =>
   go_enter Tryz.func116, Tryz.ntmps116
   go_wp2_with fail
   go_quiet (first | (go_at_call 133; exact Calls.quiet_of_same (C1.out _)) | (go_at_call 111; (try rw [e9]); (try rw [e8]); exact Calls.quiet_of_same (C2.out _)))
   go_wp2_with fail
   go_ret
   exact ⟨by first | rfl | (refine ret_bool ?_; simp [h3']), below_drewN (below1 _ _) _⟩
end Go.Proofs.YtbapgngngaaojaaGreat
namespace Go.Proofs.YtbapgngngaaojaaGreat
open Go.RowKit Go.Lib
set_option maxRecDepth 100000
theorem bitsL_le (level : Nat) : bitsL level ≤ 39 := by unfold bitsL; split <;> (try split) <;> (try split) <;> omega
theorem rindex_nat (va level : Nat) (w : World) (hl : level ≤ 3) (hv : va < 18446744073709551616) :
  Calls Tryz.prog 122 #[.int .u64 va, .int .i64 level] w fun e w' => e = .returned (.int .i64 (indexP va level)) ∧ Below w.heap.size w w' := by
 have hb := bitsL_le level
 have C1 := Lib.hid (fun w => rlow_nat level w hl)
 have C3 : Hid (∀ w, Calls Tryz.prog 87 #[.int .u64 va, .int .i64 (bitsL level), .int .i64 9] w fun e w' => e = .returned (.int .u64 (indexP va level)) ∧ Below w.heap.size w w') :=
  fun w => rget_any va (bitsL level) 9 w hv (by omega)
 have e1 : IntKind.i64.wrap (indexP va level : Int) = (indexP va level : Int) := IntWalk.i64_in _ (by unfold indexP; omega)
 generalize indexP va level = R at C3 e1 ⊢
 generalize bitsL level = B at C1 C3
 go_enter Tryz.func122, Tryz.ntmps122
 go_wp2_with fail
 refine (C1.out _).mono ?_
 rintro e w1 ⟨rfl, hb1⟩
 go_wp2_with fail
 refine (C3.out _).mono ?_
 rintro e w2 ⟨rfl, hb2⟩
 go_wp2
 go_ret
 exact ⟨rfl, hb1.trans (hb2.mono hb1.size)⟩
theorem rbase_nat (va level : Nat) (w : World) (hl : level ≤ 3) (hv : va < 18446744073709551616) :
  Calls Tryz.prog 86 #[.int .u64 va, .int .i64 level] w fun e w' => e = .returned (.int .u64 (baseP va level)) ∧ Below w.heap.size w w' := by
 have hb := bitsL_le level
 have C1 := Lib.hid (fun w => rlow_nat level w hl)
 have C3 : Hid (∀ w, Calls Tryz.prog 126 #[.int .u64 (va % 281474976710656 : Nat), .int .i64 (bitsL level)] w fun e w' => e = .returned (.int .u64 (baseP va level)) ∧ Below w.heap.size w w') :=
  fun w => rdown_any (va % 281474976710656) (bitsL level) w (by omega) (by omega)
 have e1 : ((va : Int) % 281474976710656) = ((va % 281474976710656 : Nat) : Int) := by omega
 generalize baseP va level = R at C3 ⊢
 generalize bitsL level = B at C1 C3
 generalize va % 281474976710656 = Y at C3 e1
 go_enter Tryz.func86, Tryz.ntmps86
 go_wp2_with fail
 refine (C1.out _).mono ?_
 rintro e w1 ⟨rfl, hb1⟩
 go_wp2_with fail
 refine (C3.out _).mono ?_
 rintro e w2 ⟨rfl, hb2⟩
 go_wp2
 go_ret
 exact ⟨rfl, hb1.trans (hb2.mono hb1.size)⟩
theorem roffset_nat (va level : Nat) (w : World) (hl : level ≤ 3) (hv : va < 18446744073709551616) :
  Calls Tryz.prog 37 #[.int .u64 va, .int .i64 level] w fun e w' => e = .returned (.int .u64 (offP va level)) ∧ Below w.heap.size w w' := by
 have hb := bitsL_le level
 have C1 := Lib.hid (fun w => rlow_nat level w hl)
 have C3 : Hid (∀ w, Calls Tryz.prog 87 #[.int .u64 va, .int .i64 0, .int .i64 (bitsL level)] w fun e w' => e = .returned (.int .u64 (offP va level)) ∧ Below w.heap.size w w') := fun w => by
  have h := rget_any va 0 (bitsL level) w hv (by omega)
  rw [Nat.pow_zero, Nat.div_one] at h
  exact h
 generalize offP va level = R at C3 ⊢
 generalize bitsL level = B at C1 C3
 go_enter Tryz.func37, Tryz.ntmps37
 go_wp2_with fail
 refine (C1.out _).mono ?_
 rintro e w1 ⟨rfl, hb1⟩
 go_wp2_with fail
 refine (C3.out _).mono ?_
 rintro e w2 ⟨rfl, hb2⟩
 go_wp2
 go_ret
 exact ⟨rfl, hb1.trans (hb2.mono hb1.size)⟩
end Go.Proofs.YtbapgngngaaojaaGreat
namespace Go.Proofs.YtbapgngngaaojaaGreat
open Go.RowKit Go.Lib
set_option maxRecDepth 100000
theorem rlet_nat (K out attr level : Nat) (user write exec used : Bool) (acc : Int) (w : World) :
  Calls Tryz.prog 36 #[.agg #[.int .i64 K, .int .u64 out, .bool user, .bool write, .bool exec, .bool used, .int .i64 attr], .int .i64 level, .int .i64 acc] w fun e w' => e = .returned (fV (letP ⟨K, out, user, write, exec, used, attr⟩ level acc)) ∧ Below w.heap.size w w' := by
 have main : ∀ R, letP ⟨K, out, user, write, exec, used, attr⟩ level acc = R → Calls Tryz.prog 36 #[.agg #[.int .i64 K, .int .u64 out, .bool user, .bool write, .bool exec, .bool used, .int .i64 attr], .int .i64 level, .int .i64 acc] w fun e w' => e = .returned (fV R) ∧ Below w.heap.size w w' := by
  intro R hR
  unfold letP at hR
  dsimp only at hR
  cases used with
  | false =>
   rw [if_pos rfl] at hR
   subst hR
   go_enter Tryz.func36, Tryz.ntmps36
   go_wp2
   refine bodyPost_ret (v := fV (2, level)) (by simp [results, Tryz.results36, go_sem, fV]) rfl ⟨rfl, ?_⟩
   exact (below1 w _).alloc (by simp) _
  | true =>
   rw [if_neg (by simp)] at hR
   cases user with
   | false =>
    rw [if_pos (by simp)] at hR
    subst hR
    go_enter Tryz.func36, Tryz.ntmps36
    go_wp2
    refine bodyPost_ret (v := fV (3, level)) (by simp [results, Tryz.results36, go_sem, fV]) rfl ⟨rfl, ?_⟩
    exact (below1 w _).alloc (by simp) _
   | true =>
    by_cases h2 : acc = 2
    ·subst h2
     cases write with
     | false =>
      rw [if_pos (by simp)] at hR
      subst hR
      go_enter Tryz.func36, Tryz.ntmps36
      go_wp2
      refine bodyPost_ret (v := fV (3, level)) (by simp [results, Tryz.results36, go_sem, fV]) rfl ⟨rfl, ?_⟩
      exact (below1 w _).alloc (by simp) _
     | true =>
      rw [if_neg (by simp)] at hR
      subst hR
      go_enter Tryz.func36, Tryz.ntmps36
      go_wp2
      refine bodyPost_ret (v := fV (0, 0)) (by simp [results, Tryz.results36, go_sem, fV]) rfl ⟨rfl, ?_⟩
      exact (below1 w _).alloc (by simp) _
    ·have e2 : (acc == 2) = false := by simp [h2]
     by_cases h3 : acc = 3
     ·subst h3
      cases exec with
      | false =>
       rw [if_pos (by simp)] at hR
       subst hR
       go_enter Tryz.func36, Tryz.ntmps36
       go_wp2
       refine bodyPost_ret (v := fV (3, level)) (by simp [results, Tryz.results36, go_sem, fV]) rfl ⟨rfl, ?_⟩
       exact (below1 w _).alloc (by simp) _
      | true =>
       rw [if_neg (by simp)] at hR
       subst hR
       go_enter Tryz.func36, Tryz.ntmps36
       go_wp2
       refine bodyPost_ret (v := fV (0, 0)) (by simp [results, Tryz.results36, go_sem, fV]) rfl ⟨rfl, ?_⟩
       exact (below1 w _).alloc (by simp) _
     ·have e3 : (acc == 3) = false := by simp [h3]
      rw [if_neg (by simp [h2, h3])] at hR
      subst hR
      clear h2 h3
      go_enter Tryz.func36, Tryz.ntmps36
      go_wp2
      refine bodyPost_ret (v := fV (0, 0)) (by simp [results, Tryz.results36, go_sem, fV]) rfl ⟨rfl, ?_⟩
      exact (below1 w _).alloc (by simp) _
 exact main _ rfl
end Go.Proofs.YtbapgngngaaojaaGreat
namespace Go.Proofs.YtbapgngngaaojaaGreat
theorem outW_bit (x i : Nat) : (outW x).testBit i = (decide (12 ≤ i) && (decide (i < 48) && x.testBit i)) := by
 have h : outW x = x / 2 ^ 12 % 2 ^ 36 * 2 ^ 12 := rfl
 rw [h, Nat.testBit_mul_two_pow, Nat.testBit_mod_two_pow, Nat.testBit_div_two_pow]
 by_cases h1 : 12 ≤ i
 ·rw [show i - 12 + 12 = i by omega, show decide (i - 12 < 36) = decide (i < 48) by rw [decide_eq_decide]; omega]
 ·simp [h1]
theorem bit_ge {x i : Nat} (hx : x < 18446744073709551616) (h : 64 ≤ i) : x.testBit i = false :=
 Nat.testBit_lt_two_pow (Nat.lt_of_lt_of_le hx (Nat.pow_le_pow_right (n := 2) (by omega) h))
theorem two_bit (i : Nat) : (2 : Nat).testBit i = decide (1 = i) := Nat.testBit_two_pow (n := 1) (m := i)
theorem one_bit (i : Nat) : (1 : Nat).testBit i = decide (0 = i) := Nat.testBit_two_pow (n := 0) (m := i)
/-- A table's word is right just if no other bit is set. -/
theorem table_bits {x : Nat} (hx : x < 18446744073709551616) (h0 : x.testBit 0 = true) (h1 : x.testBit 1 = true) :
  ((outW x ||| 2) ||| 1 = x) ↔ ∀ i, 2 ≤ i → i < 64 → x.testBit i = true → 12 ≤ i ∧ i ≤ 47 := by
 constructor
 ·intro h i h2 h3 hb
  have h4 : ((outW x ||| 2) ||| 1).testBit i = x.testBit i := by rw [h]
  rw [Nat.testBit_or, Nat.testBit_or, outW_bit, two_bit, one_bit, hb] at h4
  simp only [show ¬ (1 = i) by omega, show ¬ (0 = i) by omega, decide_false, Bool.or_false, Bool.and_eq_true, decide_eq_true_eq] at h4
  omega
 ·intro h
  refine Nat.eq_of_testBit_eq fun i => ?_
  rw [Nat.testBit_or, Nat.testBit_or, outW_bit, two_bit, one_bit]
  by_cases e0 : i = 0
  ·subst e0; rw [h0]; simp
  by_cases e1 : i = 1
  ·subst e1; rw [h1]; simp
  simp only [show ¬ (1 = i) by omega, show ¬ (0 = i) by omega, decide_false, Bool.or_false]
  by_cases h64 : i < 64
  ·cases hb : x.testBit i with
   | false => simp
   | true =>
    have := h i (by omega) h64 hb
    simp; omega
  ·rw [bit_ge hx (by omega)]; simp
theorem bn_bit (b : Bool) (n i : Nat) : (bn b n).testBit i = (b && decide (n = i)) := by
 unfold bn
 cases b
 ·simp
 ·rw [if_pos rfl, Nat.testBit_two_pow]; simp
theorem fixed_bit (i : Nat) : (9007199254743808 : Nat).testBit i = (decide (8 = i) || decide (9 = i) || decide (11 = i) || decide (53 = i)) := by
 rw [show (9007199254743808 : Nat) = 2 ^ 8 ||| 2 ^ 9 ||| 2 ^ 11 ||| 2 ^ 53 by decide]
 simp only [Nat.testBit_or, Nat.testBit_two_pow]
theorem c28_bit (i : Nat) : (28 : Nat).testBit i = (decide (2 = i) || decide (3 = i) || decide (4 = i)) := by
 rw [show (28 : Nat) = 2 ^ 2 ||| 2 ^ 3 ||| 2 ^ 4 by decide]
 simp only [Nat.testBit_or, Nat.testBit_two_pow]
theorem attr_bit (x i : Nat) : (x / 4 % 8 * 4).testBit i = (decide (2 ≤ i) && (decide (i < 5) && x.testBit i)) := by
 rw [show x / 4 % 8 * 4 = x / 2 ^ 2 % 2 ^ 3 * 2 ^ 2 from rfl, Nat.testBit_mul_two_pow, Nat.testBit_mod_two_pow, Nat.testBit_div_two_pow]
 by_cases h1 : 2 ≤ i
 ·rw [show i - 2 + 2 = i by omega, show decide (i - 2 < 3) = decide (i < 5) by rw [decide_eq_decide]; omega]
 ·simp [h1]
theorem or64 {a b : Nat} (ha : a < 18446744073709551616) (hb : b < 18446744073709551616) : a ||| b < 18446744073709551616 := Nat.or_lt_two_pow (n := 64) ha hb
theorem bn64 (b : Bool) {n : Nat} (h : n < 64) : bn b n < 18446744073709551616 := by
 have := pow_lt64 h
 unfold bn
 split <;> omega
/-- A leaf's word, bit by bit. -/
theorem wordD_bit (x i : Nat) : (wordD (leafD x)).testBit i = (((decide (12 ≤ i) && (decide (i < 48) && x.testBit i)) || (decide (8 = i) || decide (9 = i) || decide (11 = i) || decide (53 = i)) || decide (0 = i) || (x.testBit 1 && decide (1 = i)) || (x.testBit 6 && decide (6 = i)) || (x.testBit 7 && decide (7 = i)) || (x.testBit 10 && decide (10 = i)) || (x.testBit 54 && decide (54 = i))) && !(decide (2 = i) || decide (3 = i) || decide (4 = i)) || (decide (2 ≤ i) && (decide (i < 5) && x.testBit i))) := by
 have hk : ((leafD x).kind == 3) = x.testBit 1 := by
  unfold leafD; dsimp only
  cases x.testBit 1 <;> rfl
 unfold wordD
 rw [Nat.testBit_or, andN_bit, hk]
 ·unfold leafD
  dsimp only
  simp only [Nat.testBit_or, bn_bit, outW_bit, fixed_bit, c28_bit, attr_bit, one_bit, Bool.not_not]
 ·have := outW_lt x
  exact or64 (or64 (or64 (or64 (or64 (or64 (or64 (by unfold leafD; dsimp only; omega) (by omega)) (by omega)) (bn64 _ (by omega))) (bn64 _ (by omega))) (bn64 _ (by omega))) (bn64 _ (by omega))) (bn64 _ (by omega))
end Go.Proofs.YtbapgngngaaojaaGreat
