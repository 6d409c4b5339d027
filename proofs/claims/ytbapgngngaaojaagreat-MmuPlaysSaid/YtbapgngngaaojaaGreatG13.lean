/- The walk of the fourth reference's Decode: a leaf's word; and the whole of it: decP. -/
import Derived.Test.YtbapgngngaaojaaGreatG05
import Derived.Test.YtbapgngngaaojaaGreatG09
import Derived.Deep.RegionHeld3
import Derived.Deep.DeepCutAuto
set_option linter.unusedSimpArgs false
set_option linter.unusedVariables false
namespace Go.Proofs.YtbapgngngaaojaaGreat
open Go.RowKit Go.Lib
set_option maxRecDepth 100000
def z7 : List Value := [.int .i64 0, .int .u64 0, .bool false, .bool false, .bool false, .bool false, .int .i64 0]
theorem set7_eq (w : World) (b : Nat) (v0 v1 v2 v3 v4 v5 v6 : Value) :
  ((((((w.setCell ⟨b, 0, none⟩ v0).setCell ⟨b, 1, none⟩ v1).setCell ⟨b, 2, none⟩ v2).setCell ⟨b, 3, none⟩ v3).setCell ⟨b, 4, none⟩ v4).setCell ⟨b, 5, none⟩ v5).setCell ⟨b, 6, none⟩ v6 = w.setCells b 0 [v0, v1, v2, v3, v4, v5, v6] := rfl
def leafOk (level x : Nat) : Prop := leafK (leafD x).kind level = true ∧ leafBits level x
def RDecOr (g : Prop) (R : Dd) (w : World) (e : Ending) (w' : World) : Prop := (g ∧ RDecPost (some R) w e w') ∨ (¬ g ∧ RDecPost none w e w')
theorem Box.set0 {w : World} {g : Nat} {a : Value} {l : List Value} (h : Box w g (a :: l)) (v : Value) : Box (w.setCell ⟨g, 0, none⟩ v) g (v :: l) := by
 refine ⟨fun j u hj => ?_, fun j => by rw [World.frozen?_setCell]; exact h.2.1 j, by rw [World.size_setCell]; exact h.2.2⟩
 rw [Nat.zero_add]
 cases j with
 | zero =>
  have e : v = u := by simpa using hj
  subst e
  exact World.cell?_setCell_same _ _ _ (h.at 0 _ rfl)
 | succ j =>
  rw [World.cell?_setCell_other _ _ _ _ (fun e => by injection e with _ e2 _; omega)]
  exact h.at (j + 1) u (by simpa using hj)
theorem CtxB.setC {w u : World} (h : CtxB w u) {b : Nat} (hp : w.heap.size ≤ b) {o : Nat} (v : Value) : CtxB w (u.setCell ⟨b, o, none⟩ v) := Below.setCell h hp v
theorem CtxB.keep {w u : World} (h : CtxB w u) {b o : Nat} {v : Value} (c : w.cell? ⟨b, o, none⟩ = some v) : u.cell? ⟨b, o, none⟩ = some v := keep_cell h c
theorem leafOk_iff (level x : Nat) : leafOk level x ↔ (leafK (leafD x).kind level = true ∧ x.testBit 8 = true ∧ x.testBit 9 = true ∧ x.testBit 11 = true ∧ x.testBit 53 = true ∧ x.testBit 5 = false ∧ ∀ i, 12 ≤ i → i < 64 → x.testBit i = true → bitsL level ≤ i ∧ (i ≤ 47 ∨ i = 53 ∨ i = 54)) := Iff.rfl
set_option maxHeartbeats 2000000 in
theorem rdecode_leaf (level x : Nat) (w : World) (hx : x < 18446744073709551616) (hl : level ≤ 3) (h0 : x.testBit 0 = true) (hn : ¬ (x.testBit 1 = true ∧ level < 3)) :
  Calls Tryz.prog 123 #[.int .i64 level, .int .u64 x] w (RDecOr (leafOk level x) (leafD x) w) := by
 have G1 : Hid (∀ w, Calls Tryz.prog 87 #[.int .u64 x, .int .i64 12, .int .i64 36] w fun e w' => e = .returned (.int .u64 (x / 4096 % 68719476736 : Nat)) ∧ Below w.heap.size w w') :=
  fun w => rget_any x 12 36 w hx (by omega)
 have G2 : Hid (∀ w, Calls Tryz.prog 87 #[.int .u64 x, .int .i64 2, .int .i64 3] w fun e w' => e = .returned (.int .u64 (x / 4 % 8 : Nat)) ∧ Below w.heap.size w w') :=
  fun w => rget_any x 2 3 w hx (by omega)
 have C3 := Lib.hid (fun w => rlow_nat level w hl)
 have hout : IntKind.u64.wrap (((x / 4096 % 68719476736 : Nat) : Int) * 4096) = ((outW x : Nat) : Int) := by rw [IntKind.wrap_u64]; unfold outW; omega
 have HOK := Lib.hid (leafOk_iff level x)
 have hA8 : x / 4 % 8 < 8 := by omega
 have hLD : leafD x = ⟨if x.testBit 1 then 3 else 2, outW x, x.testBit 6, !x.testBit 7, !x.testBit 54, x.testBit 10, x / 4 % 8⟩ := rfl
 obtain ⟨b6, h6⟩ : ∃ b, x.testBit 6 = b := ⟨_, rfl⟩
 obtain ⟨b7, h7⟩ : ∃ b, x.testBit 7 = b := ⟨_, rfl⟩
 obtain ⟨b54, h54⟩ : ∃ b, x.testBit 54 = b := ⟨_, rfl⟩
 obtain ⟨b10, h10⟩ : ∃ b, x.testBit 10 = b := ⟨_, rfl⟩
 rw [h6, h7, h54, h10] at hLD
 generalize x / 4096 % 68719476736 = Y at G1 hout
 generalize outW x = O at hout hLD
 obtain ⟨b8, h8⟩ : ∃ b, x.testBit 8 = b := ⟨_, rfl⟩
 obtain ⟨b9, h9⟩ : ∃ b, x.testBit 9 = b := ⟨_, rfl⟩
 obtain ⟨b11, h11⟩ : ∃ b, x.testBit 11 = b := ⟨_, rfl⟩
 obtain ⟨b53, h53⟩ : ∃ b, x.testBit 53 = b := ⟨_, rfl⟩
 obtain ⟨b5, h5⟩ : ∃ b, x.testBit 5 = b := ⟨_, rfl⟩
 rw [h8, h9, h11, h53, h5] at HOK
 generalize bitsL level = bl at C3 HOK
 generalize x / 4 % 8 = A at G2 hA8 hLD
 have hwA : IntKind.i64.wrap (A : Int) = (A : Int) := by rw [IntKind.wrap_i64]; omega
 cases h1 : x.testBit 1 with
 | false =>
  rw [h1] at hLD
  have HLD := Lib.hid hLD
  clear hLD hn
  have C1 := Lib.hid (fun w => rbits_any x w hx)
  go_enter Tryz.func123, Tryz.ntmps123
  go_wp2_with fail
  refine (C1.out _).mono ?_
  rintro e w1 ⟨rfl, hb1⟩
  have HRB : Hid (Box w1 w.heap.size z7) := (Box.new w z7 99).below hb1
  rw [arrB_row]
  generalize hR : (rowB fun j => x.testBit j) = R
  have HR := Lib.hid hR
  clear hR
  have I0 : Hid ((Tryz.prog.info? 215).map (·.size) = some R.toArray.size) := by rw [← HR.out]; simp [Hid, info215, rowB_len]
  have I1 : Hid (R.toArray.all (·.oneCell') = true) := by rw [← HR.out]; exact rowB_oneCell _
  have hsz : R.toArray.size = 64 := by rw [← HR.out]; simp [rowB_len]
  have SZ := Lib.hid hsz
  have HB1 := Lib.hid ((below1 w _).trans (hb1.mono (below1 w _).size))
  clear hsz hb1 C1
  go_wp2_with (first | (refine wpList_store_mid (by rfl) 215 _ _ (by rfl) w1.heap.size 0 R.toArray (by rfl) (by rfl) (by rw [SZ.out]; exact there_new w1 _ _) I0.out I1.out ?_; (try simp only [List.toList_toArray]); generalize hW : World.setCells _ _ _ _ = W; have BC : Hid (BitCells (fun j => x.testBit j) w1.heap.size W ∧ Below w1.heap.size w1 W) := (by rw [← hW, ← HR.out]; exact ⟨BitCells.stored w1 (Array.replicate 64 (Value.bool false)) 215 _ (by simp), below_setCells (below1 w1 (.cells (Array.replicate 64 (Value.bool false)) 215)) (Nat.le_refl _) 0 (rowB fun j => x.testBit j)⟩); clear hW; have c0 := (BC.out.1 0 (by omega)).1; simp only [h0] at c0; have c1 := (BC.out.1 1 (by omega)).1; simp only [h1] at c1))
  refine (G1.out _).mono ?_
  rintro e w2 ⟨rfl, hb2⟩
  have HB2 := Lib.hid ((HB1.out.trans (BC.out.2.mono HB1.size)).trans (hb2.mono (HB1.out.trans (BC.out.2.mono HB1.size)).size))
  have BC2 : Hid (BitCells (fun j => x.testBit j) w1.heap.size w2) := BC.out.1.below hb2
  have HRB2 : Hid (Box w2 w.heap.size z7) := (HRB.out.below BC.out.2).below hb2
  replace c0 := keep_cell hb2 c0
  replace c1 := keep_cell hb2 c1
  clear hb2 BC HRB I0 I1 SZ HR G1
  clear HB1
  generalize w1.heap.size = G at *
  go_upto_region 12 with fail
  have c6 := (BC2.out 6 (by omega)).1
  have c7 := (BC2.out 7 (by omega)).1
  have c10 := (BC2.out 10 (by omega)).1
  have c54 := (BC2.out 54 (by omega)).1
  simp only [h6, h7, h10, h54] at c6 c7 c10 c54
  go_cut [9] (fun dv wx => ∃ g : Nat, dv = .pointer (some ⟨g, 0, none⟩) ∧ Hid (Box wx g [.int .i64 2, .int .u64 O, .bool b6, .bool (!b7), .bool (!b54), .bool b10, .int .i64 A]) ∧ Hid (w2.heap.size ≤ g) ∧ Hid (Below w2.heap.size w2 wx))
  case first =>
   have hC : CtxB w2 w2 := Below.refl _ _
   go_region_held3 (fun u => u.cell? ⟨G, 6, none⟩ = some (.bool b6) ∧ u.cell? ⟨G, 7, none⟩ = some (.bool b7) ∧ u.cell? ⟨G, 10, none⟩ = some (.bool b10) ∧ u.cell? ⟨G, 54, none⟩ = some (.bool b54) ∧ CtxB w2 u)
    (first | with_reducible assumption | (with_reducible exact ⟨drew_cell c6, drew_cell c7, drew_cell c10, drew_cell c54, hC.drew⟩) | ((try dsimp only); with_reducible show World.cell? w5 _ = _ ∧ _; go_split_ands; with_reducible exact ⟨keep_cell hb5 (by assumption), keep_cell hb5 (by assumption), keep_cell hb5 (by assumption), keep_cell hb5 (by assumption), CtxB.next (by assumption) hb5⟩) | ((try dsimp only); with_reducible show World.cell? (World.alloc _ _) _ = _ ∧ _; go_split_ands; with_reducible exact ⟨keep_cell (below1 _ _) (by assumption), keep_cell (below1 _ _) (by assumption), keep_cell (below1 _ _) (by assumption), keep_cell (below1 _ _) (by assumption), CtxB.next (by assumption) (below1 _ _)⟩) | ((try dsimp only); with_reducible show World.cell? (World.alloc _ _) _ = _ ∧ _; with_reducible exact ⟨CtxB.keep (CtxB.next (CtxB.next hC.drew hb5) (below1 _ _)) c6, CtxB.keep (CtxB.next (CtxB.next hC.drew hb5) (below1 _ _)) c7, CtxB.keep (CtxB.next (CtxB.next hC.drew hb5) (below1 _ _)) c10, CtxB.keep (CtxB.next (CtxB.next hC.drew hb5) (below1 _ _)) c54, CtxB.next (CtxB.next hC.drew hb5) (below1 _ _)⟩) | ((try dsimp only); with_reducible show World.cell? (World.drew _) _ = _ ∧ _; exact ⟨CtxB.keep (CtxB.drew (CtxB.next hC (below1 _ _))) c6, CtxB.keep (CtxB.drew (CtxB.next hC (below1 _ _))) c7, CtxB.keep (CtxB.drew (CtxB.next hC (below1 _ _))) c10, CtxB.keep (CtxB.drew (CtxB.next hC (below1 _ _))) c54, CtxB.drew (CtxB.next hC (below1 _ _))⟩) | ((try dsimp only); with_reducible show World.cell? (World.setCell _ _ _) _ = _ ∧ _; go_split_ands; have hN := Nat.le_refl 0; with_reducible exact ⟨CtxB.keep (CtxB.setC (CtxB.setC (CtxB.setC (CtxB.setC (CtxB.setC (CtxB.setC (CtxB.setC ((by assumption)) (by first | exact Nat.le_refl _ | exact hz5) _) (by first | exact Nat.le_refl _ | exact hz5) _) (by first | exact Nat.le_refl _ | exact hz5) _) (by first | exact Nat.le_refl _ | exact hz5) _) (by first | exact Nat.le_refl _ | exact hz5) _) (by first | exact Nat.le_refl _ | exact hz5) _) (by first | exact Nat.le_refl _ | exact hz5) _) c6, CtxB.keep (CtxB.setC (CtxB.setC (CtxB.setC (CtxB.setC (CtxB.setC (CtxB.setC (CtxB.setC ((by assumption)) (by first | exact Nat.le_refl _ | exact hz5) _) (by first | exact Nat.le_refl _ | exact hz5) _) (by first | exact Nat.le_refl _ | exact hz5) _) (by first | exact Nat.le_refl _ | exact hz5) _) (by first | exact Nat.le_refl _ | exact hz5) _) (by first | exact Nat.le_refl _ | exact hz5) _) (by first | exact Nat.le_refl _ | exact hz5) _) c7, CtxB.keep (CtxB.setC (CtxB.setC (CtxB.setC (CtxB.setC (CtxB.setC (CtxB.setC (CtxB.setC ((by assumption)) (by first | exact Nat.le_refl _ | exact hz5) _) (by first | exact Nat.le_refl _ | exact hz5) _) (by first | exact Nat.le_refl _ | exact hz5) _) (by first | exact Nat.le_refl _ | exact hz5) _) (by first | exact Nat.le_refl _ | exact hz5) _) (by first | exact Nat.le_refl _ | exact hz5) _) (by first | exact Nat.le_refl _ | exact hz5) _) c10, CtxB.keep (CtxB.setC (CtxB.setC (CtxB.setC (CtxB.setC (CtxB.setC (CtxB.setC (CtxB.setC ((by assumption)) (by first | exact Nat.le_refl _ | exact hz5) _) (by first | exact Nat.le_refl _ | exact hz5) _) (by first | exact Nat.le_refl _ | exact hz5) _) (by first | exact Nat.le_refl _ | exact hz5) _) (by first | exact Nat.le_refl _ | exact hz5) _) (by first | exact Nat.le_refl _ | exact hz5) _) (by first | exact Nat.le_refl _ | exact hz5) _) c54, CtxB.setC (CtxB.setC (CtxB.setC (CtxB.setC (CtxB.setC (CtxB.setC (CtxB.setC ((by assumption)) (by first | exact Nat.le_refl _ | exact hz5) _) (by first | exact Nat.le_refl _ | exact hz5) _) (by first | exact Nat.le_refl _ | exact hz5) _) (by first | exact Nat.le_refl _ | exact hz5) _) (by first | exact Nat.le_refl _ | exact hz5) _) (by first | exact Nat.le_refl _ | exact hz5) _) (by first | exact Nat.le_refl _ | exact hz5) _⟩))
    (first | (go_at_call 87; refine (G2.out _).mono ?_; rintro e w5 ⟨rfl, hb5⟩; have hz5 : w2.heap.size ≤ w5.heap.size := (by have h5 := hb5.size; simp at h5; omega); try (have hbx : Below (w2.alloc (.cells #[.int .i64 0, .int .u64 0, .bool false, .bool false, .bool false, .bool false, .int .i64 0] 99)).drew.heap.size (w2.alloc (.cells #[.int .i64 0, .int .u64 0, .bool false, .bool false, .bool false, .bool false, .int .i64 0] 99)).drew w5 := (by with_reducible exact hb5); have BY5 : Box w5 w2.heap.size z7 := (Box.new w2 z7 99).below (Below.trans (Below.drew (Below.refl _ _)) hbx); have y0 := BY5.at 0 _ rfl; have y1 := BY5.at 1 _ rfl; have y2 := BY5.at 2 _ rfl; have y3 := BY5.at 3 _ rfl; have y4 := BY5.at 4 _ rfl; have y5 := BY5.at 5 _ rfl; have y6 := BY5.at 6 _ rfl; have fy := BY5.2.1; have zy := BY5.2.2)))
   ·go_wp2_with fail
    go_meet
    exact ⟨_, rfl, Box.new w5 [.int .i64 2, .int .u64 O, .bool b6, .bool (!b7), .bool (!b54), .bool b10, .int .i64 A] 99, hz5, ((Below.drew (Below.refl w2.heap.size w2)).trans hb5).alloc hz5 _⟩
   ·go_wp2_with fail
    go_meet
    rw [set7_eq]
    have hbw : Below w2.heap.size w2 w5 := ((below1 w2 _).drew).trans (hb5.mono (by simp))
    have hbx : Box w5 w2.heap.size z7 := (Box.new w2 z7 99).below (Below.trans (Below.drew (Below.refl _ _)) hb5)
    exact ⟨_, rfl, hbx.put (news := [.int .i64 2, .int .u64 O, .bool b6, .bool (!b7), .bool (!b54), .bool b10, .int .i64 A]) rfl, Nat.le_refl _, below_setCells hbw (Nat.le_refl _) 0 _⟩
  case rest =>
   obtain ⟨D, rfl, HDB, HDG, HBC⟩ := hcut
   have HBC1 := HBC
   have HBW0 : Hid (Below w.heap.size w wc) := HB2.out.trans (HBC.out.mono HB2.out.size)
   have HRW : Hid (Box wc w.heap.size z7) := HRB2.out.below HBC.out
   have BC3 : Hid (BitCells (fun j => x.testBit j) G wc) := BC2.out.below HBC.out
   have hGD : ¬ G = D := by
    have h1 := World.block_lt_of_cell? w2 _ c6
    have := HDG.out
    dsimp only at h1
    omega
   have HGD := Lib.hid hGD
   have c1 := (BC3.out 1 (by omega)).1
   simp only [h1] at c1
   clear c0 c6 c7 c10 c54 hGD
   go_upto_if 60 with fail
   go_cut [] (fun wx => Hid (Box wx D [.int .i64 2, .int .u64 O, .bool b6, .bool (!b7), .bool (!b54), .bool b10, .int .i64 A]) ∧ Hid (Below w2.heap.size w2 wx))
   case first =>
    have fd0 := HDB.out.2.1 0
    have d0 := HDB.out.at 0 _ rfl
    have zd := HDB.out.2.2
    go_wp2_with fail
    go_meet
    exact ⟨HDB, HBC⟩
   clear HBW0 HRW
   obtain ⟨HDL, HBL⟩ := hcut
   have HRW : Hid (Box wc w.heap.size z7) := HRB2.out.below HBL.out
   have BC4 : Hid (BitCells (fun j => x.testBit j) G wc) := BC2.out.below HBL.out
   have HBW : Hid (Below w.heap.size w wc) := HB2.out.trans (HBL.out.mono HB2.out.size)
   have c8 := (BC4.out 8 (by omega)).1
   have c9 := (BC4.out 9 (by omega)).1
   have c11 := (BC4.out 11 (by omega)).1
   have c53 := (BC4.out 53 (by omega)).1
   have c5 := (BC4.out 5 (by omega)).1
   simp only [h8, h9, h11, h53, h5] at c8 c9 c11 c53 c5
   clear HB2 HRB2
   have d0 := HDL.out.at 0 _ rfl
   have zd := HDL.out.2.2
   by_cases hz0 : level = 0
   ·have e0 : ((level : Int) == 0) = true := by simp; omega
    have BX := HRW.out
    have r0 := BX.at 0 _ rfl
    have r1 := BX.at 1 _ rfl
    have r2 := BX.at 2 _ rfl
    have r3 := BX.at 3 _ rfl
    have r4 := BX.at 4 _ rfl
    have r5 := BX.at 5 _ rfl
    have r6 := BX.at 6 _ rfl
    have fr := BX.2.1
    have zr := BX.2.2
    clear BX
    go_wp2
    refine bodyPost_ret (v := .tuple #[dV zeroD, .bool false]) (by simp [results, Tryz.results123, go_sem, zr, r0, r1, r2, r3, r4, r5, r6, dV, zeroD]) rfl (.inr ⟨fun h => (by have := (HOK.out.1 h).1; rw [HLD.out, hz0] at this; simp [leafK] at this), rfl, ?_⟩)
    rw [set7_eq]
    exact below_setCells HBW.out (Nat.le_refl _) 0 _
   by_cases hz3 : level = 3
   ·have e0 : ((level : Int) == 0) = false := by simp; omega
    have e3 : ((level : Int) == 3) = true := by simp; omega
    have BX := HRW.out
    have r0 := BX.at 0 _ rfl
    have r1 := BX.at 1 _ rfl
    have r2 := BX.at 2 _ rfl
    have r3 := BX.at 3 _ rfl
    have r4 := BX.at 4 _ rfl
    have r5 := BX.at 5 _ rfl
    have r6 := BX.at 6 _ rfl
    have fr := BX.2.1
    have zr := BX.2.2
    clear BX
    go_wp2
    refine bodyPost_ret (v := .tuple #[dV zeroD, .bool false]) (by simp [results, Tryz.results123, go_sem, zr, r0, r1, r2, r3, r4, r5, r6, dV, zeroD]) rfl (.inr ⟨fun h => (by have := (HOK.out.1 h).1; rw [HLD.out, hz3] at this; simp [leafK] at this), rfl, ?_⟩)
    rw [set7_eq]
    exact below_setCells HBW.out (Nat.le_refl _) 0 _
   have e0 : ((level : Int) == 0) = false := by simp; omega
   have e3 : ((level : Int) == 3) = false := by simp; omega
   cases b8 with
   | false =>
    have BX := HRW.out
    have r0 := BX.at 0 _ rfl
    have r1 := BX.at 1 _ rfl
    have r2 := BX.at 2 _ rfl
    have r3 := BX.at 3 _ rfl
    have r4 := BX.at 4 _ rfl
    have r5 := BX.at 5 _ rfl
    have r6 := BX.at 6 _ rfl
    have fr := BX.2.1
    have zr := BX.2.2
    clear BX
    go_wp2
    refine bodyPost_ret (v := .tuple #[dV zeroD, .bool false]) (by simp [results, Tryz.results123, go_sem, zr, r0, r1, r2, r3, r4, r5, r6, dV, zeroD]) rfl (.inr ⟨fun h => (by have := (HOK.out.1 h).2.1; cases this), rfl, ?_⟩)
    rw [set7_eq]
    exact below_setCells HBW.out (Nat.le_refl _) 0 _
   | true =>
   cases b9 with
   | false =>
    have BX := HRW.out
    have r0 := BX.at 0 _ rfl
    have r1 := BX.at 1 _ rfl
    have r2 := BX.at 2 _ rfl
    have r3 := BX.at 3 _ rfl
    have r4 := BX.at 4 _ rfl
    have r5 := BX.at 5 _ rfl
    have r6 := BX.at 6 _ rfl
    have fr := BX.2.1
    have zr := BX.2.2
    clear BX
    go_wp2
    refine bodyPost_ret (v := .tuple #[dV zeroD, .bool false]) (by simp [results, Tryz.results123, go_sem, zr, r0, r1, r2, r3, r4, r5, r6, dV, zeroD]) rfl (.inr ⟨fun h => (by have := (HOK.out.1 h).2.2.1; cases this), rfl, ?_⟩)
    rw [set7_eq]
    exact below_setCells HBW.out (Nat.le_refl _) 0 _
   | true =>
   cases b11 with
   | false =>
    have BX := HRW.out
    have r0 := BX.at 0 _ rfl
    have r1 := BX.at 1 _ rfl
    have r2 := BX.at 2 _ rfl
    have r3 := BX.at 3 _ rfl
    have r4 := BX.at 4 _ rfl
    have r5 := BX.at 5 _ rfl
    have r6 := BX.at 6 _ rfl
    have fr := BX.2.1
    have zr := BX.2.2
    clear BX
    go_wp2
    refine bodyPost_ret (v := .tuple #[dV zeroD, .bool false]) (by simp [results, Tryz.results123, go_sem, zr, r0, r1, r2, r3, r4, r5, r6, dV, zeroD]) rfl (.inr ⟨fun h => (by have := (HOK.out.1 h).2.2.2.1; cases this), rfl, ?_⟩)
    rw [set7_eq]
    exact below_setCells HBW.out (Nat.le_refl _) 0 _
   | true =>
   cases b53 with
   | false =>
    have BX := HRW.out
    have r0 := BX.at 0 _ rfl
    have r1 := BX.at 1 _ rfl
    have r2 := BX.at 2 _ rfl
    have r3 := BX.at 3 _ rfl
    have r4 := BX.at 4 _ rfl
    have r5 := BX.at 5 _ rfl
    have r6 := BX.at 6 _ rfl
    have fr := BX.2.1
    have zr := BX.2.2
    clear BX
    go_wp2
    refine bodyPost_ret (v := .tuple #[dV zeroD, .bool false]) (by simp [results, Tryz.results123, go_sem, zr, r0, r1, r2, r3, r4, r5, r6, dV, zeroD]) rfl (.inr ⟨fun h => (by have := (HOK.out.1 h).2.2.2.2.1; cases this), rfl, ?_⟩)
    rw [set7_eq]
    exact below_setCells HBW.out (Nat.le_refl _) 0 _
   | true =>
   cases b5 with
   | true =>
    have BX := HRW.out
    have r0 := BX.at 0 _ rfl
    have r1 := BX.at 1 _ rfl
    have r2 := BX.at 2 _ rfl
    have r3 := BX.at 3 _ rfl
    have r4 := BX.at 4 _ rfl
    have r5 := BX.at 5 _ rfl
    have r6 := BX.at 6 _ rfl
    have fr := BX.2.1
    have zr := BX.2.2
    clear BX
    go_wp2
    refine bodyPost_ret (v := .tuple #[dV zeroD, .bool false]) (by simp [results, Tryz.results123, go_sem, zr, r0, r1, r2, r3, r4, r5, r6, dV, zeroD]) rfl (.inr ⟨fun h => (by have := (HOK.out.1 h).2.2.2.2.2.1; cases this), rfl, ?_⟩)
    rw [set7_eq]
    exact below_setCells HBW.out (Nat.le_refl _) 0 _
   | false =>
    go_wp2
    clear c8 c9 c11 c53 c5 d0
    go_loopw [10] (fun iv wr => ∃ i : Nat, iv = .int .i64 i ∧ 12 ≤ i ∧ i ≤ 64 ∧ Hid (∀ j, 12 ≤ j → j < i → x.testBit j = true → bl ≤ j ∧ (j ≤ 47 ∨ j = 53 ∨ j = 54)) ∧ Hid (Below wc.heap.size wc wr)) (fun iv _ => 64 - (RowKit.intOf iv).toNat)
    case atStart => exact ⟨12, rfl, by omega, by omega, fun j a b => by omega, Below.refl _ _⟩
    case round =>
     obtain ⟨i, rfl, hi12, hi, HALL, HBR⟩ := hrel
     by_cases hlt : i < 64
     ·have ci : wr.cell? ⟨G, i, none⟩ = some (.bool (x.testBit i)) := (BC4.out.below HBR.out i hlt).1
      have e5 : (i : Int) < 64 := by omega
      cases hb : x.testBit i with
      | false =>
       rw [hb] at ci
       go_wp2
       go_roundw
       case rel => exact ⟨i + 1, by first | rfl | go_num, by omega, by omega, fun j a b hj => by
        by_cases he : j = i
        ·subst he; first | omega | (have := Q53.out; omega) | (have := Q54.out; omega) | (exact absurd hj (by simp [hb]))
        ·exact HALL.out j a (by omega) hj, HBR⟩
       case measure => simp [RowKit.intOf]; omega
      | true =>
       rw [hb] at ci
       by_cases hl1 : i < bl
       ·have e1 : decide ((i : Int) < (bl : Int)) = true := by simp; omega
        have e1' : decide (i < bl) = true := by simp; omega
        go_wp2_with fail
        refine (C3.out _).mono ?_
        rintro e w5 ⟨rfl, hb5⟩
        have HB5 : Hid (Below wc.heap.size wc w5) := HBR.out.trans (hb5.mono HBR.out.size)
        have HRW : Hid (Box w5 w.heap.size z7) := HRW.out.below HB5.out
        have HBW : Hid (Below w.heap.size w w5) := HBW.out.trans (HB5.out.mono HBW.out.size)
        clear hb5
        have BX := HRW.out
        have r0 := BX.at 0 _ rfl
        have r1 := BX.at 1 _ rfl
        have r2 := BX.at 2 _ rfl
        have r3 := BX.at 3 _ rfl
        have r4 := BX.at 4 _ rfl
        have r5 := BX.at 5 _ rfl
        have r6 := BX.at 6 _ rfl
        have fr := BX.2.1
        have zr := BX.2.2
        clear BX
        go_wp2
        refine bodyPost_ret (v := .tuple #[dV zeroD, .bool false]) (by simp [results, Tryz.results123, go_sem, zr, r0, r1, r2, r3, r4, r5, r6, dV, zeroD]) rfl (.inr ⟨fun h => (by have := ((HOK.out.1 h).2.2.2.2.2.2 i hi12 hlt hb).1; omega), rfl, ?_⟩)
        rw [set7_eq]
        exact below_setCells HBW.out (Nat.le_refl _) 0 _
       ·have e1 : decide ((i : Int) < (bl : Int)) = false := by simp; omega
        have e1' : decide (i < bl) = false := by simp; omega
        by_cases h47 : 47 < i
        ·have e2 : decide ((47 : Int) < (i : Int)) = true := by simp; omega
         by_cases q53 : i = 53
         ·have e3 : ((i : Int) != 53) = false := by simp; omega
          have Q53 := Lib.hid q53
          clear q53
          go_wp2_with fail
          refine (C3.out _).mono ?_
          rintro e w5 ⟨rfl, hb5⟩
          have HB5 : Hid (Below wc.heap.size wc w5) := HBR.out.trans (hb5.mono HBR.out.size)
          have HRW : Hid (Box w5 w.heap.size z7) := HRW.out.below HB5.out
          have HBW : Hid (Below w.heap.size w w5) := HBW.out.trans (HB5.out.mono HBW.out.size)
          clear hb5
          go_wp2
          go_roundw
          case rel => exact ⟨i + 1, by first | rfl | go_num, by omega, by omega, fun j a b hj => by
           by_cases he : j = i
           ·subst he; first | omega | (have := Q53.out; omega) | (have := Q54.out; omega) | (exact absurd hj (by simp [hb]))
           ·exact HALL.out j a (by omega) hj, HB5⟩
          case measure => simp [RowKit.intOf]; omega
         ·have e3 : ((i : Int) != 53) = true := by simp; omega
          by_cases q54 : i = 54
          ·have e4 : ((i : Int) != 54) = false := by simp; omega
           have Q54 := Lib.hid q54
           clear q54
           go_wp2_with fail
           refine (C3.out _).mono ?_
           rintro e w5 ⟨rfl, hb5⟩
           have HB5 : Hid (Below wc.heap.size wc w5) := HBR.out.trans (hb5.mono HBR.out.size)
           have HRW : Hid (Box w5 w.heap.size z7) := HRW.out.below HB5.out
           have HBW : Hid (Below w.heap.size w w5) := HBW.out.trans (HB5.out.mono HBW.out.size)
           clear hb5
           go_wp2
           go_roundw
           case rel => exact ⟨i + 1, by first | rfl | go_num, by omega, by omega, fun j a b hj => by
            by_cases he : j = i
            ·subst he; first | omega | (have := Q53.out; omega) | (have := Q54.out; omega) | (exact absurd hj (by simp [hb]))
            ·exact HALL.out j a (by omega) hj, HB5⟩
           case measure => simp [RowKit.intOf]; omega
          ·have e4 : ((i : Int) != 54) = true := by simp; omega
           go_wp2_with fail
           refine (C3.out _).mono ?_
           rintro e w5 ⟨rfl, hb5⟩
           have HB5 : Hid (Below wc.heap.size wc w5) := HBR.out.trans (hb5.mono HBR.out.size)
           have HRW : Hid (Box w5 w.heap.size z7) := HRW.out.below HB5.out
           have HBW : Hid (Below w.heap.size w w5) := HBW.out.trans (HB5.out.mono HBW.out.size)
           clear hb5
           have BX := HRW.out
           have r0 := BX.at 0 _ rfl
           have r1 := BX.at 1 _ rfl
           have r2 := BX.at 2 _ rfl
           have r3 := BX.at 3 _ rfl
           have r4 := BX.at 4 _ rfl
           have r5 := BX.at 5 _ rfl
           have r6 := BX.at 6 _ rfl
           have fr := BX.2.1
           have zr := BX.2.2
           clear BX
           go_wp2
           refine bodyPost_ret (v := .tuple #[dV zeroD, .bool false]) (by simp [results, Tryz.results123, go_sem, zr, r0, r1, r2, r3, r4, r5, r6, dV, zeroD]) rfl (.inr ⟨fun h => (by have := ((HOK.out.1 h).2.2.2.2.2.2 i hi12 hlt hb).2; omega), rfl, ?_⟩)
           rw [set7_eq]
           exact below_setCells HBW.out (Nat.le_refl _) 0 _
        ·have e2 : decide ((47 : Int) < (i : Int)) = false := by simp; omega
         go_wp2_with fail
         refine (C3.out _).mono ?_
         rintro e w5 ⟨rfl, hb5⟩
         have HB5 : Hid (Below wc.heap.size wc w5) := HBR.out.trans (hb5.mono HBR.out.size)
         have HRW : Hid (Box w5 w.heap.size z7) := HRW.out.below HB5.out
         have HBW : Hid (Below w.heap.size w w5) := HBW.out.trans (HB5.out.mono HBW.out.size)
         clear hb5
         go_wp2
         go_roundw
         case rel => exact ⟨i + 1, by first | rfl | go_num, by omega, by omega, fun j a b hj => by
          by_cases he : j = i
          ·subst he; first | omega | (have := Q53.out; omega) | (have := Q54.out; omega) | (exact absurd hj (by simp [hb]))
          ·exact HALL.out j a (by omega) hj, HB5⟩
         case measure => simp [RowKit.intOf]; omega
     ·obtain rfl : i = 64 := by omega
      have BX := (HRW.out.below HBR.out)
      have r0 := BX.at 0 _ rfl
      have r1 := BX.at 1 _ rfl
      have r2 := BX.at 2 _ rfl
      have r3 := BX.at 3 _ rfl
      have r4 := BX.at 4 _ rfl
      have r5 := BX.at 5 _ rfl
      have r6 := BX.at 6 _ rfl
      have fr := BX.2.1
      have zr := BX.2.2
      have BY := (HDL.out.below HBR.out)
      have s0 := BY.at 0 _ rfl
      have s1 := BY.at 1 _ rfl
      have s2 := BY.at 2 _ rfl
      have s3 := BY.at 3 _ rfl
      have s4 := BY.at 4 _ rfl
      have s5 := BY.at 5 _ rfl
      have s6 := BY.at 6 _ rfl
      have fs := BY.2.1
      have zs := BY.2.2
      clear BX BY
      go_wp2
      refine bodyPost_ret (v := .tuple #[dV ⟨2, O, b6, !b7, !b54, b10, A⟩, .bool true]) (by simp [results, Tryz.results123, go_sem, zr, r0, r1, r2, r3, r4, r5, r6, dV]) rfl (.inl ⟨?_, ?_, ?_⟩)
      ·exact HOK.out.2 ⟨(by rw [HLD.out]; simp [leafK]; omega), by simp, by simp, by simp, by simp, by simp, HALL.out⟩
      ·rw [HLD.out]; rfl
      ·rw [set7_eq]
       exact below_setCells (HBW.out.trans (HBR.out.mono HBW.out.size)) (Nat.le_refl _) 0 _
 | true =>
  rw [h1] at hLD
  have HLD := Lib.hid hLD
  have hl3 : level = 3 := by
   have : ¬ level < 3 := fun h => hn ⟨h1, h⟩
   omega
  have e9 : decide ((level : Int) < 3) = false := by simp; omega
  have HL3 := Lib.hid hl3
  clear hLD hn hl3
  have C1 := Lib.hid (fun w => rbits_any x w hx)
  go_enter Tryz.func123, Tryz.ntmps123
  go_wp2_with fail
  refine (C1.out _).mono ?_
  rintro e w1 ⟨rfl, hb1⟩
  have HRB : Hid (Box w1 w.heap.size z7) := (Box.new w z7 99).below hb1
  rw [arrB_row]
  generalize hR : (rowB fun j => x.testBit j) = R
  have HR := Lib.hid hR
  clear hR
  have I0 : Hid ((Tryz.prog.info? 215).map (·.size) = some R.toArray.size) := by rw [← HR.out]; simp [Hid, info215, rowB_len]
  have I1 : Hid (R.toArray.all (·.oneCell') = true) := by rw [← HR.out]; exact rowB_oneCell _
  have hsz : R.toArray.size = 64 := by rw [← HR.out]; simp [rowB_len]
  have SZ := Lib.hid hsz
  have HB1 := Lib.hid ((below1 w _).trans (hb1.mono (below1 w _).size))
  clear hsz hb1 C1
  go_wp2_with (first | (refine wpList_store_mid (by rfl) 215 _ _ (by rfl) w1.heap.size 0 R.toArray (by rfl) (by rfl) (by rw [SZ.out]; exact there_new w1 _ _) I0.out I1.out ?_; (try simp only [List.toList_toArray]); generalize hW : World.setCells _ _ _ _ = W; have BC : Hid (BitCells (fun j => x.testBit j) w1.heap.size W ∧ Below w1.heap.size w1 W) := (by rw [← hW, ← HR.out]; exact ⟨BitCells.stored w1 (Array.replicate 64 (Value.bool false)) 215 _ (by simp), below_setCells (below1 w1 (.cells (Array.replicate 64 (Value.bool false)) 215)) (Nat.le_refl _) 0 (rowB fun j => x.testBit j)⟩); clear hW; have c0 := (BC.out.1 0 (by omega)).1; simp only [h0] at c0; have c1 := (BC.out.1 1 (by omega)).1; simp only [h1] at c1))
  refine (G1.out _).mono ?_
  rintro e w2 ⟨rfl, hb2⟩
  have HB2 := Lib.hid ((HB1.out.trans (BC.out.2.mono HB1.size)).trans (hb2.mono (HB1.out.trans (BC.out.2.mono HB1.size)).size))
  have BC2 : Hid (BitCells (fun j => x.testBit j) w1.heap.size w2) := BC.out.1.below hb2
  have HRB2 : Hid (Box w2 w.heap.size z7) := (HRB.out.below BC.out.2).below hb2
  replace c0 := keep_cell hb2 c0
  replace c1 := keep_cell hb2 c1
  clear hb2 BC HRB I0 I1 SZ HR G1
  clear HB1
  generalize w1.heap.size = G at *
  go_upto_region 12 with fail
  have c6 := (BC2.out 6 (by omega)).1
  have c7 := (BC2.out 7 (by omega)).1
  have c10 := (BC2.out 10 (by omega)).1
  have c54 := (BC2.out 54 (by omega)).1
  simp only [h6, h7, h10, h54] at c6 c7 c10 c54
  go_cut [9] (fun dv wx => ∃ g : Nat, dv = .pointer (some ⟨g, 0, none⟩) ∧ Hid (Box wx g [.int .i64 2, .int .u64 O, .bool b6, .bool (!b7), .bool (!b54), .bool b10, .int .i64 A]) ∧ Hid (w2.heap.size ≤ g) ∧ Hid (Below w2.heap.size w2 wx))
  case first =>
   have hC : CtxB w2 w2 := Below.refl _ _
   go_region_held3 (fun u => u.cell? ⟨G, 6, none⟩ = some (.bool b6) ∧ u.cell? ⟨G, 7, none⟩ = some (.bool b7) ∧ u.cell? ⟨G, 10, none⟩ = some (.bool b10) ∧ u.cell? ⟨G, 54, none⟩ = some (.bool b54) ∧ CtxB w2 u)
    (first | with_reducible assumption | (with_reducible exact ⟨drew_cell c6, drew_cell c7, drew_cell c10, drew_cell c54, hC.drew⟩) | ((try dsimp only); with_reducible show World.cell? w5 _ = _ ∧ _; go_split_ands; with_reducible exact ⟨keep_cell hb5 (by assumption), keep_cell hb5 (by assumption), keep_cell hb5 (by assumption), keep_cell hb5 (by assumption), CtxB.next (by assumption) hb5⟩) | ((try dsimp only); with_reducible show World.cell? (World.alloc _ _) _ = _ ∧ _; go_split_ands; with_reducible exact ⟨keep_cell (below1 _ _) (by assumption), keep_cell (below1 _ _) (by assumption), keep_cell (below1 _ _) (by assumption), keep_cell (below1 _ _) (by assumption), CtxB.next (by assumption) (below1 _ _)⟩) | ((try dsimp only); with_reducible show World.cell? (World.alloc _ _) _ = _ ∧ _; with_reducible exact ⟨CtxB.keep (CtxB.next (CtxB.next hC.drew hb5) (below1 _ _)) c6, CtxB.keep (CtxB.next (CtxB.next hC.drew hb5) (below1 _ _)) c7, CtxB.keep (CtxB.next (CtxB.next hC.drew hb5) (below1 _ _)) c10, CtxB.keep (CtxB.next (CtxB.next hC.drew hb5) (below1 _ _)) c54, CtxB.next (CtxB.next hC.drew hb5) (below1 _ _)⟩) | ((try dsimp only); with_reducible show World.cell? (World.drew _) _ = _ ∧ _; exact ⟨CtxB.keep (CtxB.drew (CtxB.next hC (below1 _ _))) c6, CtxB.keep (CtxB.drew (CtxB.next hC (below1 _ _))) c7, CtxB.keep (CtxB.drew (CtxB.next hC (below1 _ _))) c10, CtxB.keep (CtxB.drew (CtxB.next hC (below1 _ _))) c54, CtxB.drew (CtxB.next hC (below1 _ _))⟩) | ((try dsimp only); with_reducible show World.cell? (World.setCell _ _ _) _ = _ ∧ _; go_split_ands; have hN := Nat.le_refl 0; with_reducible exact ⟨CtxB.keep (CtxB.setC (CtxB.setC (CtxB.setC (CtxB.setC (CtxB.setC (CtxB.setC (CtxB.setC ((by assumption)) (by first | exact Nat.le_refl _ | exact hz5) _) (by first | exact Nat.le_refl _ | exact hz5) _) (by first | exact Nat.le_refl _ | exact hz5) _) (by first | exact Nat.le_refl _ | exact hz5) _) (by first | exact Nat.le_refl _ | exact hz5) _) (by first | exact Nat.le_refl _ | exact hz5) _) (by first | exact Nat.le_refl _ | exact hz5) _) c6, CtxB.keep (CtxB.setC (CtxB.setC (CtxB.setC (CtxB.setC (CtxB.setC (CtxB.setC (CtxB.setC ((by assumption)) (by first | exact Nat.le_refl _ | exact hz5) _) (by first | exact Nat.le_refl _ | exact hz5) _) (by first | exact Nat.le_refl _ | exact hz5) _) (by first | exact Nat.le_refl _ | exact hz5) _) (by first | exact Nat.le_refl _ | exact hz5) _) (by first | exact Nat.le_refl _ | exact hz5) _) (by first | exact Nat.le_refl _ | exact hz5) _) c7, CtxB.keep (CtxB.setC (CtxB.setC (CtxB.setC (CtxB.setC (CtxB.setC (CtxB.setC (CtxB.setC ((by assumption)) (by first | exact Nat.le_refl _ | exact hz5) _) (by first | exact Nat.le_refl _ | exact hz5) _) (by first | exact Nat.le_refl _ | exact hz5) _) (by first | exact Nat.le_refl _ | exact hz5) _) (by first | exact Nat.le_refl _ | exact hz5) _) (by first | exact Nat.le_refl _ | exact hz5) _) (by first | exact Nat.le_refl _ | exact hz5) _) c10, CtxB.keep (CtxB.setC (CtxB.setC (CtxB.setC (CtxB.setC (CtxB.setC (CtxB.setC (CtxB.setC ((by assumption)) (by first | exact Nat.le_refl _ | exact hz5) _) (by first | exact Nat.le_refl _ | exact hz5) _) (by first | exact Nat.le_refl _ | exact hz5) _) (by first | exact Nat.le_refl _ | exact hz5) _) (by first | exact Nat.le_refl _ | exact hz5) _) (by first | exact Nat.le_refl _ | exact hz5) _) (by first | exact Nat.le_refl _ | exact hz5) _) c54, CtxB.setC (CtxB.setC (CtxB.setC (CtxB.setC (CtxB.setC (CtxB.setC (CtxB.setC ((by assumption)) (by first | exact Nat.le_refl _ | exact hz5) _) (by first | exact Nat.le_refl _ | exact hz5) _) (by first | exact Nat.le_refl _ | exact hz5) _) (by first | exact Nat.le_refl _ | exact hz5) _) (by first | exact Nat.le_refl _ | exact hz5) _) (by first | exact Nat.le_refl _ | exact hz5) _) (by first | exact Nat.le_refl _ | exact hz5) _⟩))
    (first | (go_at_call 87; refine (G2.out _).mono ?_; rintro e w5 ⟨rfl, hb5⟩; have hz5 : w2.heap.size ≤ w5.heap.size := (by have h5 := hb5.size; simp at h5; omega); try (have hbx : Below (w2.alloc (.cells #[.int .i64 0, .int .u64 0, .bool false, .bool false, .bool false, .bool false, .int .i64 0] 99)).drew.heap.size (w2.alloc (.cells #[.int .i64 0, .int .u64 0, .bool false, .bool false, .bool false, .bool false, .int .i64 0] 99)).drew w5 := (by with_reducible exact hb5); have BY5 : Box w5 w2.heap.size z7 := (Box.new w2 z7 99).below (Below.trans (Below.drew (Below.refl _ _)) hbx); have y0 := BY5.at 0 _ rfl; have y1 := BY5.at 1 _ rfl; have y2 := BY5.at 2 _ rfl; have y3 := BY5.at 3 _ rfl; have y4 := BY5.at 4 _ rfl; have y5 := BY5.at 5 _ rfl; have y6 := BY5.at 6 _ rfl; have fy := BY5.2.1; have zy := BY5.2.2)))
   ·go_wp2_with fail
    go_meet
    exact ⟨_, rfl, Box.new w5 [.int .i64 2, .int .u64 O, .bool b6, .bool (!b7), .bool (!b54), .bool b10, .int .i64 A] 99, hz5, ((Below.drew (Below.refl w2.heap.size w2)).trans hb5).alloc hz5 _⟩
   ·go_wp2_with fail
    go_meet
    rw [set7_eq]
    have hbw : Below w2.heap.size w2 w5 := ((below1 w2 _).drew).trans (hb5.mono (by simp))
    have hbx : Box w5 w2.heap.size z7 := (Box.new w2 z7 99).below (Below.trans (Below.drew (Below.refl _ _)) hb5)
    exact ⟨_, rfl, hbx.put (news := [.int .i64 2, .int .u64 O, .bool b6, .bool (!b7), .bool (!b54), .bool b10, .int .i64 A]) rfl, Nat.le_refl _, below_setCells hbw (Nat.le_refl _) 0 _⟩
  case rest =>
   obtain ⟨D, rfl, HDB, HDG, HBC⟩ := hcut
   have HBC1 := HBC
   have HBW0 : Hid (Below w.heap.size w wc) := HB2.out.trans (HBC.out.mono HB2.out.size)
   have HRW : Hid (Box wc w.heap.size z7) := HRB2.out.below HBC.out
   have BC3 : Hid (BitCells (fun j => x.testBit j) G wc) := BC2.out.below HBC.out
   have hGD : ¬ G = D := by
    have h1 := World.block_lt_of_cell? w2 _ c6
    have := HDG.out
    dsimp only at h1
    omega
   have HGD := Lib.hid hGD
   have c1 := (BC3.out 1 (by omega)).1
   simp only [h1] at c1
   clear c0 c6 c7 c10 c54 hGD
   go_upto_if 60 with fail
   go_cut [] (fun wx => Hid (Box wx D [.int .i64 3, .int .u64 O, .bool b6, .bool (!b7), .bool (!b54), .bool b10, .int .i64 A]) ∧ Hid (Below w2.heap.size w2 wx))
   case first =>
    have fd0 := HDB.out.2.1 0
    have d0 := HDB.out.at 0 _ rfl
    have zd := HDB.out.2.2
    go_wp2_with fail
    go_meet
    exact ⟨HDB.out.set0 _, HBC.out.setCell HDG.out _⟩
   clear HBW0 HRW
   obtain ⟨HDL, HBL⟩ := hcut
   have HRW : Hid (Box wc w.heap.size z7) := HRB2.out.below HBL.out
   have BC4 : Hid (BitCells (fun j => x.testBit j) G wc) := BC2.out.below HBL.out
   have HBW : Hid (Below w.heap.size w wc) := HB2.out.trans (HBL.out.mono HB2.out.size)
   have c8 := (BC4.out 8 (by omega)).1
   have c9 := (BC4.out 9 (by omega)).1
   have c11 := (BC4.out 11 (by omega)).1
   have c53 := (BC4.out 53 (by omega)).1
   have c5 := (BC4.out 5 (by omega)).1
   simp only [h8, h9, h11, h53, h5] at c8 c9 c11 c53 c5
   clear HB2 HRB2
   have d0 := HDL.out.at 0 _ rfl
   have zd := HDL.out.2.2
   skip
   cases b8 with
   | false =>
    have BX := HRW.out
    have r0 := BX.at 0 _ rfl
    have r1 := BX.at 1 _ rfl
    have r2 := BX.at 2 _ rfl
    have r3 := BX.at 3 _ rfl
    have r4 := BX.at 4 _ rfl
    have r5 := BX.at 5 _ rfl
    have r6 := BX.at 6 _ rfl
    have fr := BX.2.1
    have zr := BX.2.2
    clear BX
    go_wp2
    refine bodyPost_ret (v := .tuple #[dV zeroD, .bool false]) (by simp [results, Tryz.results123, go_sem, zr, r0, r1, r2, r3, r4, r5, r6, dV, zeroD]) rfl (.inr ⟨fun h => (by have := (HOK.out.1 h).2.1; cases this), rfl, ?_⟩)
    rw [set7_eq]
    exact below_setCells HBW.out (Nat.le_refl _) 0 _
   | true =>
   cases b9 with
   | false =>
    have BX := HRW.out
    have r0 := BX.at 0 _ rfl
    have r1 := BX.at 1 _ rfl
    have r2 := BX.at 2 _ rfl
    have r3 := BX.at 3 _ rfl
    have r4 := BX.at 4 _ rfl
    have r5 := BX.at 5 _ rfl
    have r6 := BX.at 6 _ rfl
    have fr := BX.2.1
    have zr := BX.2.2
    clear BX
    go_wp2
    refine bodyPost_ret (v := .tuple #[dV zeroD, .bool false]) (by simp [results, Tryz.results123, go_sem, zr, r0, r1, r2, r3, r4, r5, r6, dV, zeroD]) rfl (.inr ⟨fun h => (by have := (HOK.out.1 h).2.2.1; cases this), rfl, ?_⟩)
    rw [set7_eq]
    exact below_setCells HBW.out (Nat.le_refl _) 0 _
   | true =>
   cases b11 with
   | false =>
    have BX := HRW.out
    have r0 := BX.at 0 _ rfl
    have r1 := BX.at 1 _ rfl
    have r2 := BX.at 2 _ rfl
    have r3 := BX.at 3 _ rfl
    have r4 := BX.at 4 _ rfl
    have r5 := BX.at 5 _ rfl
    have r6 := BX.at 6 _ rfl
    have fr := BX.2.1
    have zr := BX.2.2
    clear BX
    go_wp2
    refine bodyPost_ret (v := .tuple #[dV zeroD, .bool false]) (by simp [results, Tryz.results123, go_sem, zr, r0, r1, r2, r3, r4, r5, r6, dV, zeroD]) rfl (.inr ⟨fun h => (by have := (HOK.out.1 h).2.2.2.1; cases this), rfl, ?_⟩)
    rw [set7_eq]
    exact below_setCells HBW.out (Nat.le_refl _) 0 _
   | true =>
   cases b53 with
   | false =>
    have BX := HRW.out
    have r0 := BX.at 0 _ rfl
    have r1 := BX.at 1 _ rfl
    have r2 := BX.at 2 _ rfl
    have r3 := BX.at 3 _ rfl
    have r4 := BX.at 4 _ rfl
    have r5 := BX.at 5 _ rfl
    have r6 := BX.at 6 _ rfl
    have fr := BX.2.1
    have zr := BX.2.2
    clear BX
    go_wp2
    refine bodyPost_ret (v := .tuple #[dV zeroD, .bool false]) (by simp [results, Tryz.results123, go_sem, zr, r0, r1, r2, r3, r4, r5, r6, dV, zeroD]) rfl (.inr ⟨fun h => (by have := (HOK.out.1 h).2.2.2.2.1; cases this), rfl, ?_⟩)
    rw [set7_eq]
    exact below_setCells HBW.out (Nat.le_refl _) 0 _
   | true =>
   cases b5 with
   | true =>
    have BX := HRW.out
    have r0 := BX.at 0 _ rfl
    have r1 := BX.at 1 _ rfl
    have r2 := BX.at 2 _ rfl
    have r3 := BX.at 3 _ rfl
    have r4 := BX.at 4 _ rfl
    have r5 := BX.at 5 _ rfl
    have r6 := BX.at 6 _ rfl
    have fr := BX.2.1
    have zr := BX.2.2
    clear BX
    go_wp2
    refine bodyPost_ret (v := .tuple #[dV zeroD, .bool false]) (by simp [results, Tryz.results123, go_sem, zr, r0, r1, r2, r3, r4, r5, r6, dV, zeroD]) rfl (.inr ⟨fun h => (by have := (HOK.out.1 h).2.2.2.2.2.1; cases this), rfl, ?_⟩)
    rw [set7_eq]
    exact below_setCells HBW.out (Nat.le_refl _) 0 _
   | false =>
    go_wp2
    clear c8 c9 c11 c53 c5 d0
    go_loopw [10] (fun iv wr => ∃ i : Nat, iv = .int .i64 i ∧ 12 ≤ i ∧ i ≤ 64 ∧ Hid (∀ j, 12 ≤ j → j < i → x.testBit j = true → bl ≤ j ∧ (j ≤ 47 ∨ j = 53 ∨ j = 54)) ∧ Hid (Below wc.heap.size wc wr)) (fun iv _ => 64 - (RowKit.intOf iv).toNat)
    case atStart => exact ⟨12, rfl, by omega, by omega, fun j a b => by omega, Below.refl _ _⟩
    case round =>
     obtain ⟨i, rfl, hi12, hi, HALL, HBR⟩ := hrel
     by_cases hlt : i < 64
     ·have ci : wr.cell? ⟨G, i, none⟩ = some (.bool (x.testBit i)) := (BC4.out.below HBR.out i hlt).1
      have e5 : (i : Int) < 64 := by omega
      cases hb : x.testBit i with
      | false =>
       rw [hb] at ci
       go_wp2
       go_roundw
       case rel => exact ⟨i + 1, by first | rfl | go_num, by omega, by omega, fun j a b hj => by
        by_cases he : j = i
        ·subst he; first | omega | (have := Q53.out; omega) | (have := Q54.out; omega) | (exact absurd hj (by simp [hb]))
        ·exact HALL.out j a (by omega) hj, HBR⟩
       case measure => simp [RowKit.intOf]; omega
      | true =>
       rw [hb] at ci
       by_cases hl1 : i < bl
       ·have e1 : decide ((i : Int) < (bl : Int)) = true := by simp; omega
        have e1' : decide (i < bl) = true := by simp; omega
        go_wp2_with fail
        refine (C3.out _).mono ?_
        rintro e w5 ⟨rfl, hb5⟩
        have HB5 : Hid (Below wc.heap.size wc w5) := HBR.out.trans (hb5.mono HBR.out.size)
        have HRW : Hid (Box w5 w.heap.size z7) := HRW.out.below HB5.out
        have HBW : Hid (Below w.heap.size w w5) := HBW.out.trans (HB5.out.mono HBW.out.size)
        clear hb5
        have BX := HRW.out
        have r0 := BX.at 0 _ rfl
        have r1 := BX.at 1 _ rfl
        have r2 := BX.at 2 _ rfl
        have r3 := BX.at 3 _ rfl
        have r4 := BX.at 4 _ rfl
        have r5 := BX.at 5 _ rfl
        have r6 := BX.at 6 _ rfl
        have fr := BX.2.1
        have zr := BX.2.2
        clear BX
        go_wp2
        refine bodyPost_ret (v := .tuple #[dV zeroD, .bool false]) (by simp [results, Tryz.results123, go_sem, zr, r0, r1, r2, r3, r4, r5, r6, dV, zeroD]) rfl (.inr ⟨fun h => (by have := ((HOK.out.1 h).2.2.2.2.2.2 i hi12 hlt hb).1; omega), rfl, ?_⟩)
        rw [set7_eq]
        exact below_setCells HBW.out (Nat.le_refl _) 0 _
       ·have e1 : decide ((i : Int) < (bl : Int)) = false := by simp; omega
        have e1' : decide (i < bl) = false := by simp; omega
        by_cases h47 : 47 < i
        ·have e2 : decide ((47 : Int) < (i : Int)) = true := by simp; omega
         by_cases q53 : i = 53
         ·have e3 : ((i : Int) != 53) = false := by simp; omega
          have Q53 := Lib.hid q53
          clear q53
          go_wp2_with fail
          refine (C3.out _).mono ?_
          rintro e w5 ⟨rfl, hb5⟩
          have HB5 : Hid (Below wc.heap.size wc w5) := HBR.out.trans (hb5.mono HBR.out.size)
          have HRW : Hid (Box w5 w.heap.size z7) := HRW.out.below HB5.out
          have HBW : Hid (Below w.heap.size w w5) := HBW.out.trans (HB5.out.mono HBW.out.size)
          clear hb5
          go_wp2
          go_roundw
          case rel => exact ⟨i + 1, by first | rfl | go_num, by omega, by omega, fun j a b hj => by
           by_cases he : j = i
           ·subst he; first | omega | (have := Q53.out; omega) | (have := Q54.out; omega) | (exact absurd hj (by simp [hb]))
           ·exact HALL.out j a (by omega) hj, HB5⟩
          case measure => simp [RowKit.intOf]; omega
         ·have e3 : ((i : Int) != 53) = true := by simp; omega
          by_cases q54 : i = 54
          ·have e4 : ((i : Int) != 54) = false := by simp; omega
           have Q54 := Lib.hid q54
           clear q54
           go_wp2_with fail
           refine (C3.out _).mono ?_
           rintro e w5 ⟨rfl, hb5⟩
           have HB5 : Hid (Below wc.heap.size wc w5) := HBR.out.trans (hb5.mono HBR.out.size)
           have HRW : Hid (Box w5 w.heap.size z7) := HRW.out.below HB5.out
           have HBW : Hid (Below w.heap.size w w5) := HBW.out.trans (HB5.out.mono HBW.out.size)
           clear hb5
           go_wp2
           go_roundw
           case rel => exact ⟨i + 1, by first | rfl | go_num, by omega, by omega, fun j a b hj => by
            by_cases he : j = i
            ·subst he; first | omega | (have := Q53.out; omega) | (have := Q54.out; omega) | (exact absurd hj (by simp [hb]))
            ·exact HALL.out j a (by omega) hj, HB5⟩
           case measure => simp [RowKit.intOf]; omega
          ·have e4 : ((i : Int) != 54) = true := by simp; omega
           go_wp2_with fail
           refine (C3.out _).mono ?_
           rintro e w5 ⟨rfl, hb5⟩
           have HB5 : Hid (Below wc.heap.size wc w5) := HBR.out.trans (hb5.mono HBR.out.size)
           have HRW : Hid (Box w5 w.heap.size z7) := HRW.out.below HB5.out
           have HBW : Hid (Below w.heap.size w w5) := HBW.out.trans (HB5.out.mono HBW.out.size)
           clear hb5
           have BX := HRW.out
           have r0 := BX.at 0 _ rfl
           have r1 := BX.at 1 _ rfl
           have r2 := BX.at 2 _ rfl
           have r3 := BX.at 3 _ rfl
           have r4 := BX.at 4 _ rfl
           have r5 := BX.at 5 _ rfl
           have r6 := BX.at 6 _ rfl
           have fr := BX.2.1
           have zr := BX.2.2
           clear BX
           go_wp2
           refine bodyPost_ret (v := .tuple #[dV zeroD, .bool false]) (by simp [results, Tryz.results123, go_sem, zr, r0, r1, r2, r3, r4, r5, r6, dV, zeroD]) rfl (.inr ⟨fun h => (by have := ((HOK.out.1 h).2.2.2.2.2.2 i hi12 hlt hb).2; omega), rfl, ?_⟩)
           rw [set7_eq]
           exact below_setCells HBW.out (Nat.le_refl _) 0 _
        ·have e2 : decide ((47 : Int) < (i : Int)) = false := by simp; omega
         go_wp2_with fail
         refine (C3.out _).mono ?_
         rintro e w5 ⟨rfl, hb5⟩
         have HB5 : Hid (Below wc.heap.size wc w5) := HBR.out.trans (hb5.mono HBR.out.size)
         have HRW : Hid (Box w5 w.heap.size z7) := HRW.out.below HB5.out
         have HBW : Hid (Below w.heap.size w w5) := HBW.out.trans (HB5.out.mono HBW.out.size)
         clear hb5
         go_wp2
         go_roundw
         case rel => exact ⟨i + 1, by first | rfl | go_num, by omega, by omega, fun j a b hj => by
          by_cases he : j = i
          ·subst he; first | omega | (have := Q53.out; omega) | (have := Q54.out; omega) | (exact absurd hj (by simp [hb]))
          ·exact HALL.out j a (by omega) hj, HB5⟩
         case measure => simp [RowKit.intOf]; omega
     ·obtain rfl : i = 64 := by omega
      have BX := (HRW.out.below HBR.out)
      have r0 := BX.at 0 _ rfl
      have r1 := BX.at 1 _ rfl
      have r2 := BX.at 2 _ rfl
      have r3 := BX.at 3 _ rfl
      have r4 := BX.at 4 _ rfl
      have r5 := BX.at 5 _ rfl
      have r6 := BX.at 6 _ rfl
      have fr := BX.2.1
      have zr := BX.2.2
      have BY := (HDL.out.below HBR.out)
      have s0 := BY.at 0 _ rfl
      have s1 := BY.at 1 _ rfl
      have s2 := BY.at 2 _ rfl
      have s3 := BY.at 3 _ rfl
      have s4 := BY.at 4 _ rfl
      have s5 := BY.at 5 _ rfl
      have s6 := BY.at 6 _ rfl
      have fs := BY.2.1
      have zs := BY.2.2
      clear BX BY
      go_wp2
      refine bodyPost_ret (v := .tuple #[dV ⟨3, O, b6, !b7, !b54, b10, A⟩, .bool true]) (by simp [results, Tryz.results123, go_sem, zr, r0, r1, r2, r3, r4, r5, r6, dV]) rfl (.inl ⟨?_, ?_, ?_⟩)
      ·exact HOK.out.2 ⟨(by rw [HLD.out, HL3.out]; simp [leafK]), by simp, by simp, by simp, by simp, by simp, HALL.out⟩
      ·rw [HLD.out]; rfl
      ·rw [set7_eq]
       exact below_setCells (HBW.out.trans (HBR.out.mono HBW.out.size)) (Nat.le_refl _) 0 _
end Go.Proofs.YtbapgngngaaojaaGreat
