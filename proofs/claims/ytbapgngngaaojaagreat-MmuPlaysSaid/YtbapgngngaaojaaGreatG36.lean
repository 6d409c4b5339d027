/- A slice of steps opened: its rows. The walk of the ninth reference's Access, where the machine is off. The ninth reference's Write, where the word may be written. The law's step, both machines alike: they stay alike. -/
import Derived.Test.YtbapgngngaaojaaGreatG08
import Derived.WalkKit
import Derived.ProofKit
import Derived.OpenShut
import Derived.Carry
import Derived.Deep.SlicePairs
import Derived.Deep.Strs
import Derived.Test.YtbapgngngaaojaaGreatG24
import Derived.Test.YtbapgngngaaojaaGreatG31
import Derived.Test.YtbapgngngaaojaaGreatG32
import Derived.Test.YtbapgngngaaojaaGreatG33
import Derived.Test.YtbapgngngaaojaaGreatG34
import Derived.Test.YtbapgngngaaojaaGreatG35
set_option linter.unusedSimpArgs false
set_option linter.unusedVariables false
namespace Go.Proofs.YtbapgngngaaojaaGreat
open Go.RowKit Go.Lib Go.ChangeShapes Go.WideShapes Go.ChangeAt
set_option maxRecDepth 100000
/-- A step of the law. -/
structure OpT where
 kind : Int
 sort : Int
 n : Int
 va : Nat
 wd : Nat
 f : Bool
 l : Bool
 k : Bool
instance : Inhabited OpT := ⟨⟨0, 0, 0, 0, 0, false, false, false⟩⟩
def opL (o : OpT) : List Value := [.int .i64 o.kind, .int .i64 o.sort, .int .i64 o.n, .int .u64 o.va, .int .u64 o.wd, .bool o.f, .bool o.l, .bool o.k]
theorem opL_len (o : OpT) : (opL o).length = 8 := rfl
theorem u64_wf {n : Int} (h : (Lit.int .u64 n).wf = true) : ∃ k : Nat, n = (k : Int) ∧ k < 18446744073709551616 := by
 have hx : 0 ≤ n ∧ n ≤ 18446744073709551615 := by simpa [Lit.wf, IntKind.min, IntKind.max, IntKind.signed, IntKind.bits] using h
 exact ⟨n.toNat, by omega, by omega⟩
section
variable {H : Type} {enc : TypeId × Value → H} {W : World} {v : Value} {d : DataW H} {ps : List MemPlace} {x : DataW H × List MemPlace} {base fuel : Nat} {spare : Nat → Bool} {held : Bool}
theorem one_int {t : TypeId} {kd : IntKind} {cs : List Value} (ht : Tryz.prog.underlying t = some (.int kd)) (h : DataW.trod enc Tryz.prog W base spare held fuel t cs = some x) : ∃ n : Int, cs = [.int kd n] ∧ (Lit.int kd n).wf = true := by
 obtain ⟨n0, e0, -, w0⟩ := DataW.trod_int ht h
 exact ⟨n0, e0, w0⟩
theorem one_bool {t : TypeId} {cs : List Value} (ht : Tryz.prog.underlying t = some .bool) (h : DataW.trod enc Tryz.prog W base spare held fuel t cs = some x) : ∃ b : Bool, cs = [.bool b] := by
 obtain ⟨b, e, -⟩ := DataW.trod_bool ht h
 exact ⟨b, e⟩
theorem one_hint {cs : List Value} (h : DataW.trod enc Tryz.prog W base spare held fuel 26 cs = some x) : ∃ f l k : Bool, cs = [.bool f, .bool l, .bool k] := by
 obtain ⟨y0, y1, y2, n, -, hl, h0, h1, h2⟩ := Go.Deep.trod_struct3 Tryz.underlying26 h
 rw [show Tryz.prog.cellsOf 26 = 3 by kernel_rfl] at hl
 have hc1 : Tryz.prog.cellsOf 4 = 1 := by kernel_rfl
 match cs, hl with
 | [c0, c1, c2], _ =>
  dsimp only at h0 h1 h2
  rw [hc1] at h0 h1 h2
  obtain ⟨b0, e0⟩ := one_bool Tryz.underlying4 h0
  obtain ⟨b1, e1⟩ := one_bool Tryz.underlying4 h1
  obtain ⟨b2, e2⟩ := one_bool Tryz.underlying4 h2
  simp at e0 e1 e2
  exact ⟨b0, b1, b2, by rw [e0, e1, e2]⟩
theorem one_op {cs : List Value} (h : DataW.trod enc Tryz.prog W base spare held fuel 55 cs = some x) : ∃ o : OpT, cs = opL o ∧ o.va < 18446744073709551616 ∧ o.wd < 18446744073709551616 := by
 obtain ⟨xs, n, -, -, hl, hx, hf⟩ := DataW.trod_struct Tryz.underlying55 h
 rw [show Tryz.prog.cellsOf 55 = 8 by kernel_rfl] at hl
 have hi1 : Tryz.prog.cellsOf 3 = 1 := by kernel_rfl
 have hu1 : Tryz.prog.cellsOf 23 = 1 := by kernel_rfl
 have hh3 : Tryz.prog.cellsOf 26 = 3 := by kernel_rfl
 match xs, hx with
 | [y0, y1, y2, y3, y4, y5], _ =>
 match cs, hl with
 | [c0, c1, c2, c3, c4, c5, c6, c7], _ =>
  have g0 : DataW.trod enc Tryz.prog W base spare held n 3 (([c0, c1, c2, c3, c4, c5, c6, c7].drop 0).take (Tryz.prog.cellsOf 3)) = some y0 := hf 0 _ rfl
  have g1 : DataW.trod enc Tryz.prog W base spare held n 3 (([c0, c1, c2, c3, c4, c5, c6, c7].drop 1).take (Tryz.prog.cellsOf 3)) = some y1 := hf 1 _ rfl
  have g2 : DataW.trod enc Tryz.prog W base spare held n 3 (([c0, c1, c2, c3, c4, c5, c6, c7].drop 2).take (Tryz.prog.cellsOf 3)) = some y2 := hf 2 _ rfl
  have g3 : DataW.trod enc Tryz.prog W base spare held n 23 (([c0, c1, c2, c3, c4, c5, c6, c7].drop 3).take (Tryz.prog.cellsOf 23)) = some y3 := hf 3 _ rfl
  have g4 : DataW.trod enc Tryz.prog W base spare held n 23 (([c0, c1, c2, c3, c4, c5, c6, c7].drop 4).take (Tryz.prog.cellsOf 23)) = some y4 := hf 4 _ rfl
  have g5 : DataW.trod enc Tryz.prog W base spare held n 26 (([c0, c1, c2, c3, c4, c5, c6, c7].drop 5).take (Tryz.prog.cellsOf 26)) = some y5 := hf 5 _ rfl
  rw [hi1] at g0 g1 g2
  rw [hu1] at g3 g4
  rw [hh3] at g5
  obtain ⟨n0, e0, -⟩ := one_int Tryz.underlying3 g0
  obtain ⟨n1, e1, -⟩ := one_int Tryz.underlying3 g1
  obtain ⟨n2, e2, -⟩ := one_int Tryz.underlying3 g2
  obtain ⟨n3, e3, w3⟩ := one_int Tryz.underlying23 g3
  obtain ⟨n4, e4, w4⟩ := one_int Tryz.underlying23 g4
  obtain ⟨b0, b1, b2, e5⟩ := one_hint g5
  obtain ⟨k3, rfl, l3⟩ := u64_wf w3
  obtain ⟨k4, rfl, l4⟩ := u64_wf w4
  simp at e0 e1 e2 e3 e4 e5
  obtain ⟨f0, f1, f2⟩ := e5
  exact ⟨⟨n0, n1, n2, k3, k4, b0, b1, b2⟩, by rw [e0, e1, e2, e3, e4, f0, f1, f2]; rfl, l3, l4⟩
theorem open_ops (hv : Value.okWide Tryz.prog W .any 0 53 v) (h : DataW.Trod enc Tryz.prog W 0 (fun _ => true) true 53 v d ps) :
  ∃ (A : Option Addr) (l : List OpT) (c : Nat), v = .slice A l.length c ∧ RdRow W (.slice A l.length c) l.length (rowL opL l) ∧ ∀ o ∈ l, o.va < 18446744073709551616 ∧ o.wd < 18446744073709551616 := by
 obtain ⟨a, len, cap, rfl⟩ := okWide_slice Tryz.underlying53 hv
 obtain ⟨fuel, h⟩ := h
 rcases Go.Deep.open_slice Tryz.underlying53 h with ⟨hc, -⟩ | ⟨a', len', cap', m, n, D, Pl, hc, -, hl, hm, hmm, -, hall⟩
 ·have e : Value.slice a len cap = .slice none 0 0 := by simpa [Value.cells] using hc
  obtain ⟨rfl, rfl, rfl⟩ := Value.slice.inj e
  exact ⟨none, [], 0, rfl, ⟨none, 0, rfl, fun h => absurd h (by simp)⟩, fun s hs => by cases hs⟩
 ·have e : Value.slice a len cap = .slice (some a') len' cap' := by simpa [Value.cells] using hc
  obtain ⟨rfl, rfl, rfl⟩ := Value.slice.inj e
  obtain rfl : cap = m := by simpa using hmm.symm
  have hN : ∀ i, i < len → ∃ o : OpT, (o.va < 18446744073709551616 ∧ o.wd < 18446744073709551616) ∧ ∀ j, j < 8 → W.cell? (a'.add (i * 8 + j)) = (opL o)[j]? := fun i hi => by
   obtain ⟨cs', h1, h2⟩ := hall i (by omega)
   rw [show Tryz.prog.cellsOf 55 = 8 by kernel_rfl] at h1
   obtain ⟨-, -, hcell⟩ := World.cells?_some h1
   obtain ⟨o, rfl, b0, b1⟩ := one_op h2
   refine ⟨o, ⟨b0, b1⟩, fun j hj => ?_⟩
   have := hcell j hj
   rw [Go.Deep.add_add] at this
   exact this
  obtain ⟨f, hf⟩ := Go.Deep.choose_lt hN
  have hlen : ((List.range len).map f).length = len := by simp
  refine ⟨some a', (List.range len).map f, cap, by rw [hlen], ?_, ?_⟩
  ·rw [hlen]
   refine ⟨some a', cap, rfl, fun hp => ?_⟩
   have hspot : a'.spot = none := by
    have h0 := (hf 0 (by omega)).2 0 (by omega)
    exact World.cell?_spot (a := a'.add 0) (by simpa [opL] using h0)
   obtain ⟨g, o, spot⟩ := a'
   dsimp only at hspot
   subst hspot
   refine ⟨g, o, rfl, fun j v hj => ?_⟩
   have hjl : j < len * 8 := by
    have := (List.getElem?_eq_some_iff.1 hj).1
    rw [rowL_len opL 8 opL_len, hlen] at this
    exact this
   have hi : j / 8 < len := by omega
   have hc := (hf (j / 8) hi).2 (j % 8) (Nat.mod_lt _ (by omega))
   have hat := rowL_at opL 8 opL_len ((List.range len).map f) (j / 8) (by rw [hlen]; exact hi) (j % 8) (Nat.mod_lt _ (by omega))
   rw [show j / 8 * 8 + j % 8 = j by omega] at hc hat
   rw [hj] at hat
   rw [List.getElem_map, List.getElem_range] at hat
   rw [Addr.add_mid] at hc
   rw [hc, ← hat]
  ·intro s hs
   obtain ⟨i, hi, rfl⟩ := List.mem_map.1 hs
   exact (hf i (List.mem_range.1 hi)).1
theorem open_steps2 (hv : Value.okWide Tryz.prog W .any 0 22 v) (h : DataW.Trod enc Tryz.prog W 0 (fun _ => true) true 22 v d ps) :
  ∃ (A : Option Addr) (l : List (Nat × Nat)) (c : Nat), v = .slice A l.length c ∧ RdRow W (.slice A l.length c) l.length (rowL wL l) ∧ ∀ s ∈ l, s.1 < 18446744073709551616 ∧ s.2 < 18446744073709551616 := by
 obtain ⟨a, len, cap, rfl⟩ := okWide_slice Tryz.underlying22 hv
 obtain ⟨fuel, h⟩ := h
 rcases Go.Deep.open_slice_pairs (f0 := _) (f1 := _) Tryz.underlying22 Tryz.underlying81 (by kernel_rfl) rfl rfl (by kernel_rfl) (by kernel_rfl) h with ⟨hc, -⟩ | ⟨a', len', cap', m, n, V0, V1, D0, D1, P0, P1, hc, -, hl, hm, hmm, -, hall⟩
 ·have e : Value.slice a len cap = .slice none 0 0 := by simpa [Value.cells] using hc
  obtain ⟨rfl, rfl, rfl⟩ := Value.slice.inj e
  exact ⟨none, [], 0, rfl, ⟨none, 0, rfl, fun h => absurd h (by simp)⟩, fun s hs => by cases hs⟩
 ·have e : Value.slice a len cap = .slice (some a') len' cap' := by simpa [Value.cells] using hc
  obtain ⟨rfl, rfl, rfl⟩ := Value.slice.inj e
  obtain rfl : cap = m := by simpa using hmm.symm
  have hN : ∀ i, i < len → ∃ k0 k1 : Nat, V0 i = .int .u64 k0 ∧ V1 i = .int .u64 k1 ∧ k0 < 18446744073709551616 ∧ k1 < 18446744073709551616 := fun i hi => by
   obtain ⟨-, -, h3, h4⟩ := hall i (by omega)
   obtain ⟨n0, e0, -, w0⟩ := DataW.trod_int Tryz.underlying23 h3
   obtain ⟨n1, e1, -, w1⟩ := DataW.trod_int Tryz.underlying23 h4
   obtain ⟨k0, rfl, b0⟩ := u64_wf w0
   obtain ⟨k1, rfl, b1⟩ := u64_wf w1
   exact ⟨k0, k1, by simpa using e0, by simpa using e1, b0, b1⟩
  let f : Nat → Nat × Nat := fun i => ((RowKit.intOf (V0 i)).toNat, (RowKit.intOf (V1 i)).toNat)
  have hf : ∀ i, i < len → V0 i = .int .u64 (f i).1 ∧ V1 i = .int .u64 (f i).2 ∧ (f i).1 < 18446744073709551616 ∧ (f i).2 < 18446744073709551616 := fun i hi => by
   obtain ⟨k0, k1, e0, e1, b0, b1⟩ := hN i hi
   have q0 : (f i).1 = k0 := by show (RowKit.intOf (V0 i)).toNat = k0; rw [e0]; rfl
   have q1 : (f i).2 = k1 := by show (RowKit.intOf (V1 i)).toNat = k1; rw [e1]; rfl
   rw [q0, q1]
   exact ⟨e0, e1, b0, b1⟩
  have hlen : ((List.range len).map f).length = len := by simp
  refine ⟨some a', (List.range len).map f, cap, by rw [hlen], ?_, ?_⟩
  ·rw [hlen]
   refine ⟨some a', cap, rfl, fun hp => ?_⟩
   have hspot : a'.spot = none := by
    have h0 := (hall 0 (by omega)).1
    rw [Nat.zero_mul] at h0
    exact World.cell?_spot (a := a'.add 0) h0
   obtain ⟨g, o, spot⟩ := a'
   dsimp only at hspot
   subst hspot
   refine ⟨g, o, rfl, fun j v hj => ?_⟩
   have hjl : j < len * 2 := by
    have := (List.getElem?_eq_some_iff.1 hj).1
    rw [rowL_len wL 2 wL_len, hlen] at this
    exact this
   have hi : j / 2 < len := by omega
   obtain ⟨c0, c1, -, -⟩ := hall (j / 2) (by omega)
   rw [Addr.add_mid] at c0 c1
   obtain ⟨e0, e1, -, -⟩ := hf (j / 2) hi
   have hat := rowL_at wL 2 wL_len ((List.range len).map f) (j / 2) (by rw [hlen]; exact hi) (j % 2) (Nat.mod_lt _ (by omega))
   rw [show j / 2 * 2 + j % 2 = j by omega, hj] at hat
   rw [List.getElem_map, List.getElem_range] at hat
   rcases Nat.mod_two_eq_zero_or_one j with h2 | h2
   ·rw [h2] at hat
    have hv2 : v = .int .u64 (f (j / 2)).1 := by simpa [wL] using hat
    rw [hv2, ← e0, ← c0]
    congr 2
    omega
   ·rw [h2] at hat
    have hv2 : v = .int .u64 (f (j / 2)).2 := by simpa [wL] using hat
    rw [hv2, ← e1, ← c1]
    congr 2
    omega
  ·intro s hs
   obtain ⟨i, hi, rfl⟩ := List.mem_map.1 hs
   exact ⟨(hf i (List.mem_range.1 hi)).2.2.1, (hf i (List.mem_range.1 hi)).2.2.2⟩
end
end Go.Proofs.YtbapgngngaaojaaGreat
namespace Go.Proofs.YtbapgngngaaojaaGreat
open Go.RowKit Go.Lib
set_option maxRecDepth 100000
set_option maxHeartbeats 1000000 in
theorem rxaccess_off (sz most root asid va x : Nat) (kind : Int) (fill led keep : Bool) (A1 A2 A3 A4 : Option Addr) (n1 n2 n3 n4 c1 c2 c3 c4 : Nat) (w : World) :
  Calls Tryz.prog 11 #[xV sz most root asid false (.slice A1 n1 c1) (.slice A2 n2 c2) (.slice A3 n3 c3) (.slice A4 n4 c4), .int .i64 kind, .int .u64 va, .int .u64 x, .agg #[.bool fill, .bool led, .bool keep]] w fun e w' => e = .returned (.tuple #[xV sz most root asid false (.slice A1 n1 c1) (.slice A2 n2 c2) (.slice A3 n3 c3) (.slice A4 n4 c4), fV (if va % 8 = 0 then (1, 0) else (5, 0)), .int .u64 0]) ∧ Below w.heap.size w w' := by
 obtain ⟨F, hF⟩ : ∃ F : Nat × Nat, (if va % 8 = 0 then (1, 0) else (5, 0)) = F := ⟨_, rfl⟩
 rw [hF]
 unfold xV
 go_enter Tryz.func11, Tryz.ntmps11
 go_upto_region 1 with fail
 generalize hW : World.alloc (World.alloc (World.alloc (World.alloc w _) _) _) _ = W
 have HXB : Hid (Box W w.heap.size (xC sz most root asid false (.slice A1 n1 c1) (.slice A2 n2 c2) (.slice A3 n3 c3) (.slice A4 n4 c4))) := by
  rw [← hW]
  exact (((Box.new w (xC sz most root asid false (.slice A1 n1 c1) (.slice A2 n2 c2) (.slice A3 n3 c3) (.slice A4 n4 c4)) 36).below (below1 _ _)).below (below1 _ _)).below (below1 _ _)
 have H6B : Hid (Box W (w.heap.size + 2) (xC 0 0 0 0 false (.slice none 0 0) (.slice none 0 0) (.slice none 0 0) (.slice none 0 0))) := by
  rw [← hW]
  exact (Box.new' ((w.alloc (.cells (xC sz most root asid false (.slice A1 n1 c1) (.slice A2 n2 c2) (.slice A3 n3 c3) (.slice A4 n4 c4)).toArray 36)).alloc (.cells #[.bool fill, .bool led, .bool keep] 41)) _ (by simp) (xC 0 0 0 0 false (.slice none 0 0) (.slice none 0 0) (.slice none 0 0) (.slice none 0 0)) 36).below (below1 _ _)
 have H7B : Hid (Box W (w.heap.size + 3) [.int .i64 0, .int .i64 0]) := by
  rw [← hW]
  exact Box.new' (((w.alloc (.cells (xC sz most root asid false (.slice A1 n1 c1) (.slice A2 n2 c2) (.slice A3 n3 c3) (.slice A4 n4 c4)).toArray 36)).alloc (.cells #[.bool fill, .bool led, .bool keep] 41)).alloc (.cells (xC 0 0 0 0 false (.slice none 0 0) (.slice none 0 0) (.slice none 0 0) (.slice none 0 0)).toArray 36)) _ (by simp) [.int .i64 0, .int .i64 0] 46
 have HB0 : Hid (Below w.heap.size w W) := by rw [← hW]; exact (((below1 w _).alloc (by simp) _).alloc (by simp; omega) _).alloc (by simp; omega) _
 clear hW
 by_cases h8 : va % 8 = 0
 ·have d8 : ((va : Int) % 8 != 0) = false := by simp; omega
  rw [if_pos h8] at hF
  have HF : Hid ((1, 0) = F) := hF
  clear hF h8
  have BX := HXB.out
  have x0 := BX.at 0 _ rfl
  have x1 := BX.at 1 _ rfl
  have x2 := BX.at 2 _ rfl
  have x3 := BX.at 3 _ rfl
  have x4 := BX.at 4 _ rfl
  have x5 := BX.at 5 _ rfl
  have x6 := BX.at 6 _ rfl
  have x7 := BX.at 7 _ rfl
  have x8 := BX.at 8 _ rfl
  have fx := BX.2.1
  have zx := BX.2.2
  have BP := H6B.out
  have p0 := BP.at 0 _ rfl
  have p1 := BP.at 1 _ rfl
  have p2 := BP.at 2 _ rfl
  have p3 := BP.at 3 _ rfl
  have p4 := BP.at 4 _ rfl
  have p5 := BP.at 5 _ rfl
  have p6 := BP.at 6 _ rfl
  have p7 := BP.at 7 _ rfl
  have p8 := BP.at 8 _ rfl
  have fp := BP.2.1
  have zp := BP.2.2
  have BR := H7B.out
  have r0 := BR.at 0 _ rfl
  have r1 := BR.at 1 _ rfl
  have fr := BR.2.1
  have zr := BR.2.2
  clear BX BP BR fx
  go_wp2
  refine bodyPost_ret (v := .tuple #[xV sz most root asid false (.slice A1 n1 c1) (.slice A2 n2 c2) (.slice A3 n3 c3) (.slice A4 n4 c4), fV (1, 0), .int .u64 0]) (by simp [results, Tryz.results11, go_sem, zp, zr, p0, p1, p2, p3, p4, p5, p6, p7, p8, r0, r1, fV, xV]) rfl ?_
  have hkp : ∀ l1 u1 u2, Kp (fun k => k = w.heap.size + 1 + 1 ∨ k = w.heap.size + 1 + 1 + 1) W ((W.setCells (w.heap.size + 1 + 1) 0 l1).setCell ⟨w.heap.size + 1 + 1 + 1, 0, none⟩ u1 |>.setCell ⟨w.heap.size + 1 + 1 + 1, 1, none⟩ u2) := fun l1 u1 u2 => (((Kp.refl (fun k => k = w.heap.size + 1 + 1 ∨ k = w.heap.size + 1 + 1 + 1) W).setCells (.inl (.inl rfl)) 0 l1).setCell (.inl (.inr rfl)) _).setCell (.inl (.inr rfl)) _
  rw [set9_eq]
  generalize hY : World.setCell _ _ _ = Y
  have hbel : Below w.heap.size w Y := by rw [← hY]; exact Kp.toBelow (hkp _ _ _) HB0.out HB0.out.size (fun k hk => by omega)
  exact ⟨by rw [HF.out]; rfl, hbel⟩
 ·have d8 : ((va : Int) % 8 != 0) = true := by simp; omega
  rw [if_neg h8] at hF
  have HF : Hid ((5, 0) = F) := hF
  clear hF h8
  have BX := HXB.out
  have x0 := BX.at 0 _ rfl
  have x1 := BX.at 1 _ rfl
  have x2 := BX.at 2 _ rfl
  have x3 := BX.at 3 _ rfl
  have x4 := BX.at 4 _ rfl
  have x5 := BX.at 5 _ rfl
  have x6 := BX.at 6 _ rfl
  have x7 := BX.at 7 _ rfl
  have x8 := BX.at 8 _ rfl
  have fx := BX.2.1
  have zx := BX.2.2
  have BP := H6B.out
  have p0 := BP.at 0 _ rfl
  have p1 := BP.at 1 _ rfl
  have p2 := BP.at 2 _ rfl
  have p3 := BP.at 3 _ rfl
  have p4 := BP.at 4 _ rfl
  have p5 := BP.at 5 _ rfl
  have p6 := BP.at 6 _ rfl
  have p7 := BP.at 7 _ rfl
  have p8 := BP.at 8 _ rfl
  have fp := BP.2.1
  have zp := BP.2.2
  have BR := H7B.out
  have r0 := BR.at 0 _ rfl
  have r1 := BR.at 1 _ rfl
  have fr := BR.2.1
  have zr := BR.2.2
  clear BX BP BR fx
  go_wp2
  refine bodyPost_ret (v := .tuple #[xV sz most root asid false (.slice A1 n1 c1) (.slice A2 n2 c2) (.slice A3 n3 c3) (.slice A4 n4 c4), fV (5, 0), .int .u64 0]) (by simp [results, Tryz.results11, go_sem, zp, zr, p0, p1, p2, p3, p4, p5, p6, p7, p8, r0, r1, fV, xV]) rfl ?_
  have hkp : ∀ l1 u1 u2, Kp (fun k => k = w.heap.size + 1 + 1 ∨ k = w.heap.size + 1 + 1 + 1) W ((W.setCells (w.heap.size + 1 + 1) 0 l1).setCell ⟨w.heap.size + 1 + 1 + 1, 0, none⟩ u1 |>.setCell ⟨w.heap.size + 1 + 1 + 1, 1, none⟩ u2) := fun l1 u1 u2 => (((Kp.refl (fun k => k = w.heap.size + 1 + 1 ∨ k = w.heap.size + 1 + 1 + 1) W).setCells (.inl (.inl rfl)) 0 l1).setCell (.inl (.inr rfl)) _).setCell (.inl (.inr rfl)) _
  rw [set9_eq]
  generalize hY : World.setCell _ _ _ = Y
  have hbel : Below w.heap.size w Y := by rw [← hY]; exact Kp.toBelow (hkp _ _ _) HB0.out HB0.out.size (fun k hk => by omega)
  exact ⟨by rw [HF.out]; rfl, hbel⟩
end Go.Proofs.YtbapgngngaaojaaGreat
namespace Go.Proofs.YtbapgngngaaojaaGreat
open Go.RowKit Go.Lib
set_option maxRecDepth 100000
set_option maxHeartbeats 4000000 in
theorem rxwrite_good {ok : Nat → Prop} (sz most root asid at_ v : Nat) (on : Bool) (ws : List (Nat × Nat)) (ps : List Pl) (S : St) (A1 A2 A3 A4 : Option Addr) (c1 c2 c3 c4 : Nat) (w : World) (ha : at_ < 18446744073709551616) (hn : (wrM ws at_ v).length ≤ 999999) (hn0 : ws.length ≤ 1000000) (hm : mayP sz at_ = 0) (hp : ∀ p ∈ ps, p.1 < 18446744073709551616) (hpn : ps.length ≤ 8)
  (hws : ∀ a, rdM (wrM ws at_ v) a < 18446744073709551616) (hok : ∀ k, ok k → k < w.heap.size) (hy : YSt sz most root asid on (wrM ws at_ v) S)
  (h1 : RdRow w (.slice A1 ws.length c1) ws.length (rowL wL ws)) (h2 : RowAt w ok 10 (.slice A2 S.es.length c2) S.es.length (rowL eL S.es)) (h3 : RowAt w ok 4 (.slice A3 S.ks.length c3) S.ks.length (rowL mL S.ks)) (h4 : RdRow w (.slice A4 ps.length c4) ps.length (rowL pL ps)) :
  Calls Tryz.prog 50 #[xV sz most root asid on (.slice A1 ws.length c1) (.slice A2 S.es.length c2) (.slice A3 S.ks.length c3) (.slice A4 ps.length c4), .int .u64 at_, .int .u64 v] w (RWritePost ok sz most root asid on (.slice A1 ws.length c1) (.slice A2 S.es.length c2) (.slice A3 S.ks.length c3) (.slice A4 ps.length c4) 0 (wrM ws at_ v) (guessAll ps S) w) := by
 have C1 : Hid (∀ u, Below w.heap.size w u → Calls Tryz.prog 31 #[.agg #[.int .u64 sz, .slice A1 ws.length c1], .int .u64 at_, .int .u64 v] u fun e w' => ∃ A c, e = .returned (.tuple #[.agg #[.int .u64 sz, .slice A (wrM ws at_ v).length c], .int .i64 0]) ∧ RowAt w' (fun k => u.heap.size ≤ k) 2 (.slice A (wrM ws at_ v).length c) (wrM ws at_ v).length (rowL wL (wrM ws at_ v)) ∧ Below u.heap.size u w') := fun u hb =>
  (rwrite_nat sz at_ v ws A1 c1 u ha hn0 (h1.below hb)).mono fun e w' h => by
   rcases h.1 with h0 | ⟨_, A, c, h5, h6⟩
   ·exact absurd hm h0.1
   ·exact ⟨A, c, h5, h6, h.2⟩
 generalize wrM ws at_ v = V at *
 obtain ⟨R, hR⟩ : ∃ R, guessAll ps S = R := ⟨_, rfl⟩
 rw [hR]
 have HR := Lib.hid hR
 have HY := Lib.hid hy
 have HOK := Lib.hid hok
 have HP := Lib.hid hp
 have HPN := Lib.hid hpn
 have HN := Lib.hid hn
 have HWS := Lib.hid hws
 have H2 := Lib.hid h2
 have H3 := Lib.hid h3
 have H4 := Lib.hid h4
 clear h1 h2 h3 h4 hR hy hok hp hn hn0 hws hm hpn
 unfold xV
 go_enter Tryz.func50, Tryz.ntmps50
 go_upto_region 1 with fail
 generalize hW : World.alloc (World.alloc w _) _ = W
 have HXB : Hid (Box W w.heap.size (xC sz most root asid on (.slice A1 ws.length c1) (.slice A2 S.es.length c2) (.slice A3 S.ks.length c3) (.slice A4 ps.length c4))) := by
  rw [← hW]
  exact (Box.new w (xC sz most root asid on (.slice A1 ws.length c1) (.slice A2 S.es.length c2) (.slice A3 S.ks.length c3) (.slice A4 ps.length c4)) 36).below (below1 _ _)
 have H6B : Hid (Box W (w.heap.size + 1) (xC 0 0 0 0 false (.slice none 0 0) (.slice none 0 0) (.slice none 0 0) (.slice none 0 0))) := by
  rw [← hW]
  exact Box.new' (w.alloc (.cells (xC sz most root asid on (.slice A1 ws.length c1) (.slice A2 S.es.length c2) (.slice A3 S.ks.length c3) (.slice A4 ps.length c4)).toArray 36)) _ (by simp) (xC 0 0 0 0 false (.slice none 0 0) (.slice none 0 0) (.slice none 0 0) (.slice none 0 0)) 36
 have HB0 : Hid (Below w.heap.size w W) := by rw [← hW]; exact (below1 w _).alloc (by simp) _
 clear hW
 have x0 := HXB.out.at 0 _ rfl
 have x1 := HXB.out.at 1 _ rfl
 go_upto_region 2 with (go_at_call 31; refine (C1.out _ HB0.out).mono ?_; rintro e w1 ⟨A5, c5, rfl, hrow, hb1⟩; have HROW := Lib.hid hrow; have HB1 := Lib.hid hb1; clear hb1 hrow)
 have hz0 : w.heap.size + 1 < W.heap.size := H6B.out.2.2
 have hz1 : W.heap.size ≤ w1.heap.size := HB1.out.size
 have HBX : Hid (Below W.heap.size W (w1.alloc (.cells #[.int .u64 sz, .slice A5 V.length c5] 31))) := HB1.out.alloc HB1.out.size _
 have HM8 : Hid (Box (w1.alloc (.cells #[.int .u64 sz, .slice A5 V.length c5] 31)) w1.heap.size [.int .u64 sz, .slice A5 V.length c5]) := Box.new w1 [.int .u64 sz, .slice A5 V.length c5] 31
 replace HROW := Lib.hid (HROW.out.below (below1 w1 (.cells #[.int .u64 sz, .slice A5 V.length c5] 31)))
 generalize World.alloc w1 _ = W3 at *
 generalize w1.heap.size = g8 at *
 have HB3 : Hid (Below w.heap.size w W3) := HB0.out.trans (HBX.out.mono HB0.out.size)
 replace HXB := Lib.hid (HXB.out.below HBX.out)
 replace H6B := Lib.hid (H6B.out.below HBX.out)
 have hz3 : W.heap.size ≤ W3.heap.size := HBX.out.size
 clear x0 x1 HB1 HBX HB0
 have m0 := HM8.out.at 0 _ rfl
 have m1 := HM8.out.at 1 _ rfl
 have x0 := HXB.out.at 0 _ rfl
 have x1 := HXB.out.at 1 _ rfl
 have fx := HXB.out.2.1
 have zx := HXB.out.2.2
 go_upto_region 5 with fail
 have HX1 : Hid (Box ((W3.setCell ⟨w.heap.size, 0, none⟩ (.int .u64 sz)).setCell ⟨w.heap.size, 1, none⟩ (.slice A5 V.length c5)) w.heap.size (xC sz most root asid on (.slice A5 V.length c5) (.slice A2 S.es.length c2) (.slice A3 S.ks.length c3) (.slice A4 ps.length c4))) := (HXB.out.setAt 0 (by simp [xC]) (.int .u64 sz)).setAt 1 (by simp [xC]) (.slice A5 V.length c5)
 have hk1 : Kp (fun k => k = w.heap.size) W3 ((W3.setCell ⟨w.heap.size, 0, none⟩ (.int .u64 sz)).setCell ⟨w.heap.size, 1, none⟩ (.slice A5 V.length c5)) := ((Kp.refl (fun k => k = w.heap.size) W3).setCell (p := ⟨w.heap.size, 0, none⟩) (.inl rfl) _).setCell (p := ⟨w.heap.size, 1, none⟩) (.inl rfl) _
 have HB4 : Hid (Below w.heap.size w ((W3.setCell ⟨w.heap.size, 0, none⟩ (.int .u64 sz)).setCell ⟨w.heap.size, 1, none⟩ (.slice A5 V.length c5))) := hk1.toBelow HB3.out HB3.out.size (fun k e => by omega)
 replace H6B := Lib.hid (H6B.out.kept hk1 (by omega))
 replace HROW := Lib.hid (HROW.out.kept hk1 (fun k y e => by omega))
 have hz4 : W.heap.size ≤ ((W3.setCell ⟨w.heap.size, 0, none⟩ (.int .u64 sz)).setCell ⟨w.heap.size, 1, none⟩ (.slice A5 V.length c5)).heap.size := by rw [World.size_setCell, World.size_setCell]; exact hz3
 clear m0 m1 x0 x1 fx zx HXB HB3 HM8 hk1 hz3
 generalize World.setCell (World.setCell W3 _ _) _ _ = W4 at *
 have HOKN : Hid (∀ k, (ok k ∨ W.heap.size ≤ k) → k ≠ w.heap.size ∧ k ≠ w.heap.size + 1) := fun k y => by
  rcases y with y | y
  ·have := HOK.out k y; omega
  ·omega
 go_wp2
 go_loopw [10] (fun iv wr => ∃ (i : Nat) (si : St) (B2 : Option Addr) (d2 : Nat) (B3 : Option Addr) (d3 : Nat), iv = .int .i64 i ∧ i ≤ ps.length ∧ Hid (guessAll (ps.drop i) si = R) ∧ Hid (YSt sz most root asid on V si) ∧ Hid (Box wr w.heap.size (xC sz most root asid on (.slice A5 V.length c5) (.slice B2 si.es.length d2) (.slice B3 si.ks.length d3) (.slice A4 ps.length c4))) ∧ Hid (Box wr (w.heap.size + 1) (xC 0 0 0 0 false (.slice none 0 0) (.slice none 0 0) (.slice none 0 0) (.slice none 0 0))) ∧ Hid (RowAt wr (fun k => ok k ∨ W.heap.size ≤ k) 2 (.slice A5 V.length c5) V.length (rowL wL V)) ∧ Hid (RowAt wr (fun k => ok k ∨ W.heap.size ≤ k) 10 (.slice B2 si.es.length d2) si.es.length (rowL eL si.es)) ∧ Hid (RowAt wr (fun k => ok k ∨ W.heap.size ≤ k) 4 (.slice B3 si.ks.length d3) si.ks.length (rowL mL si.ks)) ∧ Hid (Below w.heap.size w wr) ∧ Hid (W.heap.size ≤ wr.heap.size)) (fun iv _ => ps.length - (RowKit.intOf iv).toNat)
 case atStart => exact ⟨0, S, A2, c2, A3, c3, rfl, by omega, HR, HY, HX1, H6B, HROW.out.mono (fun k _ y => .inr y), (H2.out.below HB4.out).mono (fun k _ y => .inl y), (H3.out.below HB4.out).mono (fun k _ y => .inl y), HB4, hz4⟩
 case round =>
  clear HX1 H6B HROW HB4 hz4 H2 H3
  obtain ⟨i, si, B2, d2, B3, d3, rfl, hi, HS, HYI, HX, H6, HV, HE, HK, HB, hzr⟩ := hrel
  have hpn : ps.length ≤ 8 := HPN.out
  have zx := HX.out.2.2
  by_cases hlt : i < ps.length
  ·obtain ⟨g, o, rfl, hr⟩ := H4.out.get (by omega)
   have hrng : wr.rangeAt g o (rowL pL ps) := fun j v hj => keep_cell HB.out (hr j v hj)
   have q0 := row_at0 pL_len hrng i hlt _ rfl
   have q1 := row_at pL_len hrng i hlt 1 _ rfl
   have q2 := row_at pL_len hrng i hlt 2 _ rfl
   have q3 := row_at pL_len hrng i hlt 3 _ rfl
   have i1 : (0 : Int) ≤ (i : Int) := by omega
   have i2 : (i : Int) < (ps.length : Int) := by omega
   have HVA := Lib.hid (HP.out ps[i] (List.getElem_mem hlt))
   have HS1 : Hid (guessAll (ps[i] :: ps.drop (i + 1)) si = R) := by have := HS.out; rw [List.drop_eq_getElem_cons hlt] at this; exact this
   clear HS hrng hr
   generalize ps[i] = p at *
   obtain ⟨va, b1, b2, b3⟩ := p
   dsimp only at q0 q1 q2 q3 HVA
   have CC : Hid (∀ u, Below wr.heap.size wr u → Calls Tryz.prog 44 #[.agg #[.int .u64 sz, .slice A5 V.length c5, .int .i64 most, .slice B2 si.es.length d2, .slice B3 si.ks.length d3, .bool on, .int .u64 root, .int .i64 asid, .slice (some ⟨g, o, none⟩) ps.length c4], .int .u64 va, .agg #[.bool b1, .bool b2, .bool b3]] u fun e w' => ∃ B6 d6 B7 d7, e = .returned (.agg #[.int .u64 sz, .slice A5 V.length c5, .int .i64 most, .slice B6 (guessM si va b1 b2 b3).es.length d6, .slice B7 (guessM si va b1 b2 b3).ks.length d7, .bool on, .int .u64 root, .int .i64 asid, .slice (some ⟨g, o, none⟩) ps.length c4]) ∧ RowAt w' (fun k => ok k ∨ W.heap.size ≤ k) 10 (.slice B6 (guessM si va b1 b2 b3).es.length d6) (guessM si va b1 b2 b3).es.length (rowL eL (guessM si va b1 b2 b3).es) ∧ RowAt w' (fun k => ok k ∨ W.heap.size ≤ k) 4 (.slice B7 (guessM si va b1 b2 b3).ks.length d7) (guessM si va b1 b2 b3).ks.length (rowL mL (guessM si va b1 b2 b3).ks) ∧ Below wr.heap.size wr w') := fun u hb => by
    have hy2 := HYI.out.2
    have hy1 := HYI.out.1
    rw [hy2] at hy1
    have h9 := rguess_any (ok := fun k => (ok k ∨ W.heap.size ≤ k) ∧ k < u.heap.size) sz most root asid va on V si.es si.ks b1 b2 b3 A5 B2 B3 (some ⟨g, o, none⟩) ps.length c5 d2 d3 c4 u hy1 HVA.out HN.out HWS.out (fun k y => y.2) (ext_at (HV.out.below hb) (fun k y => y)) (ext_at (HE.out.below hb) (fun k y => y)) (ext_at (HK.out.below hb) (fun k y => y))
    rw [← hy2] at h9
    refine h9.mono ?_
    rintro e w' ⟨B6, d6, B7, d7, rfl, g1, g2, g3⟩
    exact ⟨B6, d6, B7, d7, rfl, g1.mono (fun k _ y => y.elim (fun z => z.1) (fun z => .inr (Nat.le_trans hzr.out (Nat.le_trans hb.size z)))), g2.mono (fun k _ y => y.elim (fun z => z.1) (fun z => .inr (Nat.le_trans hzr.out (Nat.le_trans hb.size z)))), hb.trans (g3.mono hb.size)⟩
   have BX := HX.out
   have x0 := BX.at 0 _ rfl
   have x1 := BX.at 1 _ rfl
   have x2 := BX.at 2 _ rfl
   have x3 := BX.at 3 _ rfl
   have x4 := BX.at 4 _ rfl
   have x5 := BX.at 5 _ rfl
   have x6 := BX.at 6 _ rfl
   have x7 := BX.at 7 _ rfl
   have x8 := BX.at 8 _ rfl
   have fx := BX.2.1
   have zx := BX.2.2
   clear BX fx
   have HYG := Lib.hid (HYI.out.guess va b1 b2 b3)
   go_wp2
   go_region_with (go_at_call 44; refine (CC.out _ (by first | exact Below.refl _ _ | exact (Below.refl _ _).drew)).mono ?_; rintro e w5 ⟨B6, d6, B7, d7, rfl, hr6, hr7, hb⟩; have HR6 := Lib.hid hr6; have HR7 := Lib.hid hr7; have HB5 := Lib.hid hb; have HX5 := Lib.hid (HX.out.below hb); clear x0 x1 x2 x3 x4 x5 x6 x7 x8 hr6 hr7 hb; have x0 := HX5.out.at 0 _ rfl; have x1 := HX5.out.at 1 _ rfl; have x2 := HX5.out.at 2 _ rfl; have x3 := HX5.out.at 3 _ rfl; have x4 := HX5.out.at 4 _ rfl; have x5 := HX5.out.at 5 _ rfl; have x6 := HX5.out.at 6 _ rfl; have x7 := HX5.out.at 7 _ rfl; have x8 := HX5.out.at 8 _ rfl; have fx := HX5.out.2.1; have zx5 := HX5.out.2.2)
   all_goals
    go_wp2
    rw [set9_eq]
    have hk : Kp (fun k => k = w.heap.size) w5 (w5.setCells w.heap.size 0 (xC sz most root asid on (.slice A5 V.length c5) (.slice B6 (guessM si va b1 b2 b3).es.length d6) (.slice B7 (guessM si va b1 b2 b3).ks.length d7) (.slice (some ⟨g, o, none⟩) ps.length c4))) := (Kp.refl (fun k => k = w.heap.size) w5).setCells (.inl rfl) 0 _
    refine ⟨⟨i + 1, guessM si va b1 b2 b3, B6, d6, B7, d7, by first | rfl | go_num, by omega, HS1, HYG, HX5.out.put (news := xC sz most root asid on (.slice A5 V.length c5) (.slice B6 (guessM si va b1 b2 b3).es.length d6) (.slice B7 (guessM si va b1 b2 b3).ks.length d7) (.slice (some ⟨g, o, none⟩) ps.length c4)) rfl, (H6.out.below HB5.out).kept hk (by omega), (HV.out.below HB5.out).kept hk (fun k y e => (HOKN.out k y).1 e), HR6.out.kept hk (fun k y e => (HOKN.out k y).1 e), HR7.out.kept hk (fun k y e => (HOKN.out k y).1 e), hk.toBelow (HB.out.trans (HB5.out.mono HB.out.size)) (Nat.le_trans HB.out.size HB5.out.size) (fun k e => by omega), Nat.le_trans hzr.out (Nat.le_trans HB5.out.size hk.size)⟩, by simp [RowKit.intOf]; omega⟩
  ·obtain rfl : i = ps.length := by omega
   have HS1 : Hid (si = R) := by have := HS.out; rw [List.drop_eq_nil_of_le (Nat.le_refl _)] at this; exact this
   clear HS
   have BX := HX.out
   have x0 := BX.at 0 _ rfl
   have x1 := BX.at 1 _ rfl
   have x2 := BX.at 2 _ rfl
   have x3 := BX.at 3 _ rfl
   have x4 := BX.at 4 _ rfl
   have x5 := BX.at 5 _ rfl
   have x6 := BX.at 6 _ rfl
   have x7 := BX.at 7 _ rfl
   have x8 := BX.at 8 _ rfl
   have fx := BX.2.1
   have zx := BX.2.2
   have BP := H6.out
   have p0 := BP.at 0 _ rfl
   have p1 := BP.at 1 _ rfl
   have p2 := BP.at 2 _ rfl
   have p3 := BP.at 3 _ rfl
   have p4 := BP.at 4 _ rfl
   have p5 := BP.at 5 _ rfl
   have p6 := BP.at 6 _ rfl
   have p7 := BP.at 7 _ rfl
   have p8 := BP.at 8 _ rfl
   have fp := BP.2.1
   have zp := BP.2.2
   clear BX BP fx
   go_wp2
   refine bodyPost_ret (v := .tuple #[xV sz most root asid on (.slice A5 V.length c5) (.slice B2 si.es.length d2) (.slice B3 si.ks.length d3) (.slice A4 ps.length c4), .int .i64 0]) (by simp [results, Tryz.results50, go_sem, zp, p0, p1, p2, p3, p4, p5, p6, p7, p8, xV]) rfl ?_
   rw [set9_eq, ← HS1.out]
   have hk : Kp (fun k => k = w.heap.size + 1) wr (wr.setCells (w.heap.size + 1) 0 (xC sz most root asid on (.slice A5 V.length c5) (.slice B2 si.es.length d2) (.slice B3 si.ks.length d3) (.slice A4 ps.length c4))) := (Kp.refl (fun k => k = w.heap.size + 1) wr).setCells (.inl rfl) 0 _
   exact ⟨.inr ⟨rfl, A5, c5, B2, d2, B3, d3, rfl, (HV.out.kept hk (fun k y e => (HOKN.out k y).2 e)).mono (fun k _ y => y.imp id (fun z => by omega)), (HE.out.kept hk (fun k y e => (HOKN.out k y).2 e)).mono (fun k _ y => y.imp id (fun z => by omega)), (HK.out.kept hk (fun k y e => (HOKN.out k y).2 e)).mono (fun k _ y => y.imp id (fun z => by omega))⟩, hk.toBelow HB.out HB.out.size (fun k e => by omega)⟩
end Go.Proofs.YtbapgngngaaojaaGreat
namespace Go.Proofs.YtbapgngngaaojaaGreat
open Go.RowKit Go.Lib
set_option maxRecDepth 100000
/-- The document's machine, as the program's. -/
def Yr.st (y : Yr) : St := ⟨y.sz, rdM y.ws, y.most, y.es, y.ks, regO y.on y.root y.asid⟩
def PI (y : Yr) : Prop := WsOk y.sz y.ws ∧ (∀ p ∈ y.ps, p.1 < 18446744073709551616) ∧ y.ps.length ≤ 8
def PPost (x m pt pk : Nat) (R B : Nat → Prop) (w0 : World) (y : Yr) (w : World) (e : Ending) (w' : World) : Prop :=
 ∃ y' q' B' pv', e = .returned (.tuple #[yV y' q', .bool true]) ∧ MB x m pt pk pv' y'.st B' w0 w' ∧ YAt (fun k => (R k ∨ w.heap.size ≤ k) ∧ B' k) y' q' w' ∧ RowAt w' (fun k => (R k ∨ w.heap.size ≤ k) ∧ B' k) 4 pv' y'.ps.length (rowL pL y'.ps) ∧ PI y' ∧ y'.ws.length ≤ y.ws.length + 1 ∧ (∀ k, B k → B' k) ∧ Kp (KB B w0) w w'
theorem YSt.all {sz most root asid : Nat} {on : Bool} {ws : List (Nat × Nat)} : ∀ (ps : List Pl) {s : St}, YSt sz most root asid on ws s → YSt sz most root asid on ws (guessAll ps s)
 | [], _, h => h
 | p :: ps, _, h => YSt.all ps (h.guess p.1 p.2.1 p.2.2.1 p.2.2.2)
theorem drop_said {α : Type} (l : List α) (n : Int) : (dropB l n == (decide (0 ≤ n) && decide (n < (l.length : Int)))) = true := by
 unfold dropB
 exact beq_self_eq_true _
section
variable {x m pt pk : Nat} {pv : Value} {S : St} {R B : Nat → Prop} {w0 w w' : World} {y y' : Yr} {q : Sl} {b : Bool} {e : Ending}
theorem StepQ.pl (h : StepQ x m pt pk pv R B w0 S y' b w e w') (hR : ∀ k, R k → B k) (hb : b = true) (hS : S = y'.st) (hps : y'.ps = y.ps) (hp : RowAt w R 4 pv y.ps.length (rowL pL y.ps)) (hi : PI y') (hn : y'.ws.length ≤ y.ws.length + 1) : PPost x m pt pk R B w0 y w e w' := by
 obtain ⟨q2, B', he, hm, hq, hs, hk⟩ := h
 subst hb hS
 exact ⟨y', q2, B', pv, he, hm, hq, by rw [hps]; exact (hp.kept hk (fun k z f => f.1 (hR k z))).mono (fun k _ z => ⟨.inl z, hs k (hR k z)⟩), hi, hn, hs, hk⟩
theorem PI.ws {y : Yr} (h : PI y) (v : List (Nat × Nat)) (hv : WsOk y.sz v) (on : Bool) (root asid : Nat) (es : List Ent) (ks : List Mk) : PI { y with ws := v, on := on, root := root, asid := asid, es := es, ks := ks } := ⟨hv, h.2.1, h.2.2⟩
theorem acc_off (y : Yr) (ho : y.on = false) (sort : Int) (va wd : Nat) (f l k : Bool) : accessM y.st sort va wd f l k = (((if va % 8 = 0 then ((1, 0) : Nat × Nat) else (5, 0)), 0), y.st) := by
 have hr : y.st.reg = none := by unfold Yr.st regO; rw [ho]; rfl
 unfold accessM leafM
 rw [hr]
 by_cases h8 : va % 8 = 0
 ·simp only [if_pos h8]
  have e1 : (if ((1, 0) : Nat × Nat) = (0, 0) then letP zeroD 0 sort else (1, 0)) = (1, 0) := if_neg (by decide)
  rw [e1, if_neg (by decide)]
 ·simp only [if_neg h8]
  have e1 : (if ((5, 0) : Nat × Nat) = (0, 0) then letP zeroD 0 sort else (5, 0)) = (5, 0) := if_neg (by decide)
  rw [e1, if_neg (by decide)]
theorem st_eq {y : Yr} {s : St} (h : YSt y.sz y.most y.root y.asid y.on y.ws s) : s = Yr.st { y with es := s.es, ks := s.ks } := h.2
theorem step_pl (h : MB x m pt pk pv y.st B w0 w) (hR : ∀ k, R k → B k) (hq : YAt R y q w) (hp : RowAt w R 4 pv y.ps.length (rowL pL y.ps)) (hi : PI y) (hn : y.ws.length ≤ 999998) (kind sort n : Int) (va wd : Nat) (hva : va < 18446744073709551616) (hwd : wd < 18446744073709551616) (f l k : Bool) :
  Calls Tryz.prog 14 #[.pointer (some ⟨x, 0, none⟩), yV y q, .agg #[.int .i64 kind, .int .i64 sort, .int .i64 n, .int .u64 va, .int .u64 wd, .bool f, .bool l, .bool k]] w (PPost x m pt pk R B w0 y w) := by
 have hok := h.ok
 have hen : y.es.length ≤ 1000 := by have h1 := hok.el; have h2 := hok.m64; dsimp only [Yr.st] at h1 h2; omega
 have hkn : y.ks.length ≤ 1000 := by have h1 := hok.kl; have h2 := hok.m64; dsimp only [Yr.st] at h1 h2; omega
 have hyst : YSt y.sz y.most y.root y.asid y.on y.ws y.st := ⟨hok, rfl⟩
 by_cases h1 : kind = 1
 ·subst h1
  cases ho : y.on with
  | true =>
   have hr : y.st = Ys.st y.sz y.most y.root y.asid ⟨y.ws, y.es, y.ks⟩ := by unfold Yr.st regO Ys.st; rw [ho]; rfl
   have hsame := Ys.same y.sz y.most y.root y.asid ⟨y.ws, y.es, y.ks⟩ sort va wd f l k
   have hws := Ys.acc_ws (sz := y.sz) (most := y.most) (root := y.root) (asid := y.asid) (y := ⟨y.ws, y.es, y.ks⟩) hi.1 sort va wd hwd f l k
   have hlen := Ys.acc_len y.sz y.most y.root y.asid ⟨y.ws, y.es, y.ks⟩ sort va wd f l k
   rw [← hr] at hsame
   refine (stepq_access h y { y with ws := (accR y.sz y.most y.ws y.es y.ks y.root y.asid sort va wd f l k).2.1, es := (accR y.sz y.most y.ws y.es y.ks y.root y.asid sort va wd f l k).2.2.es, ks := (accR y.sz y.most y.ws y.es y.ks y.root y.asid sort va wd f l k).2.2.ks } q sort n va wd hva hwd f l k hR hq (accR y.sz y.most y.ws y.es y.ks y.root y.asid sort va wd f l k).1.1.1 (accR y.sz y.most y.ws y.es y.ks y.root y.asid sort va wd f l k).1.1.2 (accR y.sz y.most y.ws y.es y.ks y.root y.asid sort va wd f l k).1.2 (fun u hu hy => ?_)).mono (fun e w' z => z.pl hR ?_ ?_ rfl hp ?_ ?_)
   ·have hs : OkSt ⟨y.sz, rdM y.ws, y.most, y.es, y.ks, some (y.root, y.asid)⟩ := by rw [hr] at hok; exact hok
    have hc := rxaccess_nat (ok := R) y.sz y.most y.root y.asid va wd sort y.ws y.es y.ks f l k q.A1 q.A2 q.A3 q.A4 y.ps.length q.c1 q.c2 q.c3 q.c4 u hs hva (by omega) hi.1.lt hu hy.1 hy.2.1 hy.2.2.1
    have hyv : yV y q = xV y.sz y.most y.root y.asid true (.slice q.A1 y.ws.length q.c1) (.slice q.A2 y.es.length q.c2) (.slice q.A3 y.ks.length q.c3) (.slice q.A4 y.ps.length q.c4) := by unfold yV; rw [ho]
    rw [hyv]
    refine hc.mono (fun e w' z => ?_)
    obtain ⟨A1, c1, A2, c2, A3, c3, he, g1, g2, g3, hb⟩ := z
    exact ⟨⟨A1, c1, A2, c2, A3, c3, q.A4, q.c4⟩, by rw [he]; unfold yV; dsimp only; rw [ho]; rfl, ⟨g1, g2, g3, (hy.2.2.2.below hb).mono (fun _ _ z => .inl z)⟩, hb⟩
   ·rw [hsame]; simp [Ys.acc]
   ·rw [hsame]; unfold Yr.st Ys.st regO; rw [ho]; rfl
   ·exact hi.ws _ hws _ _ _ _ _
   ·exact hlen
  | false =>
   have ha := acc_off y ho sort va wd f l k
   refine (stepq_access h y y q sort n va wd hva hwd f l k hR hq (if va % 8 = 0 then ((1, 0) : Nat × Nat) else (5, 0)).1 (if va % 8 = 0 then ((1, 0) : Nat × Nat) else (5, 0)).2 0 (fun u hu hy => ?_)).mono (fun e w' z => z.pl hR ?_ ?_ rfl hp hi (by omega))
   ·have h9 := rxaccess_off y.sz y.most y.root y.asid va wd sort f l k q.A1 q.A2 q.A3 q.A4 y.ws.length y.es.length y.ks.length y.ps.length q.c1 q.c2 q.c3 q.c4 u
    rw [← ho] at h9
    exact h9.mono (fun e w' z => ⟨q, z.1, (hy.below z.2).mono (fun _ _ z => .inl z), z.2⟩)
   ·rw [ha]; simp
   ·rw [ha]
 by_cases h2 : kind = 2
 ·subst h2
  have hg := hyst.guess va f l k
  refine (stepq_guess h y { y with es := (guessM y.st va f l k).es, ks := (guessM y.st va f l k).ks } q sort n va wd hva f l k hR hq (fun u hu hy => ?_)).mono (fun e w' z => z.pl hR rfl (st_eq hg) rfl hp (hi.ws _ hi.1 _ _ _ _ _) (Nat.le_succ _))
  refine (rguess_any (ok := R) y.sz y.most y.root y.asid va y.on y.ws y.es y.ks f l k q.A1 q.A2 q.A3 q.A4 y.ps.length q.c1 q.c2 q.c3 q.c4 u hok hva (by omega) hi.1.lt hu hy.1 hy.2.1 hy.2.2.1).mono (fun e w' z => ?_)
  obtain ⟨A2, c2, A3, c3, he, g2, g3, hb⟩ := z
  exact ⟨⟨q.A1, q.c1, A2, c2, A3, c3, q.A4, q.c4⟩, he, ⟨(hy.1.below hb).mono (fun _ _ z => .inl z), g2, g3, (hy.2.2.2.below hb).mono (fun _ _ z => .inl z)⟩, hb⟩
 by_cases h3 : kind = 3
 ·subst h3
  have hw2 : WsOk y.sz (if mayP y.sz va = 0 then wrM y.ws va wd else y.ws) := by
   split
   ·rename_i hm; exact hi.1.write hm hwd
   ·exact hi.1
  have hl2 : (if mayP y.sz va = 0 then wrM y.ws va wd else y.ws).length ≤ y.ws.length + 1 := by
   split
   ·exact wrM_len _ _ _
   ·omega
  refine (stepq_mem h y q sort n va wd hva hwd f l k hR hq (mayP y.sz va) (if mayP y.sz va = 0 then wrM y.ws va wd else y.ws) (fun u hu hy => ?_)).mono (fun e w' z => z.pl hR (beq_self_eq_true _) ?_ rfl hp (hi.ws _ hw2 _ _ _ _ _) hl2)
  ·refine (rwrite_nat y.sz va wd y.ws q.A1 q.c1 u hva (by omega) hy.1.rd).mono (fun e w' z => ?_)
   rcases z.1 with ⟨hm, he⟩ | ⟨hm, A2, c2, he, hr⟩
   ·rw [if_neg hm]
    exact ⟨q.A1, q.c1, he, (hy.1.below z.2).mono (fun _ _ z => .inl z), z.2⟩
   ·rw [if_pos hm, hm]
    exact ⟨A2, c2, he, hr.mono (fun _ _ z => .inr z), z.2⟩
  ·show ({ y.st with rd := writeP y.sz (rdM y.ws) va wd } : St) = _
   rw [writeP_rdM]
   rfl
 by_cases h4 : kind = 4
 ·subst h4
  refine (stepq_evict h y { y with es := dropL y.es n } q sort n va wd f l k hR hq (fun u hu hy => ?_) _ _ rfl rfl).mono (fun e w' z => z.pl hR (drop_said _ _) rfl rfl hp (hi.ws _ hi.1 _ _ _ _ _) (Nat.le_succ _))
  refine (rxdrop_nat y.sz y.most y.root y.asid y.on y.es y.ks n false q.A1 q.A2 q.A3 q.A4 y.ws.length y.ps.length q.c1 q.c2 q.c3 q.c4 u hen hkn hy.2.1.rd hy.2.2.1.rd).mono (fun e w' z => ?_)
  obtain ⟨A2, c2, A3, c3, he, g2, g3, hb⟩ := z
  exact ⟨⟨q.A1, q.c1, A2, c2, A3, c3, q.A4, q.c4⟩, he, ⟨(hy.1.below hb).mono (fun _ _ z => .inl z), g2.mono (fun _ _ z => .inr z), g3.mono (fun _ _ z => .inr z), (hy.2.2.2.below hb).mono (fun _ _ z => .inl z)⟩, hb⟩
 by_cases h5 : kind = 5
 ·subst h5
  refine (stepq_lose h y { y with ks := dropL y.ks n } q sort n va wd f l k hR hq (fun u hu hy => ?_) _ _ rfl rfl).mono (fun e w' z => z.pl hR (drop_said _ _) rfl rfl hp (hi.ws _ hi.1 _ _ _ _ _) (Nat.le_succ _))
  refine (rxdrop_nat y.sz y.most y.root y.asid y.on y.es y.ks n true q.A1 q.A2 q.A3 q.A4 y.ws.length y.ps.length q.c1 q.c2 q.c3 q.c4 u hen hkn hy.2.1.rd hy.2.2.1.rd).mono (fun e w' z => ?_)
  obtain ⟨A2, c2, A3, c3, he, g2, g3, hb⟩ := z
  exact ⟨⟨q.A1, q.c1, A2, c2, A3, c3, q.A4, q.c4⟩, he, ⟨(hy.1.below hb).mono (fun _ _ z => .inl z), g2.mono (fun _ _ z => .inr z), g3.mono (fun _ _ z => .inr z), (hy.2.2.2.below hb).mono (fun _ _ z => .inl z)⟩, hb⟩
 have CF : ∀ (a : Int) (one : Bool) (v : Nat) (hv : v < 18446744073709551616) (es : List Ent) (ks : List Mk), flushE y.es a one v = es → flushK y.ks a one v = ks → ∀ u, YAt R y q u → Calls Tryz.prog 46 #[yV y q, .int .i64 a, .bool one, .int .u64 v] u (YP R { y with es := es, ks := ks } (fun v => v) u) := fun a one v hv es ks h1 h2 u hy => by
  subst h1 h2
  refine (rxflush_nat y.sz y.most y.root y.asid y.on y.es y.ks a one v q.A1 q.A2 q.A3 q.A4 y.ws.length y.ps.length q.c1 q.c2 q.c3 q.c4 u hv hen hkn (fun z hz => (hok.eok z hz).2.2.1) (fun z hz => ⟨(hok.kok z hz).2.1, (hok.kok z hz).2.2.1⟩) hy.2.1.rd hy.2.2.1.rd).mono (fun e w' z => ?_)
  obtain ⟨A2, c2, A3, c3, he, g2, g3, hb⟩ := z
  exact ⟨⟨q.A1, q.c1, A2, c2, A3, c3, q.A4, q.c4⟩, he, ⟨(hy.1.below hb).mono (fun _ _ z => .inl z), g2.mono (fun _ _ z => .inr z), g3.mono (fun _ _ z => .inr z), (hy.2.2.2.below hb).mono (fun _ _ z => .inl z)⟩, hb⟩
 by_cases h6 : kind = 6
 ·subst h6
  exact (stepq_flushva h y { y with es := (flushVaM y.st n va).es, ks := (flushVaM y.st n va).ks } q sort n va wd hva f l k hR hq (fun u _ hy => CF n true va hva _ _ (flushE_va y.st n va) (flushK_va y.st n va) u hy)).mono (fun e w' z => z.pl hR rfl rfl rfl hp (hi.ws _ hi.1 _ _ _ _ _) (Nat.le_succ _))
 by_cases h7 : kind = 7
 ·subst h7
  by_cases hn0 : n < 0
  ·refine (step_flushneg h y.sz y.most y.root y.asid y.on q.A1 q.A2 q.A3 q.A4 y.ws.length y.es.length y.ks.length y.ps.length q.c1 q.c2 q.c3 q.c4 sort n hn0 va wd f l k).mono (fun e w' z => ?_)
   exact ⟨y, q, B, pv, z.1, z.2.1, (hq.kept z.2.2 (fun k z f => f.1 (hR k z))).mono (fun k _ z => ⟨.inl z, hR k z⟩), (hp.kept z.2.2 (fun k z f => f.1 (hR k z))).mono (fun k _ z => ⟨.inl z, hR k z⟩), hi, by omega, fun k z => z, z.2.2⟩
  ·exact (stepq_flushas h y { y with es := (flushAsM y.st n).es, ks := (flushAsM y.st n).ks } q sort n va wd hva f l k (decide_eq_false hn0) hR hq (fun u _ hy => CF n false 0 (by omega) _ _ (flushE_as y.st n (by omega) 0) (flushK_as y.st n (by omega) 0) u hy)).mono (fun e w' z => z.pl hR rfl rfl rfl hp (hi.ws _ hi.1 _ _ _ _ _) (Nat.le_succ _))
 by_cases h8 : kind = 8
 ·subst h8
  exact (stepq_flushall h y { y with es := [], ks := [] } q sort n va wd hva f l k hR hq (fun u _ hy => CF (-1) false 0 (by omega) _ _ (flushE_all y.st 0) (flushK_all y.st 0) u hy)).mono (fun e w' z => z.pl hR rfl rfl rfl hp (hi.ws _ hi.1 _ _ _ _ _) (Nat.le_succ _))
 by_cases h9 : kind = 9
 ·subst h9
  by_cases hg : wd % 4096 = 0 ∧ wd < 72057594037927936
  ·exact (stepq_set h y q sort n va wd hwd f l k hR hq hg).mono (fun e w' z => z.pl hR rfl rfl rfl hp (hi.ws _ hi.1 _ _ _ _ _) (Nat.le_succ _))
  ·exact (stepq_setbad h y q sort n va wd hwd f l k hR hq hg).mono (fun e w' z => z.pl hR rfl rfl rfl hp hi (Nat.le_succ _))
 by_cases h10 : kind = 10
 ·subst h10
  refine (step_off h y.sz y.most y.root y.asid y.on q.A1 q.A2 q.A3 q.A4 y.ws.length y.es.length y.ks.length y.ps.length q.c1 q.c2 q.c3 q.c4 sort n va wd f l k).mono (fun e w' z => ?_)
  exact ⟨{ y with on := false }, q, B, pv, z.1, z.2.1, (hq.kept z.2.2 (fun k z f => f.1 (hR k z))).mono (fun k _ z => ⟨.inl z, hR k z⟩), (hp.kept z.2.2 (fun k z f => f.1 (hR k z))).mono (fun k _ z => ⟨.inl z, hR k z⟩), hi.ws _ hi.1 _ _ _ _ _, Nat.le_succ _, fun k z => z, z.2.2⟩
 by_cases h11 : kind = 11
 ·subst h11
  by_cases hn0 : n < 0
  ·refine (stepq_plan0 h y q sort n va wd f l k hR hq (decide_eq_true hn0) _ rfl).mono (fun e w' z => ?_)
   obtain ⟨q2, B', pv', he, hm, hr, hq2, hs, hk⟩ := z
   exact ⟨_, q2, B', pv', he, hm, hq2, hr.mono (fun k _ z => ⟨.inr z.1, z.2⟩), ⟨hi.1, fun p (hp : p ∈ ([] : List Pl)) => (List.not_mem_nil hp).elim, by simp⟩, Nat.le_succ _, hs, hk⟩
  ·refine (stepq_plan h y q sort n va wd f l k hR hq (decide_eq_false hn0) _ rfl).mono (fun e w' z => ?_)
   obtain ⟨q2, B', pv', he, hm, hr, hq2, hs, hk⟩ := z
   refine ⟨_, q2, B', pv', he, hm, hq2, hr.mono (fun k _ z => ⟨.inr z.1, z.2⟩), ⟨hi.1, fun p hp => ?_, by simp⟩, Nat.le_succ _, hs, hk⟩
   rcases List.mem_cons.1 hp with rfl | hp
   ·exact hva
   ·rcases List.mem_cons.1 hp with rfl | hp
    ·exact Nat.mod_lt _ (by omega)
    ·cases hp
 by_cases h12 : kind = 12
 ·subst h12
  have hwg : ∀ u, MB x m pt pk pv y.st (fun k => B k ∨ (w.heap.size ≤ k ∧ k < u.heap.size)) w0 u → Below w.heap.size w u → Calls Tryz.prog 49 #[.pointer (some ⟨x, 0, none⟩), .int .u64 va, .int .u64 wd] u fun e w' => e = .returned (.int .i64 (writeG y.st y.ps va wd).2) ∧ MB x m pt pk pv (writeG y.st y.ps va wd).1 (fun k => B k ∨ (w.heap.size ≤ k ∧ k < u.heap.size)) w0 w' ∧ Kp (KB (fun k => B k ∨ (w.heap.size ≤ k ∧ k < u.heap.size)) w0) u w' :=
   fun u hm hbl => hm.writeG ((hp.below hbl).mono (fun k _ z => .inl (hR k z))) hi.2.1 hi.2.2 va wd hva hwd
  by_cases hm : mayP y.sz va = 0
  ·have hrd : writeP y.sz (rdM y.ws) va wd = rdM (wrM y.ws va wd) := by rw [writeP_rdM, if_pos hm]
   have hS0 : YSt y.sz y.most y.root y.asid y.on (wrM y.ws va wd) ⟨y.sz, rdM (wrM y.ws va wd), y.most, y.es, y.ks, regO y.on y.root y.asid⟩ := ⟨hok.setM _, rfl⟩
   have hG := hS0.all y.ps
   have hwG : writeG y.st y.ps va wd = (guessAll y.ps ⟨y.sz, rdM (wrM y.ws va wd), y.most, y.es, y.ks, regO y.on y.root y.asid⟩, 0) := by
    unfold writeG
    show (if mayP y.sz va = 0 then guessAll y.ps { y.st with rd := writeP y.sz (rdM y.ws) va wd } else _, mayP y.sz va) = _
    rw [if_pos hm, hm, hrd]
    rfl
   rw [hwG] at hwg
   have hlen := wrM_len y.ws va wd
   have hw2 := hi.1.write hm hwd
   refine (stepq_write h y { y with ws := wrM y.ws va wd, es := (guessAll y.ps ⟨y.sz, rdM (wrM y.ws va wd), y.most, y.es, y.ks, regO y.on y.root y.asid⟩).es, ks := (guessAll y.ps ⟨y.sz, rdM (wrM y.ws va wd), y.most, y.es, y.ks, regO y.on y.root y.asid⟩).ks } q sort n va wd f l k hR hq 0 0 hwg (fun u hu hy => ?_)).mono (fun e w' z => z.pl hR rfl hG.2 rfl hp (hi.ws _ hw2 _ _ _ _ _) hlen)
   refine (rxwrite_good (ok := R) y.sz y.most y.root y.asid va wd y.on y.ws y.ps ⟨y.sz, rdM (wrM y.ws va wd), y.most, y.es, y.ks, regO y.on y.root y.asid⟩ q.A1 q.A2 q.A3 q.A4 q.c1 q.c2 q.c3 q.c4 u hva (by omega) (by omega) hm hi.2.1 hi.2.2 hw2.lt hu hS0 hy.1.rd hy.2.1 hy.2.2.1 hy.2.2.2.rd).mono (fun e w' z => ?_)
   obtain ⟨z, hb⟩ := z
   obtain ⟨-, A1, c1, A2, c2, A3, c3, he, g1, g2, g3⟩ := z.resolve_left (fun z => z.1 rfl)
   exact ⟨⟨A1, c1, A2, c2, A3, c3, q.A4, q.c4⟩, he, ⟨g1, g2, g3, (hy.2.2.2.below hb).mono (fun _ _ z => .inl z)⟩, hb⟩
  ·have hwG : writeG y.st y.ps va wd = (y.st, mayP y.sz va) := by
    unfold writeG
    show (if mayP y.sz va = 0 then _ else { y.st with rd := writeP y.sz (rdM y.ws) va wd }, mayP y.sz va) = _
    rw [if_neg hm, writeP_rdM, if_neg hm]
    rfl
   rw [hwG] at hwg
   refine (stepq_write h y y q sort n va wd f l k hR hq (mayP y.sz va) (mayP y.sz va) hwg (fun u hu hy => ?_)).mono (fun e w' z => z.pl hR (beq_self_eq_true _) rfl rfl hp hi (Nat.le_succ _))
   refine (rxwrite_bad (ok := R) y.sz y.most y.root y.asid va wd y.on y.ws [] y.st q.A1 q.A2 q.A3 q.A4 y.es.length y.ks.length y.ps.length q.c1 q.c2 q.c3 q.c4 u hva (by omega) hm hy.1.rd).mono (fun e w' z => ?_)
   exact ⟨q, (z.1.resolve_right (fun z => hm z.1)).2, (hy.below z.2).mono (fun _ _ z => .inl z), z.2⟩
 ·refine (step_none h y.sz y.most y.root y.asid y.on q.A1 q.A2 q.A3 q.A4 y.ws.length y.es.length y.ks.length y.ps.length q.c1 q.c2 q.c3 q.c4 kind sort n (by omega) va wd f l k).mono (fun e w' z => ?_)
  exact ⟨y, q, B, pv, z.1, z.2.1, (hq.kept z.2.2 (fun k z f => f.1 (hR k z))).mono (fun k _ z => ⟨.inl z, hR k z⟩), (hp.kept z.2.2 (fun k z f => f.1 (hR k z))).mono (fun k _ z => ⟨.inl z, hR k z⟩), hi, by omega, fun k z => z, z.2.2⟩
end
end Go.Proofs.YtbapgngngaaojaaGreat
