/- Words that are loaded, and stored, one behind the other are what single accesses tell, up to the first fault: the statement MmuBlocks. Conditions: none. -/
import Derived.Test.YtbapgngngaaojaaGreatRows
import Derived.Test.YtbapgngngaaojaaGreatG33
import Derived.WalkKit
import Derived.ProofKit
import Derived.OpenShut
import Derived.Carry
import Derived.Deep.SlicePairs
import Derived.Deep.Strs
set_option linter.unusedSimpArgs false
set_option linter.unusedVariables false
namespace Go.Proofs.YtbapgngngaaojaaGreat
open Go.RowKit Go.Lib Go.ChangeShapes Go.WideShapes Go.ChangeAt
set_option maxRecDepth 100000
theorem u64_of_wf {n : Int} (h : (Lit.int .u64 n).wf = true) : ∃ k : Nat, n = (k : Int) ∧ k < 18446744073709551616 := by
  have hx : 0 ≤ n ∧ n ≤ 18446744073709551615 := by simpa [Lit.wf, IntKind.min, IntKind.max, IntKind.signed, IntKind.bits] using h
  exact ⟨n.toNat, by omega, by omega⟩
section
variable {H : Type} {enc : TypeId × Value → H} {W : World} {v : Value} {d : DataW H} {ps : List MemPlace}
theorem open_steps (hv : Value.okWide Tryz.prog W .any 0 22 v) (h : DataW.Trod enc Tryz.prog W 0 (fun _ => true) true 22 v d ps) :
    ∃ (A : Option Addr) (l : List (Nat × Nat)) (c : Nat), v = .slice A l.length c ∧ RdRow W (.slice A l.length c) l.length (rowL wL l) ∧ ∀ s ∈ l, s.1 < 18446744073709551616 ∧ s.2 < 18446744073709551616 := by
  obtain ⟨a, len, cap, rfl⟩ := okWide_slice Tryz.underlying22 hv
  obtain ⟨fuel, h⟩ := h
  rcases Go.Deep.open_slice_pairs (f0 := _) (f1 := _) Tryz.underlying22 Tryz.underlying81 (by kernel_rfl) rfl rfl (by kernel_rfl) (by kernel_rfl) h with ⟨hc, -⟩ | ⟨a', len', cap', m, n, V0, V1, D0, D1, P0, P1, hc, -, hl, hm, hmm, -, hall⟩
  · have e : Value.slice a len cap = .slice none 0 0 := by simpa [Value.cells] using hc
    obtain ⟨rfl, rfl, rfl⟩ := Value.slice.inj e
    exact ⟨none, [], 0, rfl, ⟨none, 0, rfl, fun h => absurd h (by simp)⟩, fun s hs => by cases hs⟩
  · have e : Value.slice a len cap = .slice (some a') len' cap' := by simpa [Value.cells] using hc
    obtain ⟨rfl, rfl, rfl⟩ := Value.slice.inj e
    obtain rfl : cap = m := by simpa using hmm.symm
    have hN : ∀ i, i < len → ∃ k0 k1 : Nat, V0 i = .int .u64 k0 ∧ V1 i = .int .u64 k1 ∧ k0 < 18446744073709551616 ∧ k1 < 18446744073709551616 := fun i hi => by
      obtain ⟨-, -, h3, h4⟩ := hall i (by omega)
      obtain ⟨n0, e0, -, w0⟩ := DataW.trod_int Tryz.underlying23 h3
      obtain ⟨n1, e1, -, w1⟩ := DataW.trod_int Tryz.underlying23 h4
      obtain ⟨k0, rfl, b0⟩ := u64_of_wf w0
      obtain ⟨k1, rfl, b1⟩ := u64_of_wf w1
      exact ⟨k0, k1, by simpa using e0, by simpa using e1, b0, b1⟩
    let f : Nat → Nat × Nat := fun i => ((RowKit.intOf (V0 i)).toNat, (RowKit.intOf (V1 i)).toNat)
    have hf : ∀ i, i < len → V0 i = .int .u64 (f i).1 ∧ V1 i = .int .u64 (f i).2 ∧ (f i).1 < 18446744073709551616 ∧ (f i).2 < 18446744073709551616 := fun i hi => by
      obtain ⟨k0, k1, e0, e1, b0, b1⟩ := hN i hi
      have q0 : (f i).1 = k0 := by show (RowKit.intOf (V0 i)).toNat = k0; rw [e0]; rfl
      have q1 : (f i).2 = k1 := by show (RowKit.intOf (V1 i)).toNat = k1; rw [e1]; rfl
      rw [q0, q1]
      exact ⟨e0, e1, b0, b1⟩
    have hlen : ((List.range len).map f).length = len := by simp
    refine ⟨some a', (List.range len).map f, cap, by rw [hlen], ?_, ?_⟩
    · rw [hlen]
      refine ⟨some a', cap, rfl, fun hp => ?_⟩
      have hspot : a'.spot = none := by
        have h0 := (hall 0 (by omega)).1
        rw [Nat.zero_mul] at h0
        exact World.cell?_spot (a := a'.add 0) h0
      obtain ⟨g, o, spot⟩ := a'
      dsimp only at hspot
      subst hspot
      refine ⟨g, o, rfl, fun j v hj => ?_⟩
      have hjl : j < len * 2 := by
        have := (List.getElem?_eq_some_iff.1 hj).1
        rw [rowL_len wL 2 wL_len, hlen] at this
        exact this
      have hi : j / 2 < len := by omega
      obtain ⟨c0, c1, -, -⟩ := hall (j / 2) (by omega)
      rw [Addr.add_mid] at c0 c1
      obtain ⟨e0, e1, -, -⟩ := hf (j / 2) hi
      have hat := rowL_at wL 2 wL_len ((List.range len).map f) (j / 2) (by rw [hlen]; exact hi) (j % 2) (Nat.mod_lt _ (by omega))
      rw [show j / 2 * 2 + j % 2 = j by omega, hj] at hat
      rw [List.getElem_map, List.getElem_range] at hat
      rcases Nat.mod_two_eq_zero_or_one j with h2 | h2
      · rw [h2] at hat
        have hv2 : v = .int .u64 (f (j / 2)).1 := by simpa [wL] using hat
        rw [hv2, ← e0, ← c0]
        congr 2
        omega
      · rw [h2] at hat
        have hv2 : v = .int .u64 (f (j / 2)).2 := by simpa [wL] using hat
        rw [hv2, ← e1, ← c1]
        congr 2
        omega
    · intro s hs
      obtain ⟨i, hi, rfl⟩ := List.mem_map.1 hs
      exact ⟨(hf i (List.mem_range.1 hi)).2.2.1, (hf i (List.mem_range.1 hi)).2.2.2⟩
theorem open_words (hv : Value.okWide Tryz.prog W .any 0 24 v) (h : DataW.Trod enc Tryz.prog W 0 (fun _ => true) true 24 v d ps) :
    ∃ (A : Option Addr) (l : List Nat) (c : Nat), v = .slice A l.length c ∧ RdRow W (.slice A l.length c) l.length (wordsV l) ∧ ∀ s ∈ l, s < 18446744073709551616 := by
  obtain ⟨a, len, cap, rfl⟩ := okWide_slice Tryz.underlying24 hv
  obtain ⟨fuel, h⟩ := h
  rcases Go.Deep.open_slice1 Tryz.underlying24 (by kernel_rfl) h with ⟨hc, -⟩ | ⟨a', len', cap', m, n, V0, D0, P0, hc, -, hl, hm, hmm, -, hall⟩
  · have e : Value.slice a len cap = .slice none 0 0 := by simpa [Value.cells] using hc
    obtain ⟨rfl, rfl, rfl⟩ := Value.slice.inj e
    exact ⟨none, [], 0, rfl, ⟨none, 0, rfl, fun h => absurd h (by simp)⟩, fun s hs => by cases hs⟩
  · have e : Value.slice a len cap = .slice (some a') len' cap' := by simpa [Value.cells] using hc
    obtain ⟨rfl, rfl, rfl⟩ := Value.slice.inj e
    obtain rfl : cap = m := by simpa using hmm.symm
    let f : Nat → Nat := fun i => (RowKit.intOf (V0 i)).toNat
    have hf : ∀ i, i < len → V0 i = .int .u64 (f i) ∧ f i < 18446744073709551616 := fun i hi => by
      obtain ⟨-, h3⟩ := hall i (by omega)
      obtain ⟨n0, e0, -, w0⟩ := DataW.trod_int Tryz.underlying23 h3
      obtain ⟨k0, rfl, b0⟩ := u64_of_wf w0
      have e1 : V0 i = .int .u64 k0 := by simpa using e0
      have q0 : f i = k0 := by show (RowKit.intOf (V0 i)).toNat = k0; rw [e1]; rfl
      rw [q0]
      exact ⟨e1, b0⟩
    have hlen : ((List.range len).map f).length = len := by simp
    refine ⟨some a', (List.range len).map f, cap, by rw [hlen], ?_, ?_⟩
    · rw [hlen]
      refine ⟨some a', cap, rfl, fun hp => ?_⟩
      have hspot : a'.spot = none := World.cell?_spot (a := a'.add 0) (hall 0 (by omega)).1
      obtain ⟨g, o, spot⟩ := a'
      dsimp only at hspot
      subst hspot
      refine ⟨g, o, rfl, fun j v hj => ?_⟩
      have hjl : j < len := by
        have := (List.getElem?_eq_some_iff.1 hj).1
        rw [wordsV_len, hlen] at this
        exact this
      obtain ⟨c0, -⟩ := hall j (by omega)
      rw [Addr.add_mid] at c0
      rw [c0, (hf j hjl).1]
      rw [← hj]
      simp [wordsV, hjl]
    · intro s hs
      obtain ⟨i, hi, rfl⟩ := List.mem_map.1 hs
      exact (hf i (List.mem_range.1 hi)).2
theorem open_hint (hv : Value.okWide Tryz.prog W .any 0 26 v) (h : DataW.Trod enc Tryz.prog W 0 (fun _ => true) true 26 v d ps) : ∃ b0 b1 b2 : Bool, v = .agg #[.bool b0, .bool b1, .bool b2] := by
  obtain ⟨cs, rfl, hs⟩ := okWide_struct Tryz.underlying26 hv
  rw [show Tryz.prog.cellsOf 26 = 3 by kernel_rfl] at hs
  obtain ⟨fuel, h⟩ := h
  obtain ⟨y0, y1, y2, n, -, -, h0, h1, h2⟩ := Go.Deep.trod_struct3 Tryz.underlying26 h
  obtain ⟨l⟩ := cs
  match l, hs with
  | [x0, x1, x2], _ =>
    obtain ⟨b0, e0, -⟩ := DataW.trod_bool Tryz.underlying4 h0
    obtain ⟨b1, e1, -⟩ := DataW.trod_bool Tryz.underlying4 h1
    obtain ⟨b2, e2, -⟩ := DataW.trod_bool Tryz.underlying4 h2
    have hc1 : Tryz.prog.cellsOf 4 = 1 := by kernel_rfl
    dsimp only at e0 e1 e2
    rw [hc1] at e0 e1 e2
    have f0 : x0 = .bool b0 := by simpa [Value.cells] using e0
    have f1 : x1 = .bool b1 := by simpa [Value.cells] using e1
    have f2 : x2 = .bool b2 := by simpa [Value.cells] using e2
    exact ⟨b0, b1, b2, by rw [f0, f1, f2]⟩
end
end Go.Proofs.YtbapgngngaaojaaGreat
namespace Go.Proofs.YtbapgngngaaojaaGreat.mmuBlocks
open Go.ChangeShapes Go.WideShapes Go.ChangeAt Go.RowKit
set_option maxRecDepth 100000
theorem own : ownKnob Tryz.prog.godebug = none := by kernel_rfl
theorem laidOut : laidOutB Tryz.prog = true := by kernel_rfl
theorem contract (H : Type) (enc : TypeId × Value → H) (W : World) (base : Nat) (args : Array Value) (ds gs : List (DataW H)) (before : List MemPlace)
    (hval : ∀ (j : Nat) t v, Tryz.f3.params[j]? = some t → args[j]? = some v → Value.okWide Tryz.prog W .any base t v)
    (hW : DataW.Whole enc Tryz.prog Tryz.f3.params.toList Rows.mmuBlocksSpec.vars false W args.toList ds gs before) :
    Calls Tryz.prog 3 args W fun e W' => ∃ v, e = .returned v ∧ Rows.mmuBlocksSpec.post enc Tryz.prog Tryz.f3 false true false false W args v W' := by
  have hW' := hW
  obtain ⟨p, q, hA0, hV, rfl, hfz, hnd⟩ := hW
  have hA : DataW.TrodAll enc Tryz.prog W 0 (fun _ => true) true Tryz.f3.params.toList args.toList ds p := hA0
  rw [Tryz.params3] at hA hval
  obtain ⟨v0, vs0, d0, ds0, p0, q0, hargs, rfl, rfl, h0, r0⟩ := trodAll_cons hA
  obtain ⟨v1, vs1, d1, ds1, p1, q1, rfl, rfl, rfl, h1, r1⟩ := trodAll_cons r0
  obtain ⟨v2, vs2, d2, ds2, p2, q2, rfl, rfl, rfl, h2, r2⟩ := trodAll_cons r1
  obtain ⟨v3, vs3, d3, ds3, p3, q3, rfl, rfl, rfl, h3, r3⟩ := trodAll_cons r2
  obtain ⟨v4, vs4, d4, ds4, p4, q4, rfl, rfl, rfl, h4, r4⟩ := trodAll_cons r3
  obtain ⟨rfl, rfl, rfl⟩ := trodAll_nil r4
  obtain rfl : args = #[v0, v1, v2, v3, v4] := by cases args; simp_all
  obtain ⟨rfl, rfl⟩ := trodVars_none hV
  have k0 := h0
  have k1 := h1
  have k2 := h2
  have k3 := h3
  have k4 := h4
  obtain ⟨A0, l0, c0, rfl, g0, b0⟩ := open_steps (hval 0 22 v0 rfl rfl) h0
  obtain ⟨n1, rfl, -, -, w1⟩ := open_int Tryz.underlying23 (hval 1 23 v1 rfl rfl) h1
  obtain ⟨n1, rfl, bn1⟩ := u64_of_wf w1
  obtain ⟨A2, l2, c2, rfl, g2, b2⟩ := open_words (hval 2 24 v2 rfl rfl) h2
  obtain ⟨n3, rfl, -, -, w3⟩ := open_int Tryz.underlying3 (hval 3 3 v3 rfl rfl) h3
  obtain ⟨x0, x1, x2, rfl⟩ := open_hint (hval 4 26 v4 rfl rfl) h4
  clear hA0
  have walk : Calls Tryz.prog 3 #[.slice A0 l0.length c0, .int .u64 n1, .slice A2 l2.length c2, .int .i64 n3, .agg #[.bool x0, .bool x1, .bool x2]] W fun e w' => e = .returned (.bool true) ∧ Below W.heap.size W w' := by
    by_cases h60 : l0.length ≤ 60
    · exact blocks_nat l0 A0 c0 n1 l2 A2 c2 n3 x0 x1 x2 W h60 b0 g0 bn1 b2 g2
    · exact blocks_long l0.length A0 c0 n1 l2.length A2 c2 n3 x0 x1 x2 W (by omega)
  refine walk.mono fun e W' ⟨he, hg⟩ => ?_
  subst he
  have hlt : ∀ x ∈ p0 ++ (p1 ++ (p2 ++ (p3 ++ (p4 ++ [])))), x.block < W.heap.size := fun x hx => by
    have := hW'.lt x
    simp only [List.append_nil] at this hx
    exact this hx
  have m0 : ∀ x ∈ p0, x.block < W.heap.size := fun x hx => hlt x (List.mem_append_left _ hx)
  have m1 : ∀ x ∈ p1, x.block < W.heap.size := fun x hx => hlt x (List.mem_append_right _ (List.mem_append_left _ hx))
  have m2 : ∀ x ∈ p2, x.block < W.heap.size := fun x hx => hlt x (List.mem_append_right _ (List.mem_append_right _ (List.mem_append_left _ hx)))
  have m3 : ∀ x ∈ p3, x.block < W.heap.size := fun x hx => hlt x (List.mem_append_right _ (List.mem_append_right _ (List.mem_append_right _ (List.mem_append_left _ hx))))
  have m4 : ∀ x ∈ p4, x.block < W.heap.size := fun x hx => hlt x (List.mem_append_right _ (List.mem_append_right _ (List.mem_append_right _ (List.mem_append_right _ (List.mem_append_left _ hx)))))
  exact ⟨_, rfl, _, _, _, [], _, [], hW', trodAll_cons_mk (shut_bool Tryz.underlying4 _) trodAll_mk0,
    trodAll_cons_mk (Below.trod laidOut (by kernel_rfl) (of_decide_eq_true (by kernel_rfl)) k0 hg m0) (trodAll_cons_mk (Below.trod laidOut (by kernel_rfl) (of_decide_eq_true (by kernel_rfl)) k1 hg m1) (trodAll_cons_mk (Below.trod laidOut (by kernel_rfl) (of_decide_eq_true (by kernel_rfl)) k2 hg m2) (trodAll_cons_mk (Below.trod laidOut (by kernel_rfl) (of_decide_eq_true (by kernel_rfl)) k3 hg m3) (trodAll_cons_mk (Below.trod laidOut (by kernel_rfl) (of_decide_eq_true (by kernel_rfl)) k4 hg m4) trodAll_mk0)))), rfl, hg.frame _, fun h => by cases h⟩
set_option maxRecDepth 100000 in
theorem lifted (os : Os) (started : os.Started) (H : Type) (enc : TypeId × Value → H) :
    ReturnsInHanded {} Tryz.checked os 3 .any (Rows.mmuBlocksSpec.pre6 enc Tryz.prog Tryz.f3 Rows.mmuBlocksRow.domain false) (Rows.mmuBlocksSpec.post enc Tryz.prog Tryz.f3 false true false false) := by
  refine returnsInHanded_of_change (C := Tryz.checked) own started (by kernel_rfl) Tryz.func3
    (ChangeSpec.witness6 (enc := enc) (C := Tryz.checked) false ⟨#[], #[.slice none 0 0, .int .u64 0, .slice none 0 0, .int .i64 0, .agg #[.bool false, .bool false, .bool false]], []⟩ 8 (by kernel_rfl) (by kernel_rfl) (by kernel_rfl) (by kernel_rfl)) ?_
  intro W base args ds gs before hval0 hW hcnd _
  exact contract H enc W base args ds gs before hval0 hW
theorem proved : Rows.MmuBlocksSaid :=
  OpenClaim.holds_of_wide 3 Tryz.f3 rfl rfl rfl rfl rfl rfl rfl ⟨rfl, rfl, rfl, rfl, rfl⟩ rfl rfl rfl rfl rfl (by kernel_rfl) Tryz.func3 (by kernel_rfl)
    (of_decide_eq_true (by kernel_rfl)) (by unfold Func.isWrapper; first | (rw [if_pos (by decide +kernel)]; kernel_rfl) | (rw [if_neg (by decide +kernel)]; exact ⟨rfl, rfl⟩))
    (fun os started H enc _ => lifted os started H enc)
#print axioms proved
end Go.Proofs.YtbapgngngaaojaaGreat.mmuBlocks
