/- MmuBlocks: what stands between its steps; plain laws. -/
import Derived.Test.YtbapgngngaaojaaGreatG31
set_option linter.unusedSimpArgs false
set_option linter.unusedVariables false
namespace Go.Proofs.YtbapgngngaaojaaGreat
open Go.RowKit Go.Lib
set_option maxRecDepth 100000
theorem walkM_f (s : St) (root asid va : Nat) (fill led keep : Bool) (h : (walkM s root asid va fill led keep).1.f.1 = 0) : (walkM s root asid va fill led keep).1.f = (0, 0) := by
  unfold walkM at h ⊢
  dsimp only at h ⊢
  exact fromP_f _ _ _ _ _ h
theorem leafM_f (s : St) (va : Nat) (fill led keep : Bool) (h : (leafM s va fill led keep).1.f.1 = 0) : (leafM s va fill led keep).1.f = (0, 0) := by
  unfold leafM at h ⊢
  split at h
  · rename_i h8
    rw [if_pos h8]
    split at h
    · simp at h
    · rename_i r a hr
      split at h
      · rename_i h0
        simp only [if_pos h0]
        exact walkM_f _ _ _ _ _ _ _ h
      · rename_i h0
        split at h
        · rename_i h1
          simp only [if_neg h0, if_pos h1]
        · simp at h
  · simp at h
theorem accessM_f (s : St) (kind : Int) (va x : Nat) (fill led keep : Bool) (h : (accessM s kind va x fill led keep).1.1.1 = 0) : (accessM s kind va x fill led keep).1.1 = (0, 0) := by
  have hl := leafM_f s va fill led keep
  unfold accessM at h ⊢
  generalize leafM s va fill led keep = LM at *
  dsimp only at h hl ⊢
  have hf : (if LM.1.f = (0, 0) then letP LM.1.d LM.1.level kind else LM.1.f).1 = 0 → (if LM.1.f = (0, 0) then letP LM.1.d LM.1.level kind else LM.1.f) = (0, 0) := by
    split
    · exact letP_f _ _ _
    · exact hl
  generalize (if LM.1.f = (0, 0) then letP LM.1.d LM.1.level kind else LM.1.f) = f at *
  by_cases h0 : f = (0, 0)
  · simp only [if_pos h0]
    split <;> rfl
  · simp only [if_neg h0] at h ⊢
    exact hf h
theorem Ys.acc_f (sz most root asid : Nat) (y : Ys) (kind : Int) (va x : Nat) (fill led keep : Bool) (h : (y.acc sz most root asid kind va x fill led keep).1.1.1 = 0) : (y.acc sz most root asid kind va x fill led keep).1.1 = (0, 0) := by
  have h2 := accessM_f (y.st sz most root asid) kind va x fill led keep
  rw [Ys.same] at h2
  exact h2 h
section
variable {x m pt pk : Nat} {s s' : St} {B : Nat → Prop} {w0 w w' : World}
/-- What the caller makes is the caller's. -/
theorem MB.grow (h : MB x m pt pk s B w0 w) (hb : Below w.heap.size w w') : MB x m pt pk s (fun k => B k ∨ (w.heap.size ≤ k ∧ k < w'.heap.size)) w0 w' := by
  obtain ⟨Fm, Ft, Fk, h1, h2, h3, h4⟩ := h
  refine ⟨Fm, Ft, Fk, h1.below hb, fun k y => ⟨fun z => ?_, (h2 k y).2⟩, fun k y => ?_, h4.trans (hb.mono h4.size)⟩
  · rcases z with z | z
    · exact (h2 k y).1 z
    · have := h1.bF k y; omega
  · rcases y with y | y
    · exact ⟨Nat.lt_of_lt_of_le (h3 k y).1 hb.size, (h3 k y).2⟩
    · have := h4.size; exact ⟨by omega, by omega⟩
theorem RowAt.mb {sz n : Nat} {v : Value} {cs : List Value} {Y : Nat → Prop} (h : RowAt w Y sz v n cs) (hk : Kp (KB B w0) w w') (hy : ∀ k, Y k → B k) : RowAt w' Y sz v n cs := h.kept hk (fun k y f => f.1 (hy k y))
end
theorem store_empty {x m pt pk : Nat} {Fm Ft Fk : Nat → Prop} {s : St} {w : World} (h : MmuD x m pt pk Fm Ft Fk s w) (va : Nat) (A : Option Addr) (c : Nat) (fill led keep : Bool) :
    Calls Tryz.prog 10 #[.pointer (some ⟨x, 0, none⟩), .int .u64 va, .slice A 0 c, .agg #[.bool fill, .bool led, .bool keep]] w (StorePost x m pt pk Fm Ft Fk (storeGo va fill led keep [] 0 s) w) := by
  have HD := Lib.hid h
  clear h
  go_enter Tryz.func10, Tryz.ntmps10
  go_wp2
  refine wp_loop_rounds 1 ?_
  rw [rounds_succ]
  go_wp2
  refine bodyPost_ret (v := .tuple #[.int .i64 0, .agg #[.int .i64 0, .int .i64 0]]) (by simp [results, Tryz.results10, go_sem]) rfl ⟨rfl, MmuPost.ofBelow HD.out ?_⟩
  exact (below1 w _).alloc (by simp) _
section
variable {x m pt pk : Nat} {s s' : St} {B : Nat → Prop} {w0 w w' : World}
theorem MB.store (h : MB x m pt pk s B w0 w) (va : Nat) (hv : va < 18446744073709551616) (l : List Nat) (hl : ∀ n ∈ l, n < 18446744073709551616) (hn : l.length < 1000000) (A : Option Addr) (c : Nat) (hr : RdRow w0 (.slice A l.length c) l.length (wordsV l)) (fill led keep : Bool) :
    Calls Tryz.prog 10 #[.pointer (some ⟨x, 0, none⟩), .int .u64 va, .slice A l.length c, .agg #[.bool fill, .bool led, .bool keep]] w fun e w' => e = .returned (.tuple #[.int .i64 (storeGo va fill led keep l 0 s).1.1, .agg #[.int .i64 (storeGo va fill led keep l 0 s).1.2.1, .int .i64 (storeGo va fill led keep l 0 s).1.2.2]]) ∧ MB x m pt pk (storeGo va fill led keep l 0 s).2 B w0 w' ∧ Kp (KB B w0) w w' := by
  have hb := h.base
  have h2 : ∃ Fm Ft Fk, MmuD x m pt pk Fm Ft Fk s w ∧ (∀ k, MmuF x pt pk Fm Ft Fk k → w0.heap.size ≤ k) ∧ MB x m pt pk s B w0 w := by
    obtain ⟨Fm, Ft, Fk, h1, h2, h3, h4⟩ := h
    exact ⟨Fm, Ft, Fk, h1, fun k y => (h2 k y).2, ⟨Fm, Ft, Fk, h1, h2, h3, h4⟩⟩
  cases l with
  | nil => exact h.calls fun _ _ _ hd => store_empty hd va A c fill led keep
  | cons a r =>
    obtain ⟨g, o, rfl, hrg⟩ := hr.get (by simp)
    have hgc : w0.cell? ⟨g, o, none⟩ = some (.int .u64 a) := by have := hrg 0 (.int .u64 a) rfl; exact this
    have hg := World.block_lt_of_cell? w0 _ hgc
    dsimp only at hg
    obtain ⟨Fm, Ft, Fk, h1, h2, h3, h4⟩ := h
    have h0 : MB x m pt pk s B w0 w := ⟨Fm, Ft, Fk, h1, h2, h3, h4⟩
    have hc := store_core h1 va hv (a :: r) hl hn g o c (fun y => by have := (h2 g y).2; omega) (by have := hb.size; omega) (fun j v hj => keep_cell hb (hrg j v hj)) fill led keep
    refine hc.mono ?_
    rintro e w' ⟨rfl, hp⟩
    have hst : MB x m pt pk (storeGo va fill led keep (a :: r) 0 s).2 B w0 w' ∧ Kp (KB B w0) w w' := by
      obtain ⟨Fm', Ft', Fk', g1, g2, g3⟩ := hp
      have hk : Kp (KB B w0) w w' := g2.mono h2
      have hs := h4.size
      refine ⟨⟨Fm', Ft', Fk', g1, fun k y => ?_, fun k y => ⟨Nat.lt_of_lt_of_le (h3 k y).1 hk.size, (h3 k y).2⟩, hk.toBelow h4 hs (fun k y => y.2)⟩, hk⟩
      rcases g3 k y with z | z
      · exact h2 k z
      · exact ⟨fun b => by have := (h3 k b).1; omega, by omega⟩
    exact ⟨rfl, hst⟩
theorem MB.load (h : MB x m pt pk s B w0 w) (va : Nat) (hv : va < 18446744073709551616) (n : Int) (fill led keep : Bool) :
    Calls Tryz.prog 13 #[.pointer (some ⟨x, 0, none⟩), .int .u64 va, .int .i64 n, .agg #[.bool fill, .bool led, .bool keep]] w fun e w' => ∃ A c Or, e = .returned (.tuple #[.slice A (loadGo va fill led keep (loadN n) 0 [] s).1.1.length c, .agg #[.int .i64 (loadGo va fill led keep (loadN n) 0 [] s).1.2.1, .int .i64 (loadGo va fill led keep (loadN n) 0 [] s).1.2.2]]) ∧ MB x m pt pk (loadGo va fill led keep (loadN n) 0 [] s).2 (fun k => B k ∨ Or k) w0 w' ∧ Kp (KB B w0) w w' ∧ RowAt w' Or 1 (.slice A (loadGo va fill led keep (loadN n) 0 [] s).1.1.length c) (loadGo va fill led keep (loadN n) 0 [] s).1.1.length (wordsV (loadGo va fill led keep (loadN n) 0 [] s).1.1) ∧ ∀ k, Or k → w.heap.size ≤ k := by
  obtain ⟨Fm, Ft, Fk, h1, h2, h3, h4⟩ := h
  refine (load_nat h1 va hv n fill led keep).mono ?_
  rintro e w' ⟨A, c, rfl, Or, Fm', Ft', Fk', g1, g2, g3, g4, g5⟩
  have hk : Kp (KB B w0) w w' := g2.mono h2
  have hs := h4.size
  refine ⟨A, c, fun k => Or k ∧ k < w'.heap.size, rfl, ⟨Fm', Ft', Fk', g1, fun k y => ?_, fun k y => ?_, hk.toBelow h4 hs (fun k y => y.2)⟩, hk, g4.mono (fun k hk y => ⟨y, hk⟩), fun k y => (g5 k y.1).1⟩
  · rcases g3 k y with z | z
    · refine ⟨fun b => ?_, (h2 k z).2⟩
      rcases b with b | b
      · exact (h2 k z).1 b
      · exact (g5 k b.1).2 y
    · refine ⟨fun b => ?_, by omega⟩
      rcases b with b | b
      · have := (h3 k b).1; omega
      · exact (g5 k b.1).2 y
  · rcases y with y | y
    · exact ⟨Nat.lt_of_lt_of_le (h3 k y).1 hk.size, (h3 k y).2⟩
    · exact ⟨y.2, by have := (g5 k y.1).1; omega⟩
end
/-- What stands between the steps of MmuBlocks: the machine, the document's, and the caller's variables. -/
structure BI (x m pt pk : Nat) (w0 : World) (t9 t12 t14 t16 t17 : Nat) (fill led keep : Bool) (s : St) (y : Ys) (F G : Nat × Nat) (A1 A2 A3 : Option Addr) (c1 c2 c3 : Nat) (B Y : Nat → Prop) (u : World) : Prop where
  mb : MB x m pt pk s B w0 u
  r1 : RowAt u Y 2 (.slice A1 y.ws.length c1) y.ws.length (rowL wL y.ws)
  r2 : RowAt u Y 10 (.slice A2 y.es.length c2) y.es.length (rowL eL y.es)
  r3 : RowAt u Y 4 (.slice A3 y.ks.length c3) y.ks.length (rowL mL y.ks)
  b12 : Box u t12 (xC 1048576 8 4096 3 true (.slice A1 y.ws.length c1) (.slice A2 y.es.length c2) (.slice A3 y.ks.length c3) (.slice none 0 0))
  b9 : Box u t9 [.bool fill, .bool led, .bool keep]
  b14 : Box u t14 [.bool fill, .bool led, .bool keep]
  b16 : Box u t16 [.int .i64 F.1, .int .i64 F.2]
  b17 : Box u t17 [.int .i64 G.1, .int .i64 G.2]
  bt : t9 < w0.heap.size ∧ B t12 ∧ B t14 ∧ B t16 ∧ B t17
  yb : ∀ k, Y k → B k ∧ k ≠ t12 ∧ k ≠ t16 ∧ k ≠ t17
  ne : t9 < t12 ∧ t12 < t14 ∧ t14 < t16 ∧ t16 < t17
  ws : WsOk 1048576 y.ws
  ok : OkSt (y.st 1048576 8 4096 3)
section
variable {x m pt pk : Nat} {w0 : World} {t9 t12 t14 t16 t17 : Nat} {fill led keep : Bool} {s s' : St} {y y' : Ys} {F G F' G' : Nat × Nat} {A1 A2 A3 A1' A2' A3' : Option Addr} {c1 c2 c3 c1' c2' c3' : Nat} {B Y : Nat → Prop} {u u' : World}
theorem BI.grow (h : BI x m pt pk w0 t9 t12 t14 t16 t17 fill led keep s y F G A1 A2 A3 c1 c2 c3 B Y u) (hb : Below u.heap.size u u') : BI x m pt pk w0 t9 t12 t14 t16 t17 fill led keep s y F G A1 A2 A3 c1 c2 c3 (fun k => B k ∨ (u.heap.size ≤ k ∧ k < u'.heap.size)) Y u' :=
  ⟨h.mb.grow hb, h.r1.below hb, h.r2.below hb, h.r3.below hb, h.b12.below hb, h.b9.below hb, h.b14.below hb, h.b16.below hb, h.b17.below hb, ⟨h.bt.1, .inl h.bt.2.1, .inl h.bt.2.2.1, .inl h.bt.2.2.2.1, .inl h.bt.2.2.2.2⟩, fun k z => ⟨.inl (h.yb k z).1, (h.yb k z).2⟩, h.ne, h.ws, h.ok⟩
theorem BI.below (h : BI x m pt pk w0 t9 t12 t14 t16 t17 fill led keep s y F G A1 A2 A3 c1 c2 c3 B Y u) (hb : Below u.heap.size u u') : BI x m pt pk w0 t9 t12 t14 t16 t17 fill led keep s y F G A1 A2 A3 c1 c2 c3 B Y u' :=
  ⟨h.mb.below hb, h.r1.below hb, h.r2.below hb, h.r3.below hb, h.b12.below hb, h.b9.below hb, h.b14.below hb, h.b16.below hb, h.b17.below hb, h.bt, h.yb, h.ne, h.ws, h.ok⟩
/-- Blocks of the caller's own that are none of these. -/
theorem BI.own (h : BI x m pt pk w0 t9 t12 t14 t16 t17 fill led keep s y F G A1 A2 A3 c1 c2 c3 B Y u) {E : Nat → Prop} (hk : Kp E u u') (he : ∀ k, E k → B k ∧ ¬ Y k ∧ k ≠ t9 ∧ k ≠ t12 ∧ k ≠ t14 ∧ k ≠ t16 ∧ k ≠ t17) : BI x m pt pk w0 t9 t12 t14 t16 t17 fill led keep s y F G A1 A2 A3 c1 c2 c3 B Y u' := by
  have hy : ∀ k, Y k → ¬ E k := fun k z e => (he k e).2.1 z
  exact ⟨h.mb.own (hk.mono (fun k e => (he k e).1)), h.r1.kept hk hy, h.r2.kept hk hy, h.r3.kept hk hy, h.b12.kept hk (fun e => (he _ e).2.2.2.1 rfl), h.b9.kept hk (fun e => (he _ e).2.2.1 rfl), h.b14.kept hk (fun e => (he _ e).2.2.2.2.1 rfl), h.b16.kept hk (fun e => (he _ e).2.2.2.2.2.1 rfl), h.b17.kept hk (fun e => (he _ e).2.2.2.2.2.2 rfl), h.bt, h.yb, h.ne, h.ws, h.ok⟩
/-- A step of the machine. -/
theorem BI.mach (h : BI x m pt pk w0 t9 t12 t14 t16 t17 fill led keep s y F G A1 A2 A3 c1 c2 c3 B Y u) (hm : MB x m pt pk s' B w0 u') (hk : Kp (KB B w0) u u') : BI x m pt pk w0 t9 t12 t14 t16 t17 fill led keep s' y F G A1 A2 A3 c1 c2 c3 B Y u' := by
  have hy : ∀ k, Y k → B k := fun k z => (h.yb k z).1
  exact ⟨hm, h.r1.mb hk hy, h.r2.mb hk hy, h.r3.mb hk hy, h.b12.mb hk h.bt.2.1, h.b9.kept hk (fun y => by have := y.2; have := h.bt.1; omega), h.b14.mb hk h.bt.2.2.1, h.b16.mb hk h.bt.2.2.2.1, h.b17.mb hk h.bt.2.2.2.2, h.bt, h.yb, h.ne, h.ws, h.ok⟩
theorem BI.mach' {B' : Nat → Prop} (h : BI x m pt pk w0 t9 t12 t14 t16 t17 fill led keep s y F G A1 A2 A3 c1 c2 c3 B Y u) (hm : MB x m pt pk s' B' w0 u') (hs : ∀ k, B k → B' k) (hk : Kp (KB B w0) u u') : BI x m pt pk w0 t9 t12 t14 t16 t17 fill led keep s' y F G A1 A2 A3 c1 c2 c3 B' Y u' := by
  have hy : ∀ k, Y k → B k := fun k z => (h.yb k z).1
  exact ⟨hm, h.r1.mb hk hy, h.r2.mb hk hy, h.r3.mb hk hy, h.b12.mb hk h.bt.2.1, h.b9.kept hk (fun y => by have := y.2; have := h.bt.1; omega), h.b14.mb hk h.bt.2.2.1, h.b16.mb hk h.bt.2.2.2.1, h.b17.mb hk h.bt.2.2.2.2, ⟨h.bt.1, hs _ h.bt.2.1, hs _ h.bt.2.2.1, hs _ h.bt.2.2.2.1, hs _ h.bt.2.2.2.2⟩, fun k z => ⟨hs _ (h.yb k z).1, (h.yb k z).2⟩, h.ne, h.ws, h.ok⟩
theorem BI.setF (h : BI x m pt pk w0 t9 t12 t14 t16 t17 fill led keep s y F G A1 A2 A3 c1 c2 c3 B Y u) (F' : Nat × Nat) : BI x m pt pk w0 t9 t12 t14 t16 t17 fill led keep s y F' G A1 A2 A3 c1 c2 c3 B Y (u.setCells t16 0 [.int .i64 F'.1, .int .i64 F'.2]) := by
  have hk : Kp (fun k => k = t16) u (u.setCells t16 0 [.int .i64 F'.1, .int .i64 F'.2]) := (Kp.refl (fun k => k = t16) u).setCells (.inl rfl) 0 _
  have hy : ∀ k, Y k → ¬ k = t16 := fun k z => (h.yb k z).2.2.1
  have hn := h.ne
  exact ⟨h.mb.own (hk.mono (fun k e => e ▸ h.bt.2.2.2.1)), h.r1.kept hk hy, h.r2.kept hk hy, h.r3.kept hk hy, h.b12.kept hk (by omega), h.b9.kept hk (by omega), h.b14.kept hk (by omega), h.b16.put rfl, h.b17.kept hk (by omega), h.bt, h.yb, h.ne, h.ws, h.ok⟩
theorem BI.setG (h : BI x m pt pk w0 t9 t12 t14 t16 t17 fill led keep s y F G A1 A2 A3 c1 c2 c3 B Y u) (G' : Nat × Nat) : BI x m pt pk w0 t9 t12 t14 t16 t17 fill led keep s y F G' A1 A2 A3 c1 c2 c3 B Y (u.setCells t17 0 [.int .i64 G'.1, .int .i64 G'.2]) := by
  have hk : Kp (fun k => k = t17) u (u.setCells t17 0 [.int .i64 G'.1, .int .i64 G'.2]) := (Kp.refl (fun k => k = t17) u).setCells (.inl rfl) 0 _
  have hy : ∀ k, Y k → ¬ k = t17 := fun k z => (h.yb k z).2.2.2
  have hn := h.ne
  exact ⟨h.mb.own (hk.mono (fun k e => e ▸ h.bt.2.2.2.2)), h.r1.kept hk hy, h.r2.kept hk hy, h.r3.kept hk hy, h.b12.kept hk (by omega), h.b9.kept hk (by omega), h.b14.kept hk (by omega), h.b16.kept hk (by omega), h.b17.put rfl, h.bt, h.yb, h.ne, h.ws, h.ok⟩
theorem BI.setG0 (h : BI x m pt pk w0 t9 t12 t14 t16 t17 fill led keep s y F G A1 A2 A3 c1 c2 c3 B Y u) : BI x m pt pk w0 t9 t12 t14 t16 t17 fill led keep s y F (0, 0) A1 A2 A3 c1 c2 c3 B Y (u.setCells t17 0 [.int .i64 0, .int .i64 0]) := h.setG (0, 0)
/-- The document's machine is another one, in rows of its own. -/
theorem BI.setY (h : BI x m pt pk w0 t9 t12 t14 t16 t17 fill led keep s y F G A1 A2 A3 c1 c2 c3 B Y u) {Y' : Nat → Prop}
    (q1 : RowAt u Y' 2 (.slice A1' y'.ws.length c1') y'.ws.length (rowL wL y'.ws)) (q2 : RowAt u Y' 10 (.slice A2' y'.es.length c2') y'.es.length (rowL eL y'.es)) (q3 : RowAt u Y' 4 (.slice A3' y'.ks.length c3') y'.ks.length (rowL mL y'.ks))
    (hY : ∀ k, Y' k → B k ∧ k ≠ t12 ∧ k ≠ t16 ∧ k ≠ t17) (hw : WsOk 1048576 y'.ws) (ho : OkSt (y'.st 1048576 8 4096 3)) :
    BI x m pt pk w0 t9 t12 t14 t16 t17 fill led keep s y' F G A1' A2' A3' c1' c2' c3' B Y' (u.setCells t12 0 (xC 1048576 8 4096 3 true (.slice A1' y'.ws.length c1') (.slice A2' y'.es.length c2') (.slice A3' y'.ks.length c3') (.slice none 0 0))) := by
  have hk : Kp (fun k => k = t12) u (u.setCells t12 0 (xC 1048576 8 4096 3 true (.slice A1' y'.ws.length c1') (.slice A2' y'.es.length c2') (.slice A3' y'.ks.length c3') (.slice none 0 0))) := (Kp.refl (fun k => k = t12) u).setCells (.inl rfl) 0 _
  have hy : ∀ k, Y' k → ¬ k = t12 := fun k z => (hY k z).2.1
  have hn := h.ne
  exact ⟨h.mb.own (hk.mono (fun k e => e ▸ h.bt.2.1)), q1.kept hk hy, q2.kept hk hy, q3.kept hk hy, h.b12.put rfl, h.b9.kept hk (by omega), h.b14.kept hk (by omega), h.b16.kept hk (by omega), h.b17.kept hk (by omega), h.bt, hY, h.ne, hw, ho⟩
/-- Rows of the caller's own are written, and grow. -/
theorem BI.ownGrow (h : BI x m pt pk w0 t9 t12 t14 t16 t17 fill led keep s y F G A1 A2 A3 c1 c2 c3 B Y u) {E : Nat → Prop} (hk : Kp E u u') (he : ∀ k, E k → B k ∧ ¬ Y k ∧ k ≠ t9 ∧ k ≠ t12 ∧ k ≠ t14 ∧ k ≠ t16 ∧ k ≠ t17) : BI x m pt pk w0 t9 t12 t14 t16 t17 fill led keep s y F G A1 A2 A3 c1 c2 c3 (fun k => B k ∨ (u.heap.size ≤ k ∧ k < u'.heap.size)) Y u' := by
  have h2 := h.own hk he
  refine ⟨?_, h2.r1, h2.r2, h2.r3, h2.b12, h2.b9, h2.b14, h2.b16, h2.b17, ⟨h.bt.1, .inl h.bt.2.1, .inl h.bt.2.2.1, .inl h.bt.2.2.2.1, .inl h.bt.2.2.2.2⟩, fun k z => ⟨.inl (h.yb k z).1, (h.yb k z).2⟩, h.ne, h.ws, h.ok⟩
  obtain ⟨Fm, Ft, Fk, g1, g2, g3, g4⟩ := h.mb
  have hs := g4.size
  refine ⟨Fm, Ft, Fk, g1.kept hk (fun k y e => (g2 k y).1 (he k e).1), fun k y => ⟨fun z => ?_, (g2 k y).2⟩, fun k y => ?_, hk.toBelow g4 hs (fun k e => (g3 k (he k e).1).2)⟩
  · rcases z with z | z
    · exact (g2 k y).1 z
    · have := g1.bF k y; omega
  · rcases y with y | y
    · exact ⟨Nat.lt_of_lt_of_le (g3 k y).1 hk.size, (g3 k y).2⟩
    · exact ⟨y.2, by omega⟩
theorem BI.same (h : BI x m pt pk w0 t9 t12 t14 t16 t17 fill led keep (y.st 1048576 8 4096 3) y F G A1 A2 A3 c1 c2 c3 B Y u) (hl : y.ws.length ≤ 999999) :
    Calls Tryz.prog 12 #[.pointer (some ⟨x, 0, none⟩), .agg #[.int .u64 1048576, .slice A1 y.ws.length c1, .int .i64 8, .slice A2 y.es.length c2, .slice A3 y.ks.length c3, .bool true, .int .u64 4096, .int .i64 3, .slice none 0 0]] u fun e w' => e = .returned (.bool true) ∧ Below u.heap.size u w' :=
  h.mb.of fun _ _ _ hd => same_nat hd h.ws hl A1 A2 A3 none 0 c1 c2 c3 0 h.r1.rd h.r2.rd h.r3.rd
/-- An access of the document's machine. -/
theorem BI.call (h : BI x m pt pk w0 t9 t12 t14 t16 t17 fill led keep s y F G A1 A2 A3 c1 c2 c3 B Y u) (hl : y.ws.length ≤ 999999) (kind : Int) (va v : Nat) (hva : va < 18446744073709551616) :
    Calls Tryz.prog 11 #[.agg #[.int .u64 1048576, .slice A1 y.ws.length c1, .int .i64 8, .slice A2 y.es.length c2, .slice A3 y.ks.length c3, .bool true, .int .u64 4096, .int .i64 3, .slice none 0 0], .int .i64 kind, .int .u64 va, .int .u64 v, .agg #[.bool fill, .bool led, .bool keep]] u fun e u1 => ∃ A1' c1' A2' c2' A3' c3', e = .returned (.tuple #[.agg #[.int .u64 1048576, .slice A1' (y.acc 1048576 8 4096 3 kind va v fill led keep).2.ws.length c1', .int .i64 8, .slice A2' (y.acc 1048576 8 4096 3 kind va v fill led keep).2.es.length c2', .slice A3' (y.acc 1048576 8 4096 3 kind va v fill led keep).2.ks.length c3', .bool true, .int .u64 4096, .int .i64 3, .slice none 0 0], .agg #[.int .i64 (y.acc 1048576 8 4096 3 kind va v fill led keep).1.1.1, .int .i64 (y.acc 1048576 8 4096 3 kind va v fill led keep).1.1.2], .int .u64 (y.acc 1048576 8 4096 3 kind va v fill led keep).1.2]) ∧ RowAt u1 (fun k => Y k ∨ u.heap.size ≤ k) 2 (.slice A1' (y.acc 1048576 8 4096 3 kind va v fill led keep).2.ws.length c1') (y.acc 1048576 8 4096 3 kind va v fill led keep).2.ws.length (rowL wL (y.acc 1048576 8 4096 3 kind va v fill led keep).2.ws) ∧ RowAt u1 (fun k => Y k ∨ u.heap.size ≤ k) 10 (.slice A2' (y.acc 1048576 8 4096 3 kind va v fill led keep).2.es.length c2') (y.acc 1048576 8 4096 3 kind va v fill led keep).2.es.length (rowL eL (y.acc 1048576 8 4096 3 kind va v fill led keep).2.es) ∧ RowAt u1 (fun k => Y k ∨ u.heap.size ≤ k) 4 (.slice A3' (y.acc 1048576 8 4096 3 kind va v fill led keep).2.ks.length c3') (y.acc 1048576 8 4096 3 kind va v fill led keep).2.ks.length (rowL mL (y.acc 1048576 8 4096 3 kind va v fill led keep).2.ks) ∧ Below u.heap.size u u1 :=
  rxaccess_nat (ok := Y) 1048576 8 4096 3 va v kind y.ws y.es y.ks fill led keep A1 A2 A3 none 0 c1 c2 c3 0 u h.ok hva hl h.ws.lt (fun k z => h.mb.mine (h.yb k z).1) h.r1 h.r2 h.r3
/-- An access of the document's machine, and what the caller keeps of it. -/
theorem BI.acc (h : BI x m pt pk w0 t9 t12 t14 t16 t17 fill led keep s y F G A1 A2 A3 c1 c2 c3 B Y u) (kind : Int) (va v : Nat) (hv : v < 18446744073709551616)
    (q1 : RowAt u' (fun k => Y k ∨ u.heap.size ≤ k) 2 (.slice A1' (y.acc 1048576 8 4096 3 kind va v fill led keep).2.ws.length c1') (y.acc 1048576 8 4096 3 kind va v fill led keep).2.ws.length (rowL wL (y.acc 1048576 8 4096 3 kind va v fill led keep).2.ws))
    (q2 : RowAt u' (fun k => Y k ∨ u.heap.size ≤ k) 10 (.slice A2' (y.acc 1048576 8 4096 3 kind va v fill led keep).2.es.length c2') (y.acc 1048576 8 4096 3 kind va v fill led keep).2.es.length (rowL eL (y.acc 1048576 8 4096 3 kind va v fill led keep).2.es))
    (q3 : RowAt u' (fun k => Y k ∨ u.heap.size ≤ k) 4 (.slice A3' (y.acc 1048576 8 4096 3 kind va v fill led keep).2.ks.length c3') (y.acc 1048576 8 4096 3 kind va v fill led keep).2.ks.length (rowL mL (y.acc 1048576 8 4096 3 kind va v fill led keep).2.ks))
    (hb : Below u.heap.size u u') :
    BI x m pt pk w0 t9 t12 t14 t16 t17 fill led keep s (y.acc 1048576 8 4096 3 kind va v fill led keep).2 F (y.acc 1048576 8 4096 3 kind va v fill led keep).1.1 A1' A2' A3' c1' c2' c3' (fun k => B k ∨ (u.heap.size ≤ k ∧ k < u'.heap.size)) (fun k => Y k ∨ (u.heap.size ≤ k ∧ k < u'.heap.size))
      ((u'.setCells t12 0 (xC 1048576 8 4096 3 true (.slice A1' (y.acc 1048576 8 4096 3 kind va v fill led keep).2.ws.length c1') (.slice A2' (y.acc 1048576 8 4096 3 kind va v fill led keep).2.es.length c2') (.slice A3' (y.acc 1048576 8 4096 3 kind va v fill led keep).2.ks.length c3') (.slice none 0 0))).setCells t17 0 [.int .i64 (y.acc 1048576 8 4096 3 kind va v fill led keep).1.1.1, .int .i64 (y.acc 1048576 8 4096 3 kind va v fill led keep).1.1.2]) := by
  have hg : ∀ k, k < u'.heap.size → (Y k ∨ u.heap.size ≤ k) → (Y k ∨ (u.heap.size ≤ k ∧ k < u'.heap.size)) := fun k hk z => z.imp id (fun q => ⟨q, hk⟩)
  have h12 := h.b12.2.2
  have h16 := h.b16.2.2
  have h17 := h.b17.2.2
  refine ((h.grow hb).setY (q1.mono hg) (q2.mono hg) (q3.mono hg) (fun k z => ?_) (Ys.acc_ws _ _ _ _ h.ws kind va v hv fill led keep) (Ys.acc_ok h.ok kind va v fill led keep)).setG _
  rcases z with z | z
  · exact ⟨.inl (h.yb k z).1, (h.yb k z).2⟩
  · exact ⟨.inr z, by omega, by omega, by omega⟩
end
end Go.Proofs.YtbapgngngaaojaaGreat
