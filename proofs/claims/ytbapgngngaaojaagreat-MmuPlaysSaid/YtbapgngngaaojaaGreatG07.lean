/- The walk of package walk: entry. The walk of package walk: entry whole, from. -/
import Derived.Test.YtbapgngngaaojaaGreatG06
set_option linter.unusedSimpArgs false
set_option linter.unusedVariables false
namespace Go.Proofs.YtbapgngngaaojaaGreat
open Go.RowKit Go.Lib
set_option maxRecDepth 100000
theorem WkAt.mono {F F2 : Nat → Prop} {p m : Nat} {steps : List (Nat × Nat)} {w : World} (h : WkAt F p m steps w) (hs : ∀ k, k < w.heap.size → F k → F2 k) (hp : ¬ F2 p) (hb : ∀ k, F2 k → k < w.heap.size) : WkAt F2 p m steps w := by
 obtain ⟨h0, h1, h2, h3, v, h4, h5⟩ := h
 exact ⟨hp, hb, h2, h3, v, h4, h5.mono hs⟩
theorem ent_end {F : Nat → Prop} {p m : Nat} {steps steps' : List (Nat × Nat)} {w W w1 Wf : World} (hk : WkAt F p m steps w) (hW : Below w.heap.size w W) (hk1 : WkAt (Gr F W w1) p m steps' w1) (hkp1 : Kp (WkF F p) W w1)
  (hf : Kp (fun k => w.heap.size ≤ k ∧ k < W.heap.size) w1 Wf) : WkAt (Gr F w Wf) p m steps' Wf ∧ Kp (WkF F p) w Wf := by
 have hlt := hk.lt
 have hF := hk.2.1
 have h1 := hW.size
 have h2 := hkp1.size
 have h3 := hf.size
 refine ⟨(hk1.kept hf (fun h => by omega) (fun k h x => ?_)).mono ?_ (Gr.not hk.1 hlt) (Gr.lt hF (by omega)), ((Kp.ofBelow hW).trans hkp1 (fun i h => .inl h)).trans hf (fun i h => .inr h.1)⟩
 ·rcases h with h | h
  ·have := hF k h; omega
  ·omega
 ·intro k _ h
  rcases h with h | h
  ·exact .inl h
  ·exact .inr ⟨by omega, by omega⟩
theorem wk_new {F : Nat → Prop} {p m : Nat} {steps : List (Nat × Nat)} {w : World} (hk : WkAt F p m steps w) (j : Nat) : ¬ WkF F p (w.heap.size + j) := fun h => by
 rcases h with h | h
 ·have := hk.lt; omega
 ·have := hk.2.1 _ h; omega
def G2 (w W : World) : Nat → Prop := fun k => w.heap.size ≤ k ∧ k < W.heap.size
theorem G2.kp {w W : World} {w1 Wf : World} (hf : Kp (G2 w W) w1 Wf) : Kp (fun k => w.heap.size ≤ k ∧ k < W.heap.size) w1 Wf := hf
theorem Kp.set2 {F : Nat → Prop} {a w : World} {b : Nat} (h : Kp F a w) (hb : F b ∨ a.heap.size ≤ b) (v0 v1 : Value) : Kp F a ((w.setCell ⟨b, 0, none⟩ v0).setCell ⟨b, 1, none⟩ v1) :=
 (h.setCell (p := ⟨b, 0, none⟩) hb v0).setCell (p := ⟨b, 1, none⟩) hb v1
theorem Kp.set7 {F : Nat → Prop} {a w : World} {b : Nat} (h : Kp F a w) (hb : F b ∨ a.heap.size ≤ b) (v0 v1 v2 v3 v4 v5 v6 : Value) :
  Kp F a (((((((w.setCell ⟨b, 0, none⟩ v0).setCell ⟨b, 1, none⟩ v1).setCell ⟨b, 2, none⟩ v2).setCell ⟨b, 3, none⟩ v3).setCell ⟨b, 4, none⟩ v4).setCell ⟨b, 5, none⟩ v5).setCell ⟨b, 6, none⟩ v6) :=
 ((((((h.setCell (p := ⟨b, 0, none⟩) hb v0).setCell (p := ⟨b, 1, none⟩) hb v1).setCell (p := ⟨b, 2, none⟩) hb v2).setCell (p := ⟨b, 3, none⟩) hb v3).setCell (p := ⟨b, 4, none⟩) hb v4).setCell (p := ⟨b, 5, none⟩) hb v5).setCell (p := ⟨b, 6, none⟩) hb v6
set_option maxHeartbeats 400000 in
theorem wentry_no {ok F : Nat → Prop} {p m sz : Nat} {rd : Nat → Nat} {steps : List (Nat × Nat)} {w : World} (hm : MemAt w ok m sz rd) (hk : WkAt F p m steps w) (level table index : Nat) (hl : level ≤ 3) (ht : table < 281474976710656) (hi : index < 512)
  (h0 : mayP sz (table + index * 8) ≠ 0) :
  Calls Tryz.prog 134 #[.pointer (some ⟨p, 0, none⟩), .int .u64 table, .int .i64 level, .int .i64 index] w (EntPost F p m steps (zeroD, (4, level), []) w) := by
 have C2 : Hid (∀ w, Calls Tryz.prog 102 #[.int .i64 level, .int .u64 0] w (DecPost (zeroD, 0) w)) := fun w => by
  have h := decode_any level 0 w hl (by omega)
  have e : decV level 0 = (zeroD, 0) := by unfold decV decP; simp
  rw [e] at h
  exact h
 have hnr : ¬ WkF F p w.heap.size := wk_new hk 0
 have hnq : ¬ WkF F p (w.heap.size + 1) := wk_new hk 1
 go_enter Tryz.func134, Tryz.ntmps134
 go_wp2_with fail
 generalize hW : World.alloc (World.alloc _ _) _ = W
 have r0 : W.cell? ⟨w.heap.size, 0, none⟩ = some (.int .i64 0) := by rw [← hW]; simp
 have r1 : W.cell? ⟨w.heap.size, 1, none⟩ = some (.int .u64 0) := by rw [← hW]; simp
 have r2 : W.cell? ⟨w.heap.size, 2, none⟩ = some (.bool false) := by rw [← hW]; simp
 have r3 : W.cell? ⟨w.heap.size, 3, none⟩ = some (.bool false) := by rw [← hW]; simp
 have r4 : W.cell? ⟨w.heap.size, 4, none⟩ = some (.bool false) := by rw [← hW]; simp
 have r5 : W.cell? ⟨w.heap.size, 5, none⟩ = some (.bool false) := by rw [← hW]; simp
 have r6 : W.cell? ⟨w.heap.size, 6, none⟩ = some (.int .i64 0) := by rw [← hW]; simp
 have q0 : W.cell? ⟨w.heap.size + 1, 0, none⟩ = some (.int .i64 0) := by rw [← hW]; simp
 have q1 : W.cell? ⟨w.heap.size + 1, 1, none⟩ = some (.int .i64 0) := by rw [← hW]; simp
 have fr : ∀ j, W.frozen? ⟨w.heap.size, j, none⟩ = false := fun j => by rw [← hW]; simp
 have fq : ∀ j, W.frozen? ⟨w.heap.size + 1, j, none⟩ = false := fun j => by rw [← hW]; simp
 have hz : w.heap.size + 1 < W.heap.size := by rw [← hW]; simp
 have HB0 : Below w.heap.size w W := by rw [← hW]; exact (below1 w _).alloc (by simp) _
 clear hW
 have HK := Lib.hid hk
 have HG : Hid (w.heap.size + 1 < W.heap.size) := hz
 refine (wread_no (hm.below HB0) (hk.below HB0) table index ht hi h0).mono ?_
 rintro e w1 ⟨rfl, rfl⟩
 go_wp2_with fail
 refine (C2.out _).mono ?_
 rintro e w2 ⟨rfl, hb2⟩
 replace r0 := keep_cell hb2 r0
 replace r1 := keep_cell hb2 r1
 replace r2 := keep_cell hb2 r2
 replace r3 := keep_cell hb2 r3
 replace r4 := keep_cell hb2 r4
 replace r5 := keep_cell hb2 r5
 replace r6 := keep_cell hb2 r6
 replace q0 := keep_cell hb2 q0
 replace q1 := keep_cell hb2 q1
 have hz' : w.heap.size < w1.heap.size := by omega
 replace fr := fun j => keep_frozen hb2 hz' (fr j)
 replace fq := fun j => keep_frozen hb2 hz (fq j)
 have hzt : w.heap.size + 1 < w2.heap.size := by have := hb2.size; omega
 have hzt' : w.heap.size < w2.heap.size := by omega
 have hk1 : Hid (WkAt (Gr F w1 w1) p m (steps ++ []) w1) := by
  rw [List.append_nil]
  exact (HK.out.below HB0).mono (fun k _ h => .inl h) (Gr.not HK.out.1 (HK.out.below HB0).lt) (Gr.lt (HK.out.below HB0).2.1 (Nat.le_refl _))
 have hkp1 : Hid (Kp (WkF F p) w1 w1) := Kp.refl _ _
 have HF : Hid (Kp (G2 w w1) w1 w2) := (Kp.refl _ w1).below hb2
 have HB2 := Lib.hid hb2
 clear hb2 hm hk h0 hnr hnq
 dsimp only [dV, zeroD]
 go_wp2
 refine bodyPost_ret (v := .tuple #[dV zeroD, fV (4, level)]) (by simp [results, Tryz.results134, go_sem, hz, hz', hzt, hzt', r0, r1, r2, r3, r4, r5, r6, q0, q1, dV, fV, zeroD]) rfl ⟨rfl, ent_end HK.out HB0 hk1 hkp1 ?_⟩
 have ga : G2 w w1 w.heap.size := ⟨Nat.le_refl _, by have := HG.out; omega⟩
 have gb : G2 w w1 (w.heap.size + 1) := ⟨by omega, HG.out⟩
 exact G2.kp (((HF.out.set7 (.inl ga) _ _ _ _ _ _ _).set2 (.inl gb) _ _).alloc _)
set_option maxHeartbeats 400000 in
theorem wentry_bad {ok F : Nat → Prop} {p m sz : Nat} {rd : Nat → Nat} {steps : List (Nat × Nat)} {w : World} (hm : MemAt w ok m sz rd) (hk : WkAt F p m steps w) (level table index : Nat) (hl : level ≤ 3) (ht : table < 281474976710656) (hi : index < 512) (hs : steps.length ≤ 8)
  (h0 : mayP sz (table + index * 8) = 0) (hd : decV level (rd (table + index * 8)) = (zeroD, 10)) :
  Calls Tryz.prog 134 #[.pointer (some ⟨p, 0, none⟩), .int .u64 table, .int .i64 level, .int .i64 index] w (EntPost F p m steps (zeroD, (4, level), [(table + index * 8, rd (table + index * 8))]) w) := by
 have C2 : Hid (∀ w, Calls Tryz.prog 102 #[.int .i64 level, .int .u64 (rd (table + index * 8))] w (DecPost (zeroD, 10) w)) := fun w => by
  have h := decode_any level (rd (table + index * 8)) w hl (hm.word _)
  rw [hd] at h
  exact h
 clear hd
 have hnr : ¬ WkF F p w.heap.size := wk_new hk 0
 have hnq : ¬ WkF F p (w.heap.size + 1) := wk_new hk 1
 go_enter Tryz.func134, Tryz.ntmps134
 go_wp2_with fail
 generalize hW : World.alloc (World.alloc _ _) _ = W
 have r0 : W.cell? ⟨w.heap.size, 0, none⟩ = some (.int .i64 0) := by rw [← hW]; simp
 have r1 : W.cell? ⟨w.heap.size, 1, none⟩ = some (.int .u64 0) := by rw [← hW]; simp
 have r2 : W.cell? ⟨w.heap.size, 2, none⟩ = some (.bool false) := by rw [← hW]; simp
 have r3 : W.cell? ⟨w.heap.size, 3, none⟩ = some (.bool false) := by rw [← hW]; simp
 have r4 : W.cell? ⟨w.heap.size, 4, none⟩ = some (.bool false) := by rw [← hW]; simp
 have r5 : W.cell? ⟨w.heap.size, 5, none⟩ = some (.bool false) := by rw [← hW]; simp
 have r6 : W.cell? ⟨w.heap.size, 6, none⟩ = some (.int .i64 0) := by rw [← hW]; simp
 have q0 : W.cell? ⟨w.heap.size + 1, 0, none⟩ = some (.int .i64 0) := by rw [← hW]; simp
 have q1 : W.cell? ⟨w.heap.size + 1, 1, none⟩ = some (.int .i64 0) := by rw [← hW]; simp
 have fr : ∀ j, W.frozen? ⟨w.heap.size, j, none⟩ = false := fun j => by rw [← hW]; simp
 have fq : ∀ j, W.frozen? ⟨w.heap.size + 1, j, none⟩ = false := fun j => by rw [← hW]; simp
 have hz : w.heap.size + 1 < W.heap.size := by rw [← hW]; simp
 have HB0 : Below w.heap.size w W := by rw [← hW]; exact (below1 w _).alloc (by simp) _
 clear hW
 have HK := Lib.hid hk
 have HG : Hid (w.heap.size + 1 < W.heap.size) := hz
 refine (wread_ok (hm.below HB0) (hk.below HB0) table index ht hi hs h0).mono ?_
 rintro e w1 ⟨rfl, hk1, hkp1⟩
 replace r0 := Kp.cell hkp1 r0 hnr
 replace r1 := Kp.cell hkp1 r1 hnr
 replace r2 := Kp.cell hkp1 r2 hnr
 replace r3 := Kp.cell hkp1 r3 hnr
 replace r4 := Kp.cell hkp1 r4 hnr
 replace r5 := Kp.cell hkp1 r5 hnr
 replace r6 := Kp.cell hkp1 r6 hnr
 replace q0 := Kp.cell hkp1 q0 hnq
 replace q1 := Kp.cell hkp1 q1 hnq
 have hz' : w.heap.size < W.heap.size := by omega
 replace fr := fun j => (Kp.frozen hkp1 hz' hnr).trans (fr j)
 replace fq := fun j => (Kp.frozen hkp1 hz hnq).trans (fq j)
 have hz1 : w.heap.size + 1 < w1.heap.size := by have := hkp1.size; omega
 have hz1' : w.heap.size < w1.heap.size := by omega
 generalize rd (table + index * 8) = x at *
 generalize table + index * 8 = A at *
 have HK1 := Lib.hid hk1
 have HKP1 := Lib.hid hkp1
 clear hk1 hkp1
 go_wp2_with fail
 refine (C2.out _).mono ?_
 rintro e w2 ⟨rfl, hb2⟩
 replace r0 := keep_cell hb2 r0
 replace r1 := keep_cell hb2 r1
 replace r2 := keep_cell hb2 r2
 replace r3 := keep_cell hb2 r3
 replace r4 := keep_cell hb2 r4
 replace r5 := keep_cell hb2 r5
 replace r6 := keep_cell hb2 r6
 replace q0 := keep_cell hb2 q0
 replace q1 := keep_cell hb2 q1
 replace fr := fun j => keep_frozen hb2 hz1' (fr j)
 replace fq := fun j => keep_frozen hb2 hz1 (fq j)
 have hzt : w.heap.size + 1 < w2.heap.size := by have := hb2.size; omega
 have hzt' : w.heap.size < w2.heap.size := by omega
 have HF : Hid (Kp (G2 w W) w1 w2) := (Kp.refl _ w1).below hb2
 have HB2 := Lib.hid hb2
 clear hb2 hk hnr hnq
 dsimp only [dV, zeroD]
 go_wp2
 refine bodyPost_ret (v := .tuple #[dV zeroD, fV (4, level)]) (by simp [results, Tryz.results134, go_sem, hz, hz', hzt, hzt', r0, r1, r2, r3, r4, r5, r6, q0, q1, dV, fV, zeroD]) rfl ⟨rfl, ent_end HK.out HB0 HK1.out HKP1.out ?_⟩
 have ga : G2 w W w.heap.size := ⟨Nat.le_refl _, by have := HG.out; omega⟩
 have gb : G2 w W (w.heap.size + 1) := ⟨by omega, HG.out⟩
 exact G2.kp (((HF.out.set7 (.inl ga) _ _ _ _ _ _ _).set2 (.inl gb) _ _).alloc _)
set_option maxHeartbeats 400000 in
theorem wentry_missing {ok F : Nat → Prop} {p m sz : Nat} {rd : Nat → Nat} {steps : List (Nat × Nat)} {w : World} (hm : MemAt w ok m sz rd) (hk : WkAt F p m steps w) (level table index : Nat) (hl : level ≤ 3) (ht : table < 281474976710656) (hi : index < 512) (hs : steps.length ≤ 8)
  (h0 : mayP sz (table + index * 8) = 0) (out attr : Nat) (b1 b2 b3 b4 : Bool) (hd : decV level (rd (table + index * 8)) = (⟨0, out, b1, b2, b3, b4, attr⟩, 0)) :
  Calls Tryz.prog 134 #[.pointer (some ⟨p, 0, none⟩), .int .u64 table, .int .i64 level, .int .i64 index] w (EntPost F p m steps (⟨0, out, b1, b2, b3, b4, attr⟩, (1, level), [(table + index * 8, rd (table + index * 8))]) w) := by
 have C2 : Hid (∀ w, Calls Tryz.prog 102 #[.int .i64 level, .int .u64 (rd (table + index * 8))] w (DecPost (⟨0, out, b1, b2, b3, b4, attr⟩, 0) w)) := fun w => by
  have h := decode_any level (rd (table + index * 8)) w hl (hm.word _)
  rw [hd] at h
  exact h
 clear hd
 have hnr : ¬ WkF F p w.heap.size := wk_new hk 0
 have hnq : ¬ WkF F p (w.heap.size + 1) := wk_new hk 1
 go_enter Tryz.func134, Tryz.ntmps134
 go_wp2_with fail
 generalize hW : World.alloc (World.alloc _ _) _ = W
 have r0 : W.cell? ⟨w.heap.size, 0, none⟩ = some (.int .i64 0) := by rw [← hW]; simp
 have r1 : W.cell? ⟨w.heap.size, 1, none⟩ = some (.int .u64 0) := by rw [← hW]; simp
 have r2 : W.cell? ⟨w.heap.size, 2, none⟩ = some (.bool false) := by rw [← hW]; simp
 have r3 : W.cell? ⟨w.heap.size, 3, none⟩ = some (.bool false) := by rw [← hW]; simp
 have r4 : W.cell? ⟨w.heap.size, 4, none⟩ = some (.bool false) := by rw [← hW]; simp
 have r5 : W.cell? ⟨w.heap.size, 5, none⟩ = some (.bool false) := by rw [← hW]; simp
 have r6 : W.cell? ⟨w.heap.size, 6, none⟩ = some (.int .i64 0) := by rw [← hW]; simp
 have q0 : W.cell? ⟨w.heap.size + 1, 0, none⟩ = some (.int .i64 0) := by rw [← hW]; simp
 have q1 : W.cell? ⟨w.heap.size + 1, 1, none⟩ = some (.int .i64 0) := by rw [← hW]; simp
 have fr : ∀ j, W.frozen? ⟨w.heap.size, j, none⟩ = false := fun j => by rw [← hW]; simp
 have fq : ∀ j, W.frozen? ⟨w.heap.size + 1, j, none⟩ = false := fun j => by rw [← hW]; simp
 have hz : w.heap.size + 1 < W.heap.size := by rw [← hW]; simp
 have HB0 : Below w.heap.size w W := by rw [← hW]; exact (below1 w _).alloc (by simp) _
 clear hW
 have HK := Lib.hid hk
 have HG : Hid (w.heap.size + 1 < W.heap.size) := hz
 refine (wread_ok (hm.below HB0) (hk.below HB0) table index ht hi hs h0).mono ?_
 rintro e w1 ⟨rfl, hk1, hkp1⟩
 replace r0 := Kp.cell hkp1 r0 hnr
 replace r1 := Kp.cell hkp1 r1 hnr
 replace r2 := Kp.cell hkp1 r2 hnr
 replace r3 := Kp.cell hkp1 r3 hnr
 replace r4 := Kp.cell hkp1 r4 hnr
 replace r5 := Kp.cell hkp1 r5 hnr
 replace r6 := Kp.cell hkp1 r6 hnr
 replace q0 := Kp.cell hkp1 q0 hnq
 replace q1 := Kp.cell hkp1 q1 hnq
 have hz' : w.heap.size < W.heap.size := by omega
 replace fr := fun j => (Kp.frozen hkp1 hz' hnr).trans (fr j)
 replace fq := fun j => (Kp.frozen hkp1 hz hnq).trans (fq j)
 have hz1 : w.heap.size + 1 < w1.heap.size := by have := hkp1.size; omega
 have hz1' : w.heap.size < w1.heap.size := by omega
 generalize rd (table + index * 8) = x at *
 generalize table + index * 8 = A at *
 have HK1 := Lib.hid hk1
 have HKP1 := Lib.hid hkp1
 clear hk1 hkp1
 go_wp2_with fail
 refine (C2.out _).mono ?_
 rintro e w2 ⟨rfl, hb2⟩
 replace r0 := keep_cell hb2 r0
 replace r1 := keep_cell hb2 r1
 replace r2 := keep_cell hb2 r2
 replace r3 := keep_cell hb2 r3
 replace r4 := keep_cell hb2 r4
 replace r5 := keep_cell hb2 r5
 replace r6 := keep_cell hb2 r6
 replace q0 := keep_cell hb2 q0
 replace q1 := keep_cell hb2 q1
 replace fr := fun j => keep_frozen hb2 hz1' (fr j)
 replace fq := fun j => keep_frozen hb2 hz1 (fq j)
 have hzt : w.heap.size + 1 < w2.heap.size := by have := hb2.size; omega
 have hzt' : w.heap.size < w2.heap.size := by omega
 have HF : Hid (Kp (G2 w W) w1 w2) := (Kp.refl _ w1).below hb2
 have HB2 := Lib.hid hb2
 clear hb2 hk hnr hnq
 dsimp only [dV, zeroD]
 go_wp2
 refine bodyPost_ret (v := .tuple #[dV ⟨0, out, b1, b2, b3, b4, attr⟩, fV (1, level)]) (by simp [results, Tryz.results134, go_sem, hz, hz', hzt, hzt', r0, r1, r2, r3, r4, r5, r6, q0, q1, dV, fV, zeroD]) rfl ⟨rfl, ent_end HK.out HB0 HK1.out HKP1.out ?_⟩
 have ga : G2 w W w.heap.size := ⟨Nat.le_refl _, by have := HG.out; omega⟩
 have gb : G2 w W (w.heap.size + 1) := ⟨by omega, HG.out⟩
 exact G2.kp (((HF.out.set7 (.inl ga) _ _ _ _ _ _ _).set2 (.inl gb) _ _).alloc _)
set_option maxHeartbeats 400000 in
theorem wentry_table {ok F : Nat → Prop} {p m sz : Nat} {rd : Nat → Nat} {steps : List (Nat × Nat)} {w : World} (hm : MemAt w ok m sz rd) (hk : WkAt F p m steps w) (level table index : Nat) (hl : level ≤ 3) (ht : table < 281474976710656) (hi : index < 512) (hs : steps.length ≤ 8)
  (h0 : mayP sz (table + index * 8) = 0) (out attr : Nat) (b1 b2 b3 b4 : Bool) (hd : decV level (rd (table + index * 8)) = (⟨1, out, b1, b2, b3, b4, attr⟩, 0)) :
  Calls Tryz.prog 134 #[.pointer (some ⟨p, 0, none⟩), .int .u64 table, .int .i64 level, .int .i64 index] w (EntPost F p m steps (⟨1, out, b1, b2, b3, b4, attr⟩, (0, 0), [(table + index * 8, rd (table + index * 8))]) w) := by
 have C2 : Hid (∀ w, Calls Tryz.prog 102 #[.int .i64 level, .int .u64 (rd (table + index * 8))] w (DecPost (⟨1, out, b1, b2, b3, b4, attr⟩, 0) w)) := fun w => by
  have h := decode_any level (rd (table + index * 8)) w hl (hm.word _)
  rw [hd] at h
  exact h
 clear hd
 have hnr : ¬ WkF F p w.heap.size := wk_new hk 0
 have hnq : ¬ WkF F p (w.heap.size + 1) := wk_new hk 1
 go_enter Tryz.func134, Tryz.ntmps134
 go_wp2_with fail
 generalize hW : World.alloc (World.alloc _ _) _ = W
 have r0 : W.cell? ⟨w.heap.size, 0, none⟩ = some (.int .i64 0) := by rw [← hW]; simp
 have r1 : W.cell? ⟨w.heap.size, 1, none⟩ = some (.int .u64 0) := by rw [← hW]; simp
 have r2 : W.cell? ⟨w.heap.size, 2, none⟩ = some (.bool false) := by rw [← hW]; simp
 have r3 : W.cell? ⟨w.heap.size, 3, none⟩ = some (.bool false) := by rw [← hW]; simp
 have r4 : W.cell? ⟨w.heap.size, 4, none⟩ = some (.bool false) := by rw [← hW]; simp
 have r5 : W.cell? ⟨w.heap.size, 5, none⟩ = some (.bool false) := by rw [← hW]; simp
 have r6 : W.cell? ⟨w.heap.size, 6, none⟩ = some (.int .i64 0) := by rw [← hW]; simp
 have q0 : W.cell? ⟨w.heap.size + 1, 0, none⟩ = some (.int .i64 0) := by rw [← hW]; simp
 have q1 : W.cell? ⟨w.heap.size + 1, 1, none⟩ = some (.int .i64 0) := by rw [← hW]; simp
 have fr : ∀ j, W.frozen? ⟨w.heap.size, j, none⟩ = false := fun j => by rw [← hW]; simp
 have fq : ∀ j, W.frozen? ⟨w.heap.size + 1, j, none⟩ = false := fun j => by rw [← hW]; simp
 have hz : w.heap.size + 1 < W.heap.size := by rw [← hW]; simp
 have HB0 : Below w.heap.size w W := by rw [← hW]; exact (below1 w _).alloc (by simp) _
 clear hW
 have HK := Lib.hid hk
 have HG : Hid (w.heap.size + 1 < W.heap.size) := hz
 refine (wread_ok (hm.below HB0) (hk.below HB0) table index ht hi hs h0).mono ?_
 rintro e w1 ⟨rfl, hk1, hkp1⟩
 replace r0 := Kp.cell hkp1 r0 hnr
 replace r1 := Kp.cell hkp1 r1 hnr
 replace r2 := Kp.cell hkp1 r2 hnr
 replace r3 := Kp.cell hkp1 r3 hnr
 replace r4 := Kp.cell hkp1 r4 hnr
 replace r5 := Kp.cell hkp1 r5 hnr
 replace r6 := Kp.cell hkp1 r6 hnr
 replace q0 := Kp.cell hkp1 q0 hnq
 replace q1 := Kp.cell hkp1 q1 hnq
 have hz' : w.heap.size < W.heap.size := by omega
 replace fr := fun j => (Kp.frozen hkp1 hz' hnr).trans (fr j)
 replace fq := fun j => (Kp.frozen hkp1 hz hnq).trans (fq j)
 have hz1 : w.heap.size + 1 < w1.heap.size := by have := hkp1.size; omega
 have hz1' : w.heap.size < w1.heap.size := by omega
 generalize rd (table + index * 8) = x at *
 generalize table + index * 8 = A at *
 have HK1 := Lib.hid hk1
 have HKP1 := Lib.hid hkp1
 clear hk1 hkp1
 go_wp2_with fail
 refine (C2.out _).mono ?_
 rintro e w2 ⟨rfl, hb2⟩
 replace r0 := keep_cell hb2 r0
 replace r1 := keep_cell hb2 r1
 replace r2 := keep_cell hb2 r2
 replace r3 := keep_cell hb2 r3
 replace r4 := keep_cell hb2 r4
 replace r5 := keep_cell hb2 r5
 replace r6 := keep_cell hb2 r6
 replace q0 := keep_cell hb2 q0
 replace q1 := keep_cell hb2 q1
 replace fr := fun j => keep_frozen hb2 hz1' (fr j)
 replace fq := fun j => keep_frozen hb2 hz1 (fq j)
 have hzt : w.heap.size + 1 < w2.heap.size := by have := hb2.size; omega
 have hzt' : w.heap.size < w2.heap.size := by omega
 have HF : Hid (Kp (G2 w W) w1 w2) := (Kp.refl _ w1).below hb2
 have HB2 := Lib.hid hb2
 clear hb2 hk hnr hnq
 dsimp only [dV, zeroD]
 go_wp2
 go_quiet (fail)
 go_wp2
 refine bodyPost_ret (v := .tuple #[dV ⟨1, out, b1, b2, b3, b4, attr⟩, fV (0, 0)]) (by simp [results, Tryz.results134, go_sem, hz, hz', hzt, hzt', r0, r1, r2, r3, r4, r5, r6, q0, q1, dV, fV, zeroD]) rfl ⟨rfl, ent_end HK.out HB0 HK1.out HKP1.out ?_⟩
 have ga : G2 w W w.heap.size := ⟨Nat.le_refl _, by have := HG.out; omega⟩
 have gb : G2 w W (w.heap.size + 1) := ⟨by omega, HG.out⟩
 exact G2.kp ((((HF.out.alloc _).drewN _).set7 (.inl ga) _ _ _ _ _ _ _).set2 (.inl gb) _ _)
set_option maxHeartbeats 400000 in
theorem wentry_leaf2 {ok F : Nat → Prop} {p m sz : Nat} {rd : Nat → Nat} {steps : List (Nat × Nat)} {w : World} (hm : MemAt w ok m sz rd) (hk : WkAt F p m steps w) (hdm : ¬ WkF F p m) (hsz : sz < 9223372036854775808) (level table index : Nat) (hl : level ≤ 3) (ht : table < 281474976710656) (hi : index < 512) (hs : steps.length ≤ 8)
  (h0 : mayP sz (table + index * 8) = 0) (out attr : Nat) (b1 b2 b3 b4 q : Bool) (ho : out < 18446744073709551616) (hq : insideP sz level out = q) (hd : decV level (rd (table + index * 8)) = (⟨2, out, b1, b2, b3, b4, attr⟩, 0)) (D : Dd) (E : Nat × Nat) (hDE : (D, E) = if q = true then (⟨2, out, b1, b2, b3, b4, attr⟩, (0, 0)) else (zeroD, (4, level))) :
  Calls Tryz.prog 134 #[.pointer (some ⟨p, 0, none⟩), .int .u64 table, .int .i64 level, .int .i64 index] w (EntPost F p m steps (D, E, [(table + index * 8, rd (table + index * 8))]) w) := by
 have C2 : Hid (∀ w, Calls Tryz.prog 102 #[.int .i64 level, .int .u64 (rd (table + index * 8))] w (DecPost (⟨2, out, b1, b2, b3, b4, attr⟩, 0) w)) := fun w => by
  have h := decode_any level (rd (table + index * 8)) w hl (hm.word _)
  rw [hd] at h
  exact h
 have C3 : Hid (∀ w, w.cell? ⟨m, 0, none⟩ = some (.int .u64 sz) → Calls Tryz.prog 151 #[.pointer (some ⟨m, 0, none⟩), .int .i64 level, .agg #[.int .i64 2, .int .u64 out, .bool b1, .bool b2, .bool b3, .bool b4, .int .i64 attr]] w fun e w' => e = .returned (.bool q) ∧ Below w.heap.size w w') := fun w c0 => by
  rw [← hq]
  exact inside_nat m sz level 2 out attr b1 b2 b3 b4 w hl hsz ho c0
 clear hd hq
 have mm0 := hm.cell0
 have hnr : ¬ WkF F p w.heap.size := wk_new hk 0
 have hnq : ¬ WkF F p (w.heap.size + 1) := wk_new hk 1
 go_enter Tryz.func134, Tryz.ntmps134
 go_wp2_with fail
 generalize hW : World.alloc (World.alloc _ _) _ = W
 have r0 : W.cell? ⟨w.heap.size, 0, none⟩ = some (.int .i64 0) := by rw [← hW]; simp
 have r1 : W.cell? ⟨w.heap.size, 1, none⟩ = some (.int .u64 0) := by rw [← hW]; simp
 have r2 : W.cell? ⟨w.heap.size, 2, none⟩ = some (.bool false) := by rw [← hW]; simp
 have r3 : W.cell? ⟨w.heap.size, 3, none⟩ = some (.bool false) := by rw [← hW]; simp
 have r4 : W.cell? ⟨w.heap.size, 4, none⟩ = some (.bool false) := by rw [← hW]; simp
 have r5 : W.cell? ⟨w.heap.size, 5, none⟩ = some (.bool false) := by rw [← hW]; simp
 have r6 : W.cell? ⟨w.heap.size, 6, none⟩ = some (.int .i64 0) := by rw [← hW]; simp
 have q0 : W.cell? ⟨w.heap.size + 1, 0, none⟩ = some (.int .i64 0) := by rw [← hW]; simp
 have q1 : W.cell? ⟨w.heap.size + 1, 1, none⟩ = some (.int .i64 0) := by rw [← hW]; simp
 have fr : ∀ j, W.frozen? ⟨w.heap.size, j, none⟩ = false := fun j => by rw [← hW]; simp
 have fq : ∀ j, W.frozen? ⟨w.heap.size + 1, j, none⟩ = false := fun j => by rw [← hW]; simp
 have hz : w.heap.size + 1 < W.heap.size := by rw [← hW]; simp
 have HB0 : Below w.heap.size w W := by rw [← hW]; exact (below1 w _).alloc (by simp) _
 clear hW
 have HK := Lib.hid hk
 have HG : Hid (w.heap.size + 1 < W.heap.size) := hz
 refine (wread_ok (hm.below HB0) (hk.below HB0) table index ht hi hs h0).mono ?_
 rintro e w1 ⟨rfl, hk1, hkp1⟩
 replace r0 := Kp.cell hkp1 r0 hnr
 replace r1 := Kp.cell hkp1 r1 hnr
 replace r2 := Kp.cell hkp1 r2 hnr
 replace r3 := Kp.cell hkp1 r3 hnr
 replace r4 := Kp.cell hkp1 r4 hnr
 replace r5 := Kp.cell hkp1 r5 hnr
 replace r6 := Kp.cell hkp1 r6 hnr
 replace q0 := Kp.cell hkp1 q0 hnq
 replace q1 := Kp.cell hkp1 q1 hnq
 have hz' : w.heap.size < W.heap.size := by omega
 replace fr := fun j => (Kp.frozen hkp1 hz' hnr).trans (fr j)
 replace fq := fun j => (Kp.frozen hkp1 hz hnq).trans (fq j)
 have hz1 : w.heap.size + 1 < w1.heap.size := by have := hkp1.size; omega
 have hz1' : w.heap.size < w1.heap.size := by omega
 generalize rd (table + index * 8) = x at *
 generalize table + index * 8 = A at *
 have HK1 := Lib.hid hk1
 have HKP1 := Lib.hid hkp1
 clear hk1 hkp1
 go_wp2_with fail
 refine (C2.out _).mono ?_
 rintro e w2 ⟨rfl, hb2⟩
 replace r0 := keep_cell hb2 r0
 replace r1 := keep_cell hb2 r1
 replace r2 := keep_cell hb2 r2
 replace r3 := keep_cell hb2 r3
 replace r4 := keep_cell hb2 r4
 replace r5 := keep_cell hb2 r5
 replace r6 := keep_cell hb2 r6
 replace q0 := keep_cell hb2 q0
 replace q1 := keep_cell hb2 q1
 replace fr := fun j => keep_frozen hb2 hz1' (fr j)
 replace fq := fun j => keep_frozen hb2 hz1 (fq j)
 have hzt : w.heap.size + 1 < w2.heap.size := by have := hb2.size; omega
 have hzt' : w.heap.size < w2.heap.size := by omega
 have HF : Hid (Kp (G2 w W) w1 w2) := (Kp.refl _ w1).below hb2
 have HB2 := Lib.hid hb2
 clear hb2 hk hnr hnq
 dsimp only [dV, zeroD]
 have p0 := keep_cell HB2.out HK1.out.2.2.1
 have m0 := keep_cell HB2.out (HKP1.out.cell (keep_cell HB0 mm0) hdm)
 clear mm0
 have bl := below1 w2 (.cells #[.int .i64 2, .int .u64 out, .bool b1, .bool b2, .bool b3, .bool b4, .int .i64 attr] 60)
 go_wp2
 generalize hW3 : World.alloc w2 _ = W3
 have d0 : W3.cell? ⟨w2.heap.size, 0, none⟩ = some (.int .i64 2) := by rw [← hW3]; simp
 have d1 : W3.cell? ⟨w2.heap.size, 1, none⟩ = some (.int .u64 out) := by rw [← hW3]; simp
 have d2 : W3.cell? ⟨w2.heap.size, 2, none⟩ = some (.bool b1) := by rw [← hW3]; simp
 have d3 : W3.cell? ⟨w2.heap.size, 3, none⟩ = some (.bool b2) := by rw [← hW3]; simp
 have d4 : W3.cell? ⟨w2.heap.size, 4, none⟩ = some (.bool b3) := by rw [← hW3]; simp
 have d5 : W3.cell? ⟨w2.heap.size, 5, none⟩ = some (.bool b4) := by rw [← hW3]; simp
 have d6 : W3.cell? ⟨w2.heap.size, 6, none⟩ = some (.int .i64 attr) := by rw [← hW3]; simp
 rw [hW3] at bl
 replace p0 := keep_cell bl p0
 replace m0 := keep_cell bl m0
 replace r0 := keep_cell bl r0
 replace r1 := keep_cell bl r1
 replace r2 := keep_cell bl r2
 replace r3 := keep_cell bl r3
 replace r4 := keep_cell bl r4
 replace r5 := keep_cell bl r5
 replace r6 := keep_cell bl r6
 replace q0 := keep_cell bl q0
 replace q1 := keep_cell bl q1
 replace fr := fun j => keep_frozen bl hzt' (fr j)
 replace fq := fun j => keep_frozen bl hzt (fq j)
 have HF3 : Hid (Kp (G2 w W) w1 W3) := HF.out.below bl
 have hz3 : w2.heap.size < W3.heap.size := by rw [← hW3]; simp
 have hC : CtxB W3 W3 := Below.refl _ _
 clear hW3 bl
 go_region_held3 (fun u => u.cell? ⟨w2.heap.size, 0, none⟩ = some (.int .i64 2) ∧ u.cell? ⟨w2.heap.size, 1, none⟩ = some (.int .u64 out) ∧ u.cell? ⟨w2.heap.size, 2, none⟩ = some (.bool b1) ∧ u.cell? ⟨w2.heap.size, 3, none⟩ = some (.bool b2) ∧ u.cell? ⟨w2.heap.size, 4, none⟩ = some (.bool b3) ∧ u.cell? ⟨w2.heap.size, 5, none⟩ = some (.bool b4) ∧ u.cell? ⟨w2.heap.size, 6, none⟩ = some (.int .i64 attr) ∧ u.cell? ⟨p, 0, none⟩ = some (.pointer (some ⟨m, 0, none⟩)) ∧ u.cell? ⟨m, 0, none⟩ = some (.int .u64 sz) ∧ CtxB W3 u)
  (first | assumption | exact ⟨drew_cell d0, drew_cell d1, drew_cell d2, drew_cell d3, drew_cell d4, drew_cell d5, drew_cell d6, drew_cell p0, drew_cell m0, hC.drew⟩ | (go_split_ands; exact ⟨keep_cell hb5 (by assumption), keep_cell hb5 (by assumption), keep_cell hb5 (by assumption), keep_cell hb5 (by assumption), keep_cell hb5 (by assumption), keep_cell hb5 (by assumption), keep_cell hb5 (by assumption), keep_cell hb5 (by assumption), keep_cell hb5 (by assumption), CtxB.next (by assumption) hb5⟩))
  (first | (go_at_call 151; refine (C3.out _ (by go_split_ands; assumption)).mono ?_; rintro e w5 ⟨rfl, hb5⟩))
 go_split_ands
 have HB5 : Below W3.heap.size W3 w5 := CtxB.out (by assumption)
 clear hC
 replace r0 := keep_cell HB5 r0
 replace r1 := keep_cell HB5 r1
 replace r2 := keep_cell HB5 r2
 replace r3 := keep_cell HB5 r3
 replace r4 := keep_cell HB5 r4
 replace r5 := keep_cell HB5 r5
 replace r6 := keep_cell HB5 r6
 replace q0 := keep_cell HB5 q0
 replace q1 := keep_cell HB5 q1
 have hz3a : w.heap.size < W3.heap.size := by omega
 have hz3b : w.heap.size + 1 < W3.heap.size := by omega
 replace fr := fun j => keep_frozen HB5 hz3a (fr j)
 replace fq := fun j => keep_frozen HB5 hz3b (fq j)
 have HF5 : Hid (Kp (G2 w W) w1 w5) := HF3.out.below HB5
 have hz5 : w.heap.size + 1 < w5.heap.size := by have := HB5.size; omega
 have hz5' : w.heap.size < w5.heap.size := by omega
 clear d0 d1 d2 d3 d4 d5 d6 HB5
 cases q with
 | true =>
  rw [if_pos rfl] at hDE
  obtain ⟨rfl, rfl⟩ := Prod.mk.inj hDE
  clear hDE
  go_wp2
  refine bodyPost_ret (v := .tuple #[dV ⟨2, out, b1, b2, b3, b4, attr⟩, fV (0, 0)]) (by simp [results, Tryz.results134, go_sem, hz, hz', hzt, hzt', r0, r1, r2, r3, r4, r5, r6, q0, q1, dV, fV, zeroD]) rfl ⟨rfl, ent_end HK.out HB0 HK1.out HKP1.out ?_⟩
  have ga : G2 w W w.heap.size := ⟨Nat.le_refl _, by have := HG.out; omega⟩
  have gb : G2 w W (w.heap.size + 1) := ⟨by omega, HG.out⟩
  exact G2.kp ((HF5.out.set7 (.inl ga) _ _ _ _ _ _ _).set2 (.inl gb) _ _)
 | false =>
  rw [if_neg (by simp)] at hDE
  obtain ⟨rfl, rfl⟩ := Prod.mk.inj hDE
  clear hDE
  go_wp2
  refine bodyPost_ret (v := .tuple #[dV zeroD, fV (4, level)]) (by simp [results, Tryz.results134, go_sem, hz, hz', hzt, hzt', r0, r1, r2, r3, r4, r5, r6, q0, q1, dV, fV, zeroD]) rfl ⟨rfl, ent_end HK.out HB0 HK1.out HKP1.out ?_⟩
  have ga : G2 w W w.heap.size := ⟨Nat.le_refl _, by have := HG.out; omega⟩
  have gb : G2 w W (w.heap.size + 1) := ⟨by omega, HG.out⟩
  exact G2.kp ((HF5.out.set7 (.inl ga) _ _ _ _ _ _ _).set2 (.inl gb) _ _)
set_option maxHeartbeats 400000 in
theorem wentry_leaf3 {ok F : Nat → Prop} {p m sz : Nat} {rd : Nat → Nat} {steps : List (Nat × Nat)} {w : World} (hm : MemAt w ok m sz rd) (hk : WkAt F p m steps w) (hdm : ¬ WkF F p m) (hsz : sz < 9223372036854775808) (level table index : Nat) (hl : level ≤ 3) (ht : table < 281474976710656) (hi : index < 512) (hs : steps.length ≤ 8)
  (h0 : mayP sz (table + index * 8) = 0) (out attr : Nat) (b1 b2 b3 b4 q : Bool) (ho : out < 18446744073709551616) (hq : insideP sz level out = q) (hd : decV level (rd (table + index * 8)) = (⟨3, out, b1, b2, b3, b4, attr⟩, 0)) (D : Dd) (E : Nat × Nat) (hDE : (D, E) = if q = true then (⟨3, out, b1, b2, b3, b4, attr⟩, (0, 0)) else (zeroD, (4, level))) :
  Calls Tryz.prog 134 #[.pointer (some ⟨p, 0, none⟩), .int .u64 table, .int .i64 level, .int .i64 index] w (EntPost F p m steps (D, E, [(table + index * 8, rd (table + index * 8))]) w) := by
 have C2 : Hid (∀ w, Calls Tryz.prog 102 #[.int .i64 level, .int .u64 (rd (table + index * 8))] w (DecPost (⟨3, out, b1, b2, b3, b4, attr⟩, 0) w)) := fun w => by
  have h := decode_any level (rd (table + index * 8)) w hl (hm.word _)
  rw [hd] at h
  exact h
 have C3 : Hid (∀ w, w.cell? ⟨m, 0, none⟩ = some (.int .u64 sz) → Calls Tryz.prog 151 #[.pointer (some ⟨m, 0, none⟩), .int .i64 level, .agg #[.int .i64 3, .int .u64 out, .bool b1, .bool b2, .bool b3, .bool b4, .int .i64 attr]] w fun e w' => e = .returned (.bool q) ∧ Below w.heap.size w w') := fun w c0 => by
  rw [← hq]
  exact inside_nat m sz level 3 out attr b1 b2 b3 b4 w hl hsz ho c0
 clear hd hq
 have mm0 := hm.cell0
 have hnr : ¬ WkF F p w.heap.size := wk_new hk 0
 have hnq : ¬ WkF F p (w.heap.size + 1) := wk_new hk 1
 go_enter Tryz.func134, Tryz.ntmps134
 go_wp2_with fail
 generalize hW : World.alloc (World.alloc _ _) _ = W
 have r0 : W.cell? ⟨w.heap.size, 0, none⟩ = some (.int .i64 0) := by rw [← hW]; simp
 have r1 : W.cell? ⟨w.heap.size, 1, none⟩ = some (.int .u64 0) := by rw [← hW]; simp
 have r2 : W.cell? ⟨w.heap.size, 2, none⟩ = some (.bool false) := by rw [← hW]; simp
 have r3 : W.cell? ⟨w.heap.size, 3, none⟩ = some (.bool false) := by rw [← hW]; simp
 have r4 : W.cell? ⟨w.heap.size, 4, none⟩ = some (.bool false) := by rw [← hW]; simp
 have r5 : W.cell? ⟨w.heap.size, 5, none⟩ = some (.bool false) := by rw [← hW]; simp
 have r6 : W.cell? ⟨w.heap.size, 6, none⟩ = some (.int .i64 0) := by rw [← hW]; simp
 have q0 : W.cell? ⟨w.heap.size + 1, 0, none⟩ = some (.int .i64 0) := by rw [← hW]; simp
 have q1 : W.cell? ⟨w.heap.size + 1, 1, none⟩ = some (.int .i64 0) := by rw [← hW]; simp
 have fr : ∀ j, W.frozen? ⟨w.heap.size, j, none⟩ = false := fun j => by rw [← hW]; simp
 have fq : ∀ j, W.frozen? ⟨w.heap.size + 1, j, none⟩ = false := fun j => by rw [← hW]; simp
 have hz : w.heap.size + 1 < W.heap.size := by rw [← hW]; simp
 have HB0 : Below w.heap.size w W := by rw [← hW]; exact (below1 w _).alloc (by simp) _
 clear hW
 have HK := Lib.hid hk
 have HG : Hid (w.heap.size + 1 < W.heap.size) := hz
 refine (wread_ok (hm.below HB0) (hk.below HB0) table index ht hi hs h0).mono ?_
 rintro e w1 ⟨rfl, hk1, hkp1⟩
 replace r0 := Kp.cell hkp1 r0 hnr
 replace r1 := Kp.cell hkp1 r1 hnr
 replace r2 := Kp.cell hkp1 r2 hnr
 replace r3 := Kp.cell hkp1 r3 hnr
 replace r4 := Kp.cell hkp1 r4 hnr
 replace r5 := Kp.cell hkp1 r5 hnr
 replace r6 := Kp.cell hkp1 r6 hnr
 replace q0 := Kp.cell hkp1 q0 hnq
 replace q1 := Kp.cell hkp1 q1 hnq
 have hz' : w.heap.size < W.heap.size := by omega
 replace fr := fun j => (Kp.frozen hkp1 hz' hnr).trans (fr j)
 replace fq := fun j => (Kp.frozen hkp1 hz hnq).trans (fq j)
 have hz1 : w.heap.size + 1 < w1.heap.size := by have := hkp1.size; omega
 have hz1' : w.heap.size < w1.heap.size := by omega
 generalize rd (table + index * 8) = x at *
 generalize table + index * 8 = A at *
 have HK1 := Lib.hid hk1
 have HKP1 := Lib.hid hkp1
 clear hk1 hkp1
 go_wp2_with fail
 refine (C2.out _).mono ?_
 rintro e w2 ⟨rfl, hb2⟩
 replace r0 := keep_cell hb2 r0
 replace r1 := keep_cell hb2 r1
 replace r2 := keep_cell hb2 r2
 replace r3 := keep_cell hb2 r3
 replace r4 := keep_cell hb2 r4
 replace r5 := keep_cell hb2 r5
 replace r6 := keep_cell hb2 r6
 replace q0 := keep_cell hb2 q0
 replace q1 := keep_cell hb2 q1
 replace fr := fun j => keep_frozen hb2 hz1' (fr j)
 replace fq := fun j => keep_frozen hb2 hz1 (fq j)
 have hzt : w.heap.size + 1 < w2.heap.size := by have := hb2.size; omega
 have hzt' : w.heap.size < w2.heap.size := by omega
 have HF : Hid (Kp (G2 w W) w1 w2) := (Kp.refl _ w1).below hb2
 have HB2 := Lib.hid hb2
 clear hb2 hk hnr hnq
 dsimp only [dV, zeroD]
 have p0 := keep_cell HB2.out HK1.out.2.2.1
 have m0 := keep_cell HB2.out (HKP1.out.cell (keep_cell HB0 mm0) hdm)
 clear mm0
 have bl := below1 w2 (.cells #[.int .i64 3, .int .u64 out, .bool b1, .bool b2, .bool b3, .bool b4, .int .i64 attr] 60)
 go_wp2
 generalize hW3 : World.alloc w2 _ = W3
 have d0 : W3.cell? ⟨w2.heap.size, 0, none⟩ = some (.int .i64 3) := by rw [← hW3]; simp
 have d1 : W3.cell? ⟨w2.heap.size, 1, none⟩ = some (.int .u64 out) := by rw [← hW3]; simp
 have d2 : W3.cell? ⟨w2.heap.size, 2, none⟩ = some (.bool b1) := by rw [← hW3]; simp
 have d3 : W3.cell? ⟨w2.heap.size, 3, none⟩ = some (.bool b2) := by rw [← hW3]; simp
 have d4 : W3.cell? ⟨w2.heap.size, 4, none⟩ = some (.bool b3) := by rw [← hW3]; simp
 have d5 : W3.cell? ⟨w2.heap.size, 5, none⟩ = some (.bool b4) := by rw [← hW3]; simp
 have d6 : W3.cell? ⟨w2.heap.size, 6, none⟩ = some (.int .i64 attr) := by rw [← hW3]; simp
 rw [hW3] at bl
 replace p0 := keep_cell bl p0
 replace m0 := keep_cell bl m0
 replace r0 := keep_cell bl r0
 replace r1 := keep_cell bl r1
 replace r2 := keep_cell bl r2
 replace r3 := keep_cell bl r3
 replace r4 := keep_cell bl r4
 replace r5 := keep_cell bl r5
 replace r6 := keep_cell bl r6
 replace q0 := keep_cell bl q0
 replace q1 := keep_cell bl q1
 replace fr := fun j => keep_frozen bl hzt' (fr j)
 replace fq := fun j => keep_frozen bl hzt (fq j)
 have HF3 : Hid (Kp (G2 w W) w1 W3) := HF.out.below bl
 have hz3 : w2.heap.size < W3.heap.size := by rw [← hW3]; simp
 have hC : CtxB W3 W3 := Below.refl _ _
 clear hW3 bl
 go_region_held3 (fun u => u.cell? ⟨w2.heap.size, 0, none⟩ = some (.int .i64 3) ∧ u.cell? ⟨w2.heap.size, 1, none⟩ = some (.int .u64 out) ∧ u.cell? ⟨w2.heap.size, 2, none⟩ = some (.bool b1) ∧ u.cell? ⟨w2.heap.size, 3, none⟩ = some (.bool b2) ∧ u.cell? ⟨w2.heap.size, 4, none⟩ = some (.bool b3) ∧ u.cell? ⟨w2.heap.size, 5, none⟩ = some (.bool b4) ∧ u.cell? ⟨w2.heap.size, 6, none⟩ = some (.int .i64 attr) ∧ u.cell? ⟨p, 0, none⟩ = some (.pointer (some ⟨m, 0, none⟩)) ∧ u.cell? ⟨m, 0, none⟩ = some (.int .u64 sz) ∧ CtxB W3 u)
  (first | assumption | exact ⟨drew_cell d0, drew_cell d1, drew_cell d2, drew_cell d3, drew_cell d4, drew_cell d5, drew_cell d6, drew_cell p0, drew_cell m0, hC.drew⟩ | (go_split_ands; exact ⟨keep_cell hb5 (by assumption), keep_cell hb5 (by assumption), keep_cell hb5 (by assumption), keep_cell hb5 (by assumption), keep_cell hb5 (by assumption), keep_cell hb5 (by assumption), keep_cell hb5 (by assumption), keep_cell hb5 (by assumption), keep_cell hb5 (by assumption), CtxB.next (by assumption) hb5⟩))
  (first | (go_at_call 151; refine (C3.out _ (by go_split_ands; assumption)).mono ?_; rintro e w5 ⟨rfl, hb5⟩))
 go_split_ands
 have HB5 : Below W3.heap.size W3 w5 := CtxB.out (by assumption)
 clear hC
 replace r0 := keep_cell HB5 r0
 replace r1 := keep_cell HB5 r1
 replace r2 := keep_cell HB5 r2
 replace r3 := keep_cell HB5 r3
 replace r4 := keep_cell HB5 r4
 replace r5 := keep_cell HB5 r5
 replace r6 := keep_cell HB5 r6
 replace q0 := keep_cell HB5 q0
 replace q1 := keep_cell HB5 q1
 have hz3a : w.heap.size < W3.heap.size := by omega
 have hz3b : w.heap.size + 1 < W3.heap.size := by omega
 replace fr := fun j => keep_frozen HB5 hz3a (fr j)
 replace fq := fun j => keep_frozen HB5 hz3b (fq j)
 have HF5 : Hid (Kp (G2 w W) w1 w5) := HF3.out.below HB5
 have hz5 : w.heap.size + 1 < w5.heap.size := by have := HB5.size; omega
 have hz5' : w.heap.size < w5.heap.size := by omega
 clear d0 d1 d2 d3 d4 d5 d6 HB5
 cases q with
 | true =>
  rw [if_pos rfl] at hDE
  obtain ⟨rfl, rfl⟩ := Prod.mk.inj hDE
  clear hDE
  go_wp2
  refine bodyPost_ret (v := .tuple #[dV ⟨3, out, b1, b2, b3, b4, attr⟩, fV (0, 0)]) (by simp [results, Tryz.results134, go_sem, hz, hz', hzt, hzt', r0, r1, r2, r3, r4, r5, r6, q0, q1, dV, fV, zeroD]) rfl ⟨rfl, ent_end HK.out HB0 HK1.out HKP1.out ?_⟩
  have ga : G2 w W w.heap.size := ⟨Nat.le_refl _, by have := HG.out; omega⟩
  have gb : G2 w W (w.heap.size + 1) := ⟨by omega, HG.out⟩
  exact G2.kp ((HF5.out.set7 (.inl ga) _ _ _ _ _ _ _).set2 (.inl gb) _ _)
 | false =>
  rw [if_neg (by simp)] at hDE
  obtain ⟨rfl, rfl⟩ := Prod.mk.inj hDE
  clear hDE
  go_wp2
  refine bodyPost_ret (v := .tuple #[dV zeroD, fV (4, level)]) (by simp [results, Tryz.results134, go_sem, hz, hz', hzt, hzt', r0, r1, r2, r3, r4, r5, r6, q0, q1, dV, fV, zeroD]) rfl ⟨rfl, ent_end HK.out HB0 HK1.out HKP1.out ?_⟩
  have ga : G2 w W w.heap.size := ⟨Nat.le_refl _, by have := HG.out; omega⟩
  have gb : G2 w W (w.heap.size + 1) := ⟨by omega, HG.out⟩
  exact G2.kp ((HF5.out.set7 (.inl ga) _ _ _ _ _ _ _).set2 (.inl gb) _ _)
end Go.Proofs.YtbapgngngaaojaaGreat
namespace Go.Proofs.YtbapgngngaaojaaGreat
open Go.RowKit Go.Lib
set_option maxRecDepth 100000
theorem decP_some {level x : Nat} {d : Dd} (h : decP level x = some d) : (d = zeroD ∨ (d.kind = 1 ∧ level < 3 ∧ d = tableD (outW x)) ∨ ((d.kind = 2 ∨ d.kind = 3) ∧ rightL d level = true ∧ d = leafD x)) := by
 unfold decP at h
 split at h
 ·left; exact (Option.some.inj h).symm
 ·split at h
  ·rename_i h2
   split at h
   ·right; left
    have := (Option.some.inj h).symm
    subst this
    exact ⟨rfl, h2.2, rfl⟩
   ·cases h
  ·split at h
   ·rename_i h3
    right; right
    have := (Option.some.inj h).symm
    subst this
    exact ⟨leafD_kind x, h3.1, rfl⟩
   ·cases h
theorem leafD_out (x : Nat) : (leafD x).out < 281474976710656 := outW_lt x
theorem decV_some {level x : Nat} {d : Dd} (h : decP level x = some d) : decV level x = (d, 0) := by unfold decV; rw [h]
theorem decV_none {level x : Nat} (h : decP level x = none) : decV level x = (zeroD, 10) := by unfold decV; rw [h]
theorem wentry_any {ok F : Nat → Prop} {p m sz : Nat} {rd : Nat → Nat} {steps : List (Nat × Nat)} {w : World} (hm : MemAt w ok m sz rd) (hk : WkAt F p m steps w) (hdm : ¬ WkF F p m) (hsz : sz < 9223372036854775808) (level table index : Nat) (hl : level ≤ 3) (ht : table < 281474976710656) (hi : index < 512) (hs : steps.length ≤ 8) :
  Calls Tryz.prog 134 #[.pointer (some ⟨p, 0, none⟩), .int .u64 table, .int .i64 level, .int .i64 index] w (EntPost F p m steps (entryP sz rd level (table + index * 8)) w) := by
 by_cases h0 : mayP sz (table + index * 8) = 0
 ·cases hd : decP level (rd (table + index * 8)) with
  | none =>
   have e : entryP sz rd level (table + index * 8) = (zeroD, (4, level), [(table + index * 8, rd (table + index * 8))]) := by unfold entryP; rw [if_pos h0, hd]
   rw [e]
   exact wentry_bad hm hk level table index hl ht hi hs h0 (decV_none hd)
  | some d =>
   have hv := decV_some hd
   obtain ⟨K, out, b1, b2, b3, b4, attr⟩ := d
   rcases decP_some hd with h | ⟨h1, h2, h3⟩ | ⟨h1, h2, h3⟩
   ·have hK : K = 0 := by injection h
    subst hK
    have e : entryP sz rd level (table + index * 8) = (⟨0, out, b1, b2, b3, b4, attr⟩, (1, level), [(table + index * 8, rd (table + index * 8))]) := by unfold entryP; rw [if_pos h0, hd]; rfl
    rw [e]
    exact wentry_missing hm hk level table index hl ht hi hs h0 out attr b1 b2 b3 b4 hv
   ·have hK : K = 1 := h1
    subst hK
    have e : entryP sz rd level (table + index * 8) = (⟨1, out, b1, b2, b3, b4, attr⟩, (0, 0), [(table + index * 8, rd (table + index * 8))]) := by unfold entryP; rw [if_pos h0, hd]; rfl
    rw [e]
    exact wentry_table hm hk level table index hl ht hi hs h0 out attr b1 b2 b3 b4 hv
   ·have ho : out < 281474976710656 := by
     have : out = (leafD (rd (table + index * 8))).out := congrArg Dd.out h3
     rw [this]; exact leafD_out _
    have hK : K = 2 ∨ K = 3 := h1
    rcases hK with rfl | rfl
    ·cases hq : insideP sz level out with
     | true =>
      have e : entryP sz rd level (table + index * 8) = (⟨2, out, b1, b2, b3, b4, attr⟩, (0, 0), [(table + index * 8, rd (table + index * 8))]) := by unfold entryP; rw [if_pos h0, hd]; simp [hq]
      rw [e]
      exact wentry_leaf2 hm hk hdm hsz level table index hl ht hi hs h0 out attr b1 b2 b3 b4 true (by omega) hq hv _ _ rfl
     | false =>
      have e : entryP sz rd level (table + index * 8) = (zeroD, (4, level), [(table + index * 8, rd (table + index * 8))]) := by unfold entryP; rw [if_pos h0, hd]; simp [hq]
      rw [e]
      exact wentry_leaf2 hm hk hdm hsz level table index hl ht hi hs h0 out attr b1 b2 b3 b4 false (by omega) hq hv _ _ (by simp)
    ·cases hq : insideP sz level out with
     | true =>
      have e : entryP sz rd level (table + index * 8) = (⟨3, out, b1, b2, b3, b4, attr⟩, (0, 0), [(table + index * 8, rd (table + index * 8))]) := by unfold entryP; rw [if_pos h0, hd]; simp [hq]
      rw [e]
      exact wentry_leaf3 hm hk hdm hsz level table index hl ht hi hs h0 out attr b1 b2 b3 b4 true (by omega) hq hv _ _ rfl
     | false =>
      have e : entryP sz rd level (table + index * 8) = (zeroD, (4, level), [(table + index * 8, rd (table + index * 8))]) := by unfold entryP; rw [if_pos h0, hd]; simp [hq]
      rw [e]
      exact wentry_leaf3 hm hk hdm hsz level table index hl ht hi hs h0 out attr b1 b2 b3 b4 false (by omega) hq hv _ _ (by simp)
 ·have e : entryP sz rd level (table + index * 8) = (zeroD, (4, level), []) := by unfold entryP; rw [if_neg h0]
  rw [e]
  exact wentry_no hm hk level table index hl ht hi h0
structure Lf where
 level : Nat
 d : Dd
 f : Nat × Nat
 steps : List (Nat × Nat)
def goP (sz : Nat) (rd : Nat → Nat) (va : Nat) : Nat → Nat → Nat → Lf
 | 0, _, _ => ⟨0, zeroD, (1, 0), []⟩
 | n + 1, level, table =>
  let e := entryP sz rd level (table + indexP va level * 8)
  if e.2.1 = (0, 0) then
   if e.1.kind = 1 then
    let r := goP sz rd va n (level + 1) e.1.out
    ⟨r.level, r.d, r.f, e.2.2 ++ r.steps⟩
   else ⟨level, e.1, (0, 0), e.2.2⟩
  else ⟨0, zeroD, e.2.1, e.2.2⟩
def fromP (sz : Nat) (rd : Nat → Nat) (level table va : Nat) : Lf := if va < 281474976710656 then goP sz rd va (4 - level) level table else ⟨0, zeroD, (1, 0), []⟩
/-- What an entry may say. -/
theorem entryP_cases (sz : Nat) (rd : Nat → Nat) (level at_ : Nat) : ∃ d f st, entryP sz rd level at_ = (d, f, st) ∧ st.length ≤ 1 ∧
  ((f = (0, 0) ∧ d.kind = 1 ∧ level < 3 ∧ d.out < 281474976710656 ∧ d.out % 4096 = 0) ∨ (f = (0, 0) ∧ (d.kind = 2 ∨ d.kind = 3) ∧ rightL d level = true ∧ insideP sz level d.out = true) ∨ (f = (4, level)) ∨ (f = (1, level))) := by
 unfold entryP
 split
 ·cases hd : decP level (rd at_) with
  | none => exact ⟨_, _, _, rfl, by simp, .inr (.inr (.inl rfl))⟩
  | some d =>
   dsimp only
   rcases decP_some hd with h | ⟨h1, h2, h3⟩ | ⟨h1, h2, h3⟩
   ·subst h
    exact ⟨_, _, _, if_pos rfl, by simp, .inr (.inr (.inr rfl))⟩
   ·rw [if_neg (by omega), if_neg (by simp [h1])]
    exact ⟨_, _, _, rfl, by simp, .inl ⟨rfl, h1, h2, by rw [h3]; exact outW_lt _, by rw [h3]; exact outW_al _⟩⟩
   ·rw [if_neg (by omega)]
    cases hq : insideP sz level d.out with
    | true =>
     rw [if_neg (by simp)]
     exact ⟨_, _, _, rfl, by simp, .inr (.inl ⟨rfl, h1, h2, hq⟩)⟩
    | false =>
     rw [if_pos ⟨by omega, rfl⟩]
     exact ⟨_, _, _, rfl, by simp, .inr (.inr (.inl rfl))⟩
 ·exact ⟨_, _, _, rfl, by simp, .inr (.inr (.inl rfl))⟩
/-- Cells of a block, none of them frozen. -/
def Box (w : World) (g : Nat) (cs : List Value) : Prop := w.rangeAt g 0 cs ∧ (∀ j, w.frozen? ⟨g, j, none⟩ = false) ∧ g < w.heap.size
theorem Box.at {w : World} {g : Nat} {cs : List Value} (h : Box w g cs) (j : Nat) (v : Value) (e : cs[j]? = some v) : w.cell? ⟨g, j, none⟩ = some v := by
 have := h.1 j v e
 rwa [Nat.zero_add] at this
theorem Box.kept {F : Nat → Prop} {w w' : World} {g : Nat} {cs : List Value} (h : Box w g cs) (hk : Kp F w w') (hn : ¬ F g) : Box w' g cs :=
 ⟨hk.range h.1 hn, fun j => (hk.frozen h.2.2 hn).trans (h.2.1 j), Nat.lt_of_lt_of_le h.2.2 hk.size⟩
theorem Box.below {w w' : World} {g : Nat} {cs : List Value} (h : Box w g cs) (hb : Below w.heap.size w w') : Box w' g cs := h.kept (F := fun _ => False) (.ofBelow hb) (fun x => x)
theorem Box.new (w : World) (cs : List Value) (t : TypeId) : Box (w.alloc (.cells cs.toArray t)) w.heap.size cs := by
 refine ⟨?_, fun j => by simp, by simp⟩
 have h := range_new w cs.toArray t
 simpa using h
end Go.Proofs.YtbapgngngaaojaaGreat
