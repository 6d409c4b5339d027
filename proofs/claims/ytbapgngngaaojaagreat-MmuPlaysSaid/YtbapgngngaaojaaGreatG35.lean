/- The law's step: kind 11 (plans are laid), of any machine of the document's. Plain: the document's flushes and drops are the machine's; what an ASID's flush leaves. The law's step: kind 7 of a negative ASID. -/
import Derived.Test.YtbapgngngaaojaaGreatG31
import Derived.Test.YtbapgngngaaojaaGreatG26
import Derived.Test.YtbapgngngaaojaaGreatG29
set_option linter.unusedSimpArgs false
set_option linter.unusedVariables false
namespace Go.Proofs.YtbapgngngaaojaaGreat
open Go.RowKit Go.Lib
set_option maxRecDepth 100000
/-- What a step that plans leaves of both machines. -/
def StepG (x m pt pk : Nat) (ps : List Pl) (R B : Nat → Prop) (w0 : World) (S : St) (y : Yr) (b : Bool) (w : World) (e : Ending) (w' : World) : Prop :=
 ∃ q B' pv', e = .returned (.tuple #[yV y q, .bool b]) ∧ MB x m pt pk pv' S B' w0 w' ∧ RowAt w' (fun k => w.heap.size ≤ k ∧ B' k) 4 pv' ps.length (rowL pL ps) ∧ YAt (fun k => (R k ∨ w.heap.size ≤ k) ∧ B' k) y q w' ∧ (∀ k, B k → B' k) ∧ Kp (KB B w0) w w'
theorem add_u64 (va wd : Nat) : IntKind.u64.wrap ((va : Int) + (wd : Int)) = (((va + wd) % 18446744073709551616 : Nat) : Int) := by
 simp [IntKind.wrap, IntKind.signed, IntKind.bits]
theorem RowAt.box2 {w : World} {g : Nat} {p1 p2 : Pl} (h : Box w g (rowL pL [p1, p2])) : RowAt w (fun k => k = g) 4 (.slice (some ⟨g, 0, none⟩) 2 2) 2 (rowL pL [p1, p2]) :=
 ⟨rfl, .inr ⟨g, 0, 2, rfl, rfl, h.2.2, Nat.le_refl _, by decide +kernel, h.1, h.there rfl⟩⟩
theorem make9 : ∃ C : Array Value, ∀ w : World, (Instr.makeSlice 95 (.int .i64 9) (.int .i64 9)).run Tryz.prog w = .ok (.slice (some ⟨w.heap.size, 0, none⟩) 9 9) (w.alloc (.cells C 130)) := by
 obtain ⟨i0, hi0, hz0, hz1, hz2⟩ := info_parts infoP
 exact ⟨_, fun w => run_make w _ _ i0 _ Tryz.underlying95 hi0 hz0 .i64 .i64 9 9 (by omega) (by omega) (by rw [hz2]; decide) (by omega)⟩
theorem sizeX3 : (Tryz.prog.info? 36).map (·.size) = some 9 := by kernel_rfl
theorem MB.plan2 {x m pt pk : Nat} {pv : Value} {s : St} {B : Nat → Prop} {w0 w : World} {ok : Nat → Prop} {v : Value} {ps : List Pl} (h : MB x m pt pk pv s B w0 w) (hr : RowAt w ok 4 v ps.length (rowL pL ps)) (hn : ps.length ≤ 8) :
  Calls Tryz.prog 48 #[.pointer (some ⟨x, 0, none⟩), v] w fun e w' => e = .returned (.int .i64 0) ∧ ∃ pv', MB x m pt pk pv' s (fun k => B k ∨ (w.heap.size ≤ k ∧ k < w'.heap.size)) w0 w' ∧ RowAt w' (fun k => w.heap.size ≤ k ∧ k < w'.heap.size) 4 pv' ps.length (rowL pL ps) ∧ Kp (KB B w0) w w' := by
 obtain ⟨Fm, Ft, Fk, h1, h2, h3, h4⟩ := h
 refine (plan_nat h1 hr hn).mono ?_
 rintro e w' ⟨rfl, pv', g1, g2, g3⟩
 have hx : KB B w0 x := h2 x (.inl rfl)
 have hk : Kp (KB B w0) w w' := g2.mono (fun k y => by rw [y]; exact hx)
 have hs := h4.size
 refine ⟨rfl, pv', ⟨Fm, Ft, Fk, g1, fun k y => ⟨fun z => ?_, (h2 k y).2⟩, fun k y => ?_, hk.toBelow h4 hs (fun k y => y.2)⟩, g3.mono (fun k hk y => ⟨y, hk⟩), hk⟩
 ·rcases z with z | z
  ·exact (h2 k y).1 z
  ·have := h1.bF k y; omega
 ·rcases y with y | y
  ·exact ⟨Nat.lt_of_lt_of_le (h3 k y).1 hk.size, (h3 k y).2⟩
  ·exact ⟨y.2, by omega⟩
set_option maxHeartbeats 4000000 in
theorem stepq_plan {x m pt pk : Nat} {pv : Value} {s : St} {B : Nat → Prop} {w0 w : World} (h : MB x m pt pk pv s B w0 w) (y : Yr) (q : Sl) (sort n : Int) (va wd : Nat) (f l k : Bool) {R : Nat → Prop} (hR : ∀ k, R k → B k) (hr : YAt R y q w) (hn : decide (n < 0) = false) (N2 : Nat) (hN2 : (va + wd) % 18446744073709551616 = N2) :
  Calls Tryz.prog 14 #[.pointer (some ⟨x, 0, none⟩), yV y q, .agg #[.int .i64 11, .int .i64 sort, .int .i64 n, .int .u64 va, .int .u64 wd, .bool f, .bool l, .bool k]] w (StepG x m pt pk [(va, f, l, k), (N2, f, l, k)] R B w0 s { y with ps := [(va, f, l, k), (N2, f, l, k)] } true w) := by
 have HADD := Lib.hid (add_u64 va wd)
 rw [hN2] at HADD
 clear hN2
 have HQ := Lib.hid hr
 have HRB := Lib.hid hR
 have HM := Lib.hid h
 have HBM : Hid (∀ k, B k → k < w.heap.size) := fun k z => h.mine z
 clear h hr hR
 unfold yV xV
 go_enter Tryz.func14, Tryz.ntmps14
 go_upto_region 2 with fail
 generalize hW : World.alloc (World.alloc (World.alloc (World.alloc w _) _) _) _ = W
 have HX : Hid (Box W w.heap.size (xC y.sz y.most y.root y.asid y.on (.slice q.A1 y.ws.length q.c1) (.slice q.A2 y.es.length q.c2) (.slice q.A3 y.ks.length q.c3) (.slice q.A4 y.ps.length q.c4))) := by
  rw [← hW]
  exact (((Box.new w (xC y.sz y.most y.root y.asid y.on (.slice q.A1 y.ws.length q.c1) (.slice q.A2 y.es.length q.c2) (.slice q.A3 y.ks.length q.c3) (.slice q.A4 y.ps.length q.c4)) 36).below (below1 _ _)).below (below1 _ _)).below (below1 _ _)
 have HO : Hid (Box W (w.heap.size + 1) (oC 11 sort n va wd f l k)) := by
  rw [← hW]
  exact ((Box.new' (w.alloc (.cells (xC y.sz y.most y.root y.asid y.on (.slice q.A1 y.ws.length q.c1) (.slice q.A2 y.es.length q.c2) (.slice q.A3 y.ks.length q.c3) (.slice q.A4 y.ps.length q.c4)).toArray 36)) _ (by simp) (oC 11 sort n va wd f l k) 55).below (below1 _ _)).below (below1 _ _)
 have HZ : Hid (Box W (w.heap.size + 2) (xC 0 0 0 0 false (.slice none 0 0) (.slice none 0 0) (.slice none 0 0) (.slice none 0 0))) := by
  rw [← hW]
  exact (Box.new' ((w.alloc (.cells (xC y.sz y.most y.root y.asid y.on (.slice q.A1 y.ws.length q.c1) (.slice q.A2 y.es.length q.c2) (.slice q.A3 y.ks.length q.c3) (.slice q.A4 y.ps.length q.c4)).toArray 36)).alloc (.cells (oC 11 sort n va wd f l k).toArray 55)) _ (by simp) (xC 0 0 0 0 false (.slice none 0 0) (.slice none 0 0) (.slice none 0 0) (.slice none 0 0)) 36).below (below1 _ _)
 have HB0 : Hid (Below w.heap.size w W) := by rw [← hW]; exact (((below1 w _).alloc (by simp) _).alloc (by simp; omega) _).alloc (by simp; omega) _
 have HH : Hid (Box W (w.heap.size + 3) [.bool f, .bool l, .bool k]) := by
  rw [← hW]
  exact Box.new' (((w.alloc (.cells (xC y.sz y.most y.root y.asid y.on (.slice q.A1 y.ws.length q.c1) (.slice q.A2 y.es.length q.c2) (.slice q.A3 y.ks.length q.c3) (.slice q.A4 y.ps.length q.c4)).toArray 36)).alloc (.cells (oC 11 sort n va wd f l k).toArray 55)).alloc (.cells (xC 0 0 0 0 false (.slice none 0 0) (.slice none 0 0) (.slice none 0 0) (.slice none 0 0)).toArray 36)) _ (by simp) [.bool f, .bool l, .bool k] 41
 clear hW
 have hz9 : w.heap.size + 3 < W.heap.size := HH.out.2.2
 have HM2 := Lib.hid (HM.out.adds HB0.out)
 have HQW := Lib.hid (HQ.out.below HB0.out)
 clear HQ
 have o0 := HO.out.at 0 _ rfl
 have o2 := HO.out.at 2 _ rfl
 have o3 := HO.out.at 3 _ rfl
 have o4 := HO.out.at 4 _ rfl
 have o5 := HO.out.at 5 _ rfl
 have o6 := HO.out.at 6 _ rfl
 have o7 := HO.out.at 7 _ rfl
 go_upto_region 40 with fail
 rw [HADD.out]
 have hb1 := below1 W (.cells #[.int .u64 va, .bool f, .bool l, .bool k, .int .u64 N2, .bool f, .bool l, .bool k] 130)
 have HP1 : Hid (Box (W.alloc (.cells #[.int .u64 va, .bool f, .bool l, .bool k, .int .u64 N2, .bool f, .bool l, .bool k] 130)) W.heap.size (rowL pL [(va, f, l, k), (N2, f, l, k)])) := Box.new W [.int .u64 va, .bool f, .bool l, .bool k, .int .u64 N2, .bool f, .bool l, .bool k] 130
 have HX1 := Lib.hid (HX.out.below hb1)
 have HO1 := Lib.hid (HO.out.below hb1)
 have HH1 := Lib.hid (HH.out.below hb1)
 have HZ1 := Lib.hid (HZ.out.below hb1)
 have HQ1 := Lib.hid (HQW.out.below hb1)
 have HB1 : Hid (Below w.heap.size w (W.alloc (.cells #[.int .u64 va, .bool f, .bool l, .bool k, .int .u64 N2, .bool f, .bool l, .bool k] 130))) := HB0.out.alloc HB0.out.size _
 clear hb1 HX HO HH HZ HQW HB0 HM2 o0 o2 o3 o4 o5 o6 o7
 generalize World.alloc W _ = W1 at *
 have hs1 : W.heap.size < W1.heap.size := HP1.out.2.2
 have o2 := HO1.out.at 2 _ rfl
 have o3 := HO1.out.at 3 _ rfl
 have o4 := HO1.out.at 4 _ rfl
 have t0 := HH1.out.at 0 _ rfl
 have t1 := HH1.out.at 1 _ rfl
 have t2 := HH1.out.at 2 _ rfl
 have x8 := HX1.out.at 8 _ rfl
 have fx := HX1.out.2.1
 have zx := HX1.out.2.2
 go_upto_region 41 with fail
 rw [HADD.out]
 have hkA : Kp (fun k => k = w.heap.size) W1 ((W1.setCell ⟨w.heap.size, 8, none⟩ (.slice (some ⟨W1.heap.size, 0, none⟩) 2 2)).alloc (.cells #[.int .u64 va, .bool f, .bool l, .bool k, .int .u64 N2, .bool f, .bool l, .bool k] 132)) := ((Kp.refl (fun k => k = w.heap.size) W1).setCell (p := ⟨w.heap.size, 8, none⟩) (.inl rfl) _).below (below1 _ _)
 have HP2 : Hid (Box ((W1.setCell ⟨w.heap.size, 8, none⟩ (.slice (some ⟨W1.heap.size, 0, none⟩) 2 2)).alloc (.cells #[.int .u64 va, .bool f, .bool l, .bool k, .int .u64 N2, .bool f, .bool l, .bool k] 132)) W1.heap.size (rowL pL [(va, f, l, k), (N2, f, l, k)])) := Box.new' (W1.setCell ⟨w.heap.size, 8, none⟩ (.slice (some ⟨W1.heap.size, 0, none⟩) 2 2)) _ (by simp) [.int .u64 va, .bool f, .bool l, .bool k, .int .u64 N2, .bool f, .bool l, .bool k] 132
 have HX2 : Hid (Box ((W1.setCell ⟨w.heap.size, 8, none⟩ (.slice (some ⟨W1.heap.size, 0, none⟩) 2 2)).alloc (.cells #[.int .u64 va, .bool f, .bool l, .bool k, .int .u64 N2, .bool f, .bool l, .bool k] 132)) w.heap.size (xC y.sz y.most y.root y.asid y.on (.slice q.A1 y.ws.length q.c1) (.slice q.A2 y.es.length q.c2) (.slice q.A3 y.ks.length q.c3) (.slice (some ⟨W1.heap.size, 0, none⟩) 2 2))) := (HX1.out.setAt 8 (by simp [xC]) (.slice (some ⟨W1.heap.size, 0, none⟩) 2 2)).below (below1 _ _)
 have HP12 := Lib.hid (HP1.out.kept hkA (by omega))
 have HO2 := Lib.hid (HO1.out.kept hkA (by omega))
 have HZ2 := Lib.hid (HZ1.out.kept hkA (by omega))
 have HQ2 := Lib.hid (HQ1.out.kept hkA (fun k z e => by have := HBM.out k (HRB.out k z); omega))
 have HB2 := Lib.hid (hkA.toBelow HB1.out HB1.out.size (fun k e => by omega))
 clear hkA HX1 HP1 HO1 HH1 HZ1 HQ1 HB1 o2 o3 o4 t0 t1 t2 x8 fx zx
 generalize World.alloc (World.setCell W1 _ _) _ = W2 at *
 have hs2 : W1.heap.size < W2.heap.size := HP2.out.2.2
 have o2 := HO2.out.at 2 _ rfl
 have x8 := HX2.out.at 8 _ rfl
 have fx := HX2.out.2.1
 have zx := HX2.out.2.2
 go_upto_region 43 with fail
 clear o2 x8 fx zx
 (obtain ⟨W3, hW3⟩ : ∃ W3, W3 = W2 := ⟨_, rfl⟩; rw [← hW3]; have HK3 : Hid (Kp (fun k => k = w.heap.size) W2 W3) := hW3 ▸ Kp.refl _ _; have HX3 := Lib.hid (hW3 ▸ HX2.out); clear hW3)
 have hs3 : W2.heap.size ≤ W3.heap.size := HK3.out.size
 have HP13 := Lib.hid (HP12.out.kept HK3.out (by omega))
 have HP3 := Lib.hid (HP2.out.kept HK3.out (by omega))
 have HZ3 := Lib.hid (HZ2.out.kept HK3.out (by omega))
 have HQ3 := Lib.hid (HQ2.out.kept HK3.out (fun k z e => by have := HBM.out k (HRB.out k z); omega))
 have HB3 := Lib.hid ((HK3.out.toBelow HB2.out HB2.out.size (fun k e => by omega)).drew)
 have HM3 := Lib.hid (HM.out.adds HB3.out)
 clear HK3 HP12 HP2 HZ2 HQ2 HB2 HX2 HO2
 have HZD := Lib.hid (HZ3.out.below (Below.refl _ _).drew)
 have HQD := Lib.hid (HQ3.out.below (Below.refl _ _).drew)
 have hzd : W3.drew.heap.size = W3.heap.size := rfl
 have HRP : Hid (RowAt W3.drew (fun k => k = W.heap.size) 4 (.slice (some ⟨W.heap.size, 0, none⟩) 2 2) ([(va, f, l, k), (N2, f, l, k)]).length (rowL pL [(va, f, l, k), (N2, f, l, k)])) := (RowAt.box2 HP13.out).below (Below.refl _ _).drew
 have HR8 : Hid (RowAt W3.drew (fun k => k = W1.heap.size) 4 (.slice (some ⟨W1.heap.size, 0, none⟩) 2 2) ([(va, f, l, k), (N2, f, l, k)]).length (rowL pL [(va, f, l, k), (N2, f, l, k)])) := (RowAt.box2 HP3.out).below (Below.refl _ _).drew
 have CP := Lib.hid (HM3.out.plan2 HRP.out (by simp))
 have x0 := HX3.out.at 0 _ rfl
 have x1 := HX3.out.at 1 _ rfl
 have x2 := HX3.out.at 2 _ rfl
 have x3 := HX3.out.at 3 _ rfl
 have x4 := HX3.out.at 4 _ rfl
 have x5 := HX3.out.at 5 _ rfl
 have x6 := HX3.out.at 6 _ rfl
 have x7 := HX3.out.at 7 _ rfl
 have x8 := HX3.out.at 8 _ rfl
 obtain ⟨S, hSdef⟩ : ∃ S : World → Prop, S = fun u => u.cell? ⟨w.heap.size, 0, none⟩ = some (.int .u64 y.sz) ∧ u.cell? ⟨w.heap.size, 1, none⟩ = some (.slice q.A1 y.ws.length q.c1) ∧ u.cell? ⟨w.heap.size, 2, none⟩ = some (.int .i64 y.most) ∧ u.cell? ⟨w.heap.size, 3, none⟩ = some (.slice q.A2 y.es.length q.c2) ∧ u.cell? ⟨w.heap.size, 4, none⟩ = some (.slice q.A3 y.ks.length q.c3) ∧ u.cell? ⟨w.heap.size, 5, none⟩ = some (.bool y.on) ∧ u.cell? ⟨w.heap.size, 6, none⟩ = some (.int .u64 y.root) ∧ u.cell? ⟨w.heap.size, 7, none⟩ = some (.int .i64 y.asid) ∧ u.cell? ⟨w.heap.size, 8, none⟩ = some ((.slice (some ⟨W1.heap.size, 0, none⟩) 2 2)) := ⟨_, rfl⟩
 have hSu : ∀ u, S u → u.cell? ⟨w.heap.size, 0, none⟩ = some (.int .u64 y.sz) ∧ u.cell? ⟨w.heap.size, 1, none⟩ = some (.slice q.A1 y.ws.length q.c1) ∧ u.cell? ⟨w.heap.size, 2, none⟩ = some (.int .i64 y.most) ∧ u.cell? ⟨w.heap.size, 3, none⟩ = some (.slice q.A2 y.es.length q.c2) ∧ u.cell? ⟨w.heap.size, 4, none⟩ = some (.slice q.A3 y.ks.length q.c3) ∧ u.cell? ⟨w.heap.size, 5, none⟩ = some (.bool y.on) ∧ u.cell? ⟨w.heap.size, 6, none⟩ = some (.int .u64 y.root) ∧ u.cell? ⟨w.heap.size, 7, none⟩ = some (.int .i64 y.asid) ∧ u.cell? ⟨w.heap.size, 8, none⟩ = some ((.slice (some ⟨W1.heap.size, 0, none⟩) 2 2)) := fun u h => by rw [hSdef] at h; exact h
 have hSi : ∀ u, (u.cell? ⟨w.heap.size, 0, none⟩ = some (.int .u64 y.sz) ∧ u.cell? ⟨w.heap.size, 1, none⟩ = some (.slice q.A1 y.ws.length q.c1) ∧ u.cell? ⟨w.heap.size, 2, none⟩ = some (.int .i64 y.most) ∧ u.cell? ⟨w.heap.size, 3, none⟩ = some (.slice q.A2 y.es.length q.c2) ∧ u.cell? ⟨w.heap.size, 4, none⟩ = some (.slice q.A3 y.ks.length q.c3) ∧ u.cell? ⟨w.heap.size, 5, none⟩ = some (.bool y.on) ∧ u.cell? ⟨w.heap.size, 6, none⟩ = some (.int .u64 y.root) ∧ u.cell? ⟨w.heap.size, 7, none⟩ = some (.int .i64 y.asid) ∧ u.cell? ⟨w.heap.size, 8, none⟩ = some ((.slice (some ⟨W1.heap.size, 0, none⟩) 2 2))) → S u := fun u h => by rw [hSdef]; exact h
 clear hSdef
 have hS0 : S W3.drew := hSi _ ⟨drew_cell x0, drew_cell x1, drew_cell x2, drew_cell x3, drew_cell x4, drew_cell x5, drew_cell x6, drew_cell x7, drew_cell x8⟩
 have SK : Hid (∀ u u' F, Kp F u u' → ¬ F w.heap.size → S u → S u') := fun u u' F hk n1 h => by
  obtain ⟨q0, q1, q2, q3, q4, q5, q6, q7, q8⟩ := hSu _ h
  exact hSi _ ⟨hk.cell q0 n1, hk.cell q1 n1, hk.cell q2 n1, hk.cell q3 n1, hk.cell q4 n1, hk.cell q5 n1, hk.cell q6 n1, hk.cell q7 n1, hk.cell q8 n1⟩
 clear x0 x1 x2 x3 x4 x5 x6 x7 x8
 refine wp_region_held_drew (S := S) (by kernel_rfl) hS0 (fun hHeld => ?_)
 clear hS0
 refine wpAnyH_take (i := 0) (v := ?_) rfl (by decide +kernel) (by decide +kernel) (by decide +kernel) (fun _ _ _ h => h) (Or.inl ⟨by rfl, ?_⟩) (by assumption) ?_
 rotate_left
 ·intro w hSw
  have hSw := hSu _ hSw
  try dsimp only at hSw
  go_simp
  try with_reducible rfl
 try simp only [List.getElem_toArray, List.getElem_cons_succ, List.getElem_cons_zero, Act.put, List.setIfInBounds_toArray, List.set_cons_zero, List.set_cons_succ]
 refine wpAnyH_take (i := 1) (v := ?_) rfl (by decide +kernel) (by decide +kernel) (by decide +kernel) (fun _ _ _ h => h) (Or.inl ⟨by rfl, ?_⟩) (by assumption) ?_
 rotate_left
 ·intro w hSw
  have hSw := hSu _ hSw
  try dsimp only at hSw
  go_simp
  try with_reducible rfl
 try simp only [List.getElem_toArray, List.getElem_cons_succ, List.getElem_cons_zero, Act.put, List.setIfInBounds_toArray, List.set_cons_zero, List.set_cons_succ]
 refine wpAnyH_take (i := 2) (v := ?_) rfl (by decide +kernel) (by decide +kernel) (by decide +kernel) (fun _ _ _ h => h) (Or.inl ⟨by rfl, ?_⟩) (by assumption) ?_
 rotate_left
 ·intro w hSw
  have hSw := hSu _ hSw
  try dsimp only at hSw
  go_simp
  try with_reducible rfl
 try simp only [List.getElem_toArray, List.getElem_cons_succ, List.getElem_cons_zero, Act.put, List.setIfInBounds_toArray, List.set_cons_zero, List.set_cons_succ]
 refine wpAnyH_ready (rs := [3]) (by decide +kernel) (by simp) ?_
 refine AllReadyH.cons rfl (fun K hK => ?_) AllReadyH.nil
 go_simp
 refine CP.out.mono ?_
 rintro e w1 ⟨rfl, pv', hm, hrow, hk⟩
 have HM4 := Lib.hid hm
 have HK4 := Lib.hid hk
 have HR4 := Lib.hid hrow
 have HZ4 := Lib.hid (HZD.out.mb hk (.inr (by omega)))
 have hS5 : S w1 := SK.out _ _ _ hk (fun z => z.1 (.inr (by omega))) hHeld
 clear hm hk hrow
 go_wp2_with fail
 refine hK.out _ _ hS5 (fun hHeld => ?_)
 clear hK K hS5
 try simp only [List.getElem_toArray, List.getElem_cons_succ, List.getElem_cons_zero, Act.put, List.setIfInBounds_toArray, List.set_cons_zero, List.set_cons_succ]
 refine wpAnyH_take (i := 4) (v := .bool true) rfl (by decide +kernel) (by decide +kernel) (by decide +kernel) (fun _ _ _ h => h) (Or.inl ⟨by rfl, ?_⟩) (by assumption) ?_
 ·intro w hSw
  have hSw := hSu _ hSw
  try dsimp only at hSw
  go_simp
 try simp only [List.getElem_toArray, List.getElem_cons_succ, List.getElem_cons_zero, Act.put, List.setIfInBounds_toArray, List.set_cons_zero, List.set_cons_succ]
 refine wpAnyH_take (i := 5) (v := .bool true) rfl (by decide +kernel) (by decide +kernel) (by decide +kernel) (fun _ _ _ h => h) (Or.inl ⟨by rfl, ?_⟩) (by assumption) ?_
 ·intro w hSw
  have hSw := hSu _ hSw
  try dsimp only at hSw
  go_simp
 try simp only [List.getElem_toArray, List.getElem_cons_succ, List.getElem_cons_zero, Act.put, List.setIfInBounds_toArray, List.set_cons_zero, List.set_cons_succ]
 refine wpAnyH_take (i := 6) (v := ?_) rfl (by decide +kernel) (by decide +kernel) (by decide +kernel) (fun _ _ _ h => h) (Or.inl ⟨by rfl, ?_⟩) (by assumption) ?_
 rotate_left
 ·intro w hSw
  have hSw := hSu _ hSw
  try dsimp only at hSw
  go_simp
  try with_reducible rfl
 try simp only [List.getElem_toArray, List.getElem_cons_succ, List.getElem_cons_zero, Act.put, List.setIfInBounds_toArray, List.set_cons_zero, List.set_cons_succ]
 refine wpAnyH_ready (rs := [7]) (by decide +kernel) (by simp) ?_
 refine AllReadyH.cons rfl (fun K hK => ?_) AllReadyH.nil
 obtain ⟨C9, hmk⟩ := make9
 go_simp
 clear hmk
 have hb5 := below1 w1 (.cells C9 130)
 have HB5 := Lib.hid hb5
 have HZ5 := Lib.hid (HZ4.out.below hb5)
 have hS5 : S (w1.alloc (.cells C9 130)) := SK.out _ _ (fun _ => False) (.ofBelow hb5) (fun h => h) hHeld
 clear hb5
 generalize World.alloc w1 _ = W5 at *
 refine hK.out _ _ hS5 (fun hHeld => ?_)
 clear hK K hS5
 try simp only [List.getElem_toArray, List.getElem_cons_succ, List.getElem_cons_zero, Act.put, List.setIfInBounds_toArray, List.set_cons_zero, List.set_cons_succ]
 refine wpAnyH_ready (rs := [8]) (by decide +kernel) (by simp) ?_
 refine AllReadyH.cons rfl (fun K hK => ?_) AllReadyH.nil
 go_simp
 refine (plan_many _ (by omega) _).mono ?_
 rintro e w6 ⟨rfl, hw6⟩
 rw [hw6]
 clear hw6 w6
 go_wp2_with fail
 have hS5 := hHeld
 refine hK.out _ _ hS5 (fun hHeld => ?_)
 clear hK K hS5
 try simp only [List.getElem_toArray, List.getElem_cons_succ, List.getElem_cons_zero, Act.put, List.setIfInBounds_toArray, List.set_cons_zero, List.set_cons_succ]
 refine wpAnyH_take (i := 9) (v := .bool true) rfl (by decide +kernel) (by decide +kernel) (by decide +kernel) (fun _ _ _ h => h) (Or.inl ⟨by rfl, ?_⟩) (by assumption) ?_
 ·intro w hSw
  have hSw := hSu _ hSw
  try dsimp only at hSw
  go_simp
 try simp only [List.getElem_toArray, List.getElem_cons_succ, List.getElem_cons_zero, Act.put, List.setIfInBounds_toArray, List.set_cons_zero, List.set_cons_succ]
 refine wpAnyH_take (i := 10) (v := .bool true) rfl (by decide +kernel) (by decide +kernel) (by decide +kernel) (fun _ _ _ h => h) (Or.inl ⟨by rfl, ?_⟩) (by assumption) ?_
 ·intro w hSw
  have hSw := hSu _ hSw
  try dsimp only at hSw
  go_simp
 try simp only [List.getElem_toArray, List.getElem_cons_succ, List.getElem_cons_zero, Act.put, List.setIfInBounds_toArray, List.set_cons_zero, List.set_cons_succ]
 refine wpAnyH_ready (rs := [11]) (by decide +kernel) (by simp) ?_
 refine AllReadyH.cons rfl (fun K hK => ?_) AllReadyH.nil
 have p0 := HZ5.out.at 0 _ rfl
 have p1 := HZ5.out.at 1 _ rfl
 have p2 := HZ5.out.at 2 _ rfl
 have p3 := HZ5.out.at 3 _ rfl
 have p4 := HZ5.out.at 4 _ rfl
 have p5 := HZ5.out.at 5 _ rfl
 have p6 := HZ5.out.at 6 _ rfl
 have p7 := HZ5.out.at 7 _ rfl
 have p8 := HZ5.out.at 8 _ rfl
 have fp := HZ5.out.2.1
 have zp := HZ5.out.2.2
 go_simp
 rw [set9_eq]
 obtain ⟨Y, hY⟩ : ∃ Y, World.setCells W5 (w.heap.size + 1 + 1) 0 [.int .u64 y.sz, .slice q.A1 y.ws.length q.c1, .int .i64 y.most, .slice q.A2 y.es.length q.c2, .slice q.A3 y.ks.length q.c3, .bool y.on, .int .u64 y.root, .int .i64 y.asid, (.slice (some ⟨W1.heap.size, 0, none⟩) 2 2)] = Y := ⟨_, rfl⟩
 have hk9 : Kp (fun k => k = w.heap.size + 1 + 1) W5 Y := hY ▸ (Kp.refl (fun k => k = w.heap.size + 1 + 1) W5).setCells (.inl rfl) 0 [.int .u64 y.sz, .slice q.A1 y.ws.length q.c1, .int .i64 y.most, .slice q.A2 y.es.length q.c2, .slice q.A3 y.ks.length q.c3, .bool y.on, .int .u64 y.root, .int .i64 y.asid, (.slice (some ⟨W1.heap.size, 0, none⟩) 2 2)]
 have hS9 : S Y := SK.out _ _ _ hk9 (by omega) hHeld
 have HK9 := Lib.hid hk9
 rw [hY]
 refine hK.out _ _ hS9 (fun hHeld => ?_)
 clear hK K hS9
 try simp only [List.getElem_toArray, List.getElem_cons_succ, List.getElem_cons_zero, Act.put, List.setIfInBounds_toArray, List.set_cons_zero, List.set_cons_succ]
 clear hk9
 refine wpAnyH_take (i := 12) (v := ?_) rfl (by decide +kernel) (by decide +kernel) (by decide +kernel) (fun _ _ _ h => h) (Or.inl ⟨by rfl, ?_⟩) (by assumption) ?_
 rotate_left
 ·intro w hSw
  have hSw := hSu _ hSw
  try dsimp only at hSw
  go_simp
  try with_reducible rfl
 try simp only [List.getElem_toArray, List.getElem_cons_succ, List.getElem_cons_zero, Act.put, List.setIfInBounds_toArray, List.set_cons_zero, List.set_cons_succ]
 refine wpAnyH_done (by decide +kernel) ?_ _
 have HZ6 : Hid (Box Y (w.heap.size + 1 + 1) [.int .u64 y.sz, .slice q.A1 y.ws.length q.c1, .int .i64 y.most, .slice q.A2 y.es.length q.c2, .slice q.A3 y.ks.length q.c3, .bool y.on, .int .u64 y.root, .int .i64 y.asid, (.slice (some ⟨W1.heap.size, 0, none⟩) 2 2)]) := hY ▸ HZ5.out.put rfl
 clear hY p0 p1 p2 p3 p4 p5 p6 p7 p8 fp zp
 have p0 := HZ6.out.at 0 _ rfl
 have p1 := HZ6.out.at 1 _ rfl
 have p2 := HZ6.out.at 2 _ rfl
 have p3 := HZ6.out.at 3 _ rfl
 have p4 := HZ6.out.at 4 _ rfl
 have p5 := HZ6.out.at 5 _ rfl
 have p6 := HZ6.out.at 6 _ rfl
 have p7 := HZ6.out.at 7 _ rfl
 have p8 := HZ6.out.at 8 _ rfl
 have fp := HZ6.out.2.1
 have zp := HZ6.out.2.2
 go_wp2_with fail
 refine bodyPost_ret (v := .tuple #[yV { y with ps := [(va, f, l, k), (N2, f, l, k)] } { q with A4 := some ⟨W1.heap.size, 0, none⟩, c4 := 2 }, .bool true]) (by simp [results, Tryz.results14, go_sem, zp, p0, p1, p2, p3, p4, p5, p6, p7, p8, yV, xV]) rfl ?_
 have hbs : ∀ k, R k → k < w.heap.size := fun k z => HBM.out k (HRB.out k z)
 have hz4 : W3.heap.size ≤ w1.heap.size := HK4.out.size
 have hz5 : w1.heap.size ≤ W5.heap.size := HB5.out.size
 have hk2 : Kp (KB B w0) w w1 := (Kp.ofBelow HB3.out).trans HK4.out (fun i z => .inl ⟨fun b => z.1 (.inl b), z.2⟩)
 have hk5 : Kp (fun k => k = w.heap.size + 1 + 1) w1 Y := (Kp.ofBelow HB5.out).trans HK9.out (fun i z => .inl z)
 have hq : YAt R y q w1 := HQD.out.kept HK4.out (fun k z e => e.1 (.inl (HRB.out k z)))
 have hq2 : YAt R y q Y := hq.kept hk5 (fun k z e => by have := hbs k z; omega)
 have hr8 : RowAt Y (fun k => k = W1.heap.size) 4 (.slice (some ⟨W1.heap.size, 0, none⟩) 2 2) ([(va, f, l, k), (N2, f, l, k)]).length (rowL pL [(va, f, l, k), (N2, f, l, k)]) := (HR8.out.kept HK4.out (fun k z e => e.1 (.inr (by first | omega | exact z.elim)))).kept hk5 (fun k z e => by first | omega | exact z.elim)
 exact ⟨{ q with A4 := some ⟨W1.heap.size, 0, none⟩, c4 := 2 }, _, pv', rfl, (HM4.out.below HB5.out).own (HK9.out.mono (fun k z => .inl (.inr (by omega)))), ((HR4.out.below HB5.out).kept HK9.out (fun k z e => by omega)).mono (fun k _ z => ⟨by omega, .inr z⟩), ⟨hq2.1.mono (fun k _ z => ⟨.inl z, .inl (.inl (HRB.out k z))⟩), hq2.2.1.mono (fun k _ z => ⟨.inl z, .inl (.inl (HRB.out k z))⟩), hq2.2.2.1.mono (fun k _ z => ⟨.inl z, .inl (.inl (HRB.out k z))⟩), hr8.mono (fun k _ z => ⟨.inr (by first | omega | exact z.elim), .inl (.inr (by first | omega | exact z.elim))⟩)⟩, fun k z => .inl (.inl z), hk2.trans hk5 (fun i z => .inr (by omega))⟩
set_option maxHeartbeats 4000000 in
theorem stepq_plan0 {x m pt pk : Nat} {pv : Value} {s : St} {B : Nat → Prop} {w0 w : World} (h : MB x m pt pk pv s B w0 w) (y : Yr) (q : Sl) (sort n : Int) (va wd : Nat) (f l k : Bool) {R : Nat → Prop} (hR : ∀ k, R k → B k) (hr : YAt R y q w) (hn : decide (n < 0) = true) (N2 : Nat) (hN2 : (va + wd) % 18446744073709551616 = N2) :
  Calls Tryz.prog 14 #[.pointer (some ⟨x, 0, none⟩), yV y q, .agg #[.int .i64 11, .int .i64 sort, .int .i64 n, .int .u64 va, .int .u64 wd, .bool f, .bool l, .bool k]] w (StepG x m pt pk ([] : List Pl) R B w0 s { y with ps := ([] : List Pl) } true w) := by
 have HADD := Lib.hid (add_u64 va wd)
 rw [hN2] at HADD
 clear hN2
 have HQ := Lib.hid hr
 have HRB := Lib.hid hR
 have HM := Lib.hid h
 have HBM : Hid (∀ k, B k → k < w.heap.size) := fun k z => h.mine z
 clear h hr hR
 unfold yV xV
 go_enter Tryz.func14, Tryz.ntmps14
 go_upto_region 2 with fail
 generalize hW : World.alloc (World.alloc (World.alloc (World.alloc w _) _) _) _ = W
 have HX : Hid (Box W w.heap.size (xC y.sz y.most y.root y.asid y.on (.slice q.A1 y.ws.length q.c1) (.slice q.A2 y.es.length q.c2) (.slice q.A3 y.ks.length q.c3) (.slice q.A4 y.ps.length q.c4))) := by
  rw [← hW]
  exact (((Box.new w (xC y.sz y.most y.root y.asid y.on (.slice q.A1 y.ws.length q.c1) (.slice q.A2 y.es.length q.c2) (.slice q.A3 y.ks.length q.c3) (.slice q.A4 y.ps.length q.c4)) 36).below (below1 _ _)).below (below1 _ _)).below (below1 _ _)
 have HO : Hid (Box W (w.heap.size + 1) (oC 11 sort n va wd f l k)) := by
  rw [← hW]
  exact ((Box.new' (w.alloc (.cells (xC y.sz y.most y.root y.asid y.on (.slice q.A1 y.ws.length q.c1) (.slice q.A2 y.es.length q.c2) (.slice q.A3 y.ks.length q.c3) (.slice q.A4 y.ps.length q.c4)).toArray 36)) _ (by simp) (oC 11 sort n va wd f l k) 55).below (below1 _ _)).below (below1 _ _)
 have HZ : Hid (Box W (w.heap.size + 2) (xC 0 0 0 0 false (.slice none 0 0) (.slice none 0 0) (.slice none 0 0) (.slice none 0 0))) := by
  rw [← hW]
  exact (Box.new' ((w.alloc (.cells (xC y.sz y.most y.root y.asid y.on (.slice q.A1 y.ws.length q.c1) (.slice q.A2 y.es.length q.c2) (.slice q.A3 y.ks.length q.c3) (.slice q.A4 y.ps.length q.c4)).toArray 36)).alloc (.cells (oC 11 sort n va wd f l k).toArray 55)) _ (by simp) (xC 0 0 0 0 false (.slice none 0 0) (.slice none 0 0) (.slice none 0 0) (.slice none 0 0)) 36).below (below1 _ _)
 have HB0 : Hid (Below w.heap.size w W) := by rw [← hW]; exact (((below1 w _).alloc (by simp) _).alloc (by simp; omega) _).alloc (by simp; omega) _
 have HH : Hid (Box W (w.heap.size + 3) [.bool f, .bool l, .bool k]) := by
  rw [← hW]
  exact Box.new' (((w.alloc (.cells (xC y.sz y.most y.root y.asid y.on (.slice q.A1 y.ws.length q.c1) (.slice q.A2 y.es.length q.c2) (.slice q.A3 y.ks.length q.c3) (.slice q.A4 y.ps.length q.c4)).toArray 36)).alloc (.cells (oC 11 sort n va wd f l k).toArray 55)).alloc (.cells (xC 0 0 0 0 false (.slice none 0 0) (.slice none 0 0) (.slice none 0 0) (.slice none 0 0)).toArray 36)) _ (by simp) [.bool f, .bool l, .bool k] 41
 clear hW
 have hz9 : w.heap.size + 3 < W.heap.size := HH.out.2.2
 have HM2 := Lib.hid (HM.out.adds HB0.out)
 have HQW := Lib.hid (HQ.out.below HB0.out)
 clear HQ
 have o0 := HO.out.at 0 _ rfl
 have o2 := HO.out.at 2 _ rfl
 have o3 := HO.out.at 3 _ rfl
 have o4 := HO.out.at 4 _ rfl
 have o5 := HO.out.at 5 _ rfl
 have o6 := HO.out.at 6 _ rfl
 have o7 := HO.out.at 7 _ rfl
 go_upto_region 40 with fail
 rw [HADD.out]
 have hb1 := below1 W (.cells #[.int .u64 va, .bool f, .bool l, .bool k, .int .u64 N2, .bool f, .bool l, .bool k] 130)
 have HP1 : Hid (Box (W.alloc (.cells #[.int .u64 va, .bool f, .bool l, .bool k, .int .u64 N2, .bool f, .bool l, .bool k] 130)) W.heap.size (rowL pL [(va, f, l, k), (N2, f, l, k)])) := Box.new W [.int .u64 va, .bool f, .bool l, .bool k, .int .u64 N2, .bool f, .bool l, .bool k] 130
 have HX1 := Lib.hid (HX.out.below hb1)
 have HO1 := Lib.hid (HO.out.below hb1)
 have HH1 := Lib.hid (HH.out.below hb1)
 have HZ1 := Lib.hid (HZ.out.below hb1)
 have HQ1 := Lib.hid (HQW.out.below hb1)
 have HB1 : Hid (Below w.heap.size w (W.alloc (.cells #[.int .u64 va, .bool f, .bool l, .bool k, .int .u64 N2, .bool f, .bool l, .bool k] 130))) := HB0.out.alloc HB0.out.size _
 clear hb1 HX HO HH HZ HQW HB0 HM2 o0 o2 o3 o4 o5 o6 o7
 generalize World.alloc W _ = W1 at *
 have hs1 : W.heap.size < W1.heap.size := HP1.out.2.2
 have o2 := HO1.out.at 2 _ rfl
 have o3 := HO1.out.at 3 _ rfl
 have o4 := HO1.out.at 4 _ rfl
 have t0 := HH1.out.at 0 _ rfl
 have t1 := HH1.out.at 1 _ rfl
 have t2 := HH1.out.at 2 _ rfl
 have x8 := HX1.out.at 8 _ rfl
 have fx := HX1.out.2.1
 have zx := HX1.out.2.2
 go_upto_region 41 with fail
 rw [HADD.out]
 have hkA : Kp (fun k => k = w.heap.size) W1 ((W1.setCell ⟨w.heap.size, 8, none⟩ (.slice (some ⟨W1.heap.size, 0, none⟩) 2 2)).alloc (.cells #[.int .u64 va, .bool f, .bool l, .bool k, .int .u64 N2, .bool f, .bool l, .bool k] 132)) := ((Kp.refl (fun k => k = w.heap.size) W1).setCell (p := ⟨w.heap.size, 8, none⟩) (.inl rfl) _).below (below1 _ _)
 have HP2 : Hid (Box ((W1.setCell ⟨w.heap.size, 8, none⟩ (.slice (some ⟨W1.heap.size, 0, none⟩) 2 2)).alloc (.cells #[.int .u64 va, .bool f, .bool l, .bool k, .int .u64 N2, .bool f, .bool l, .bool k] 132)) W1.heap.size (rowL pL [(va, f, l, k), (N2, f, l, k)])) := Box.new' (W1.setCell ⟨w.heap.size, 8, none⟩ (.slice (some ⟨W1.heap.size, 0, none⟩) 2 2)) _ (by simp) [.int .u64 va, .bool f, .bool l, .bool k, .int .u64 N2, .bool f, .bool l, .bool k] 132
 have HX2 : Hid (Box ((W1.setCell ⟨w.heap.size, 8, none⟩ (.slice (some ⟨W1.heap.size, 0, none⟩) 2 2)).alloc (.cells #[.int .u64 va, .bool f, .bool l, .bool k, .int .u64 N2, .bool f, .bool l, .bool k] 132)) w.heap.size (xC y.sz y.most y.root y.asid y.on (.slice q.A1 y.ws.length q.c1) (.slice q.A2 y.es.length q.c2) (.slice q.A3 y.ks.length q.c3) (.slice (some ⟨W1.heap.size, 0, none⟩) 2 2))) := (HX1.out.setAt 8 (by simp [xC]) (.slice (some ⟨W1.heap.size, 0, none⟩) 2 2)).below (below1 _ _)
 have HP12 := Lib.hid (HP1.out.kept hkA (by omega))
 have HO2 := Lib.hid (HO1.out.kept hkA (by omega))
 have HZ2 := Lib.hid (HZ1.out.kept hkA (by omega))
 have HQ2 := Lib.hid (HQ1.out.kept hkA (fun k z e => by have := HBM.out k (HRB.out k z); omega))
 have HB2 := Lib.hid (hkA.toBelow HB1.out HB1.out.size (fun k e => by omega))
 clear hkA HX1 HP1 HO1 HH1 HZ1 HQ1 HB1 o2 o3 o4 t0 t1 t2 x8 fx zx
 generalize World.alloc (World.setCell W1 _ _) _ = W2 at *
 have hs2 : W1.heap.size < W2.heap.size := HP2.out.2.2
 have o2 := HO2.out.at 2 _ rfl
 have x8 := HX2.out.at 8 _ rfl
 have fx := HX2.out.2.1
 have zx := HX2.out.2.2
 go_upto_region 43 with fail
 clear o2 x8 fx zx
 (have HK3 : Hid (Kp (fun k => k = w.heap.size) W2 (W2.setCell ⟨w.heap.size, 8, none⟩ (.slice none 0 0))) := (Kp.refl (fun k => k = w.heap.size) W2).setCell (p := ⟨w.heap.size, 8, none⟩) (.inl rfl) _; have HX3 : Hid (Box (W2.setCell ⟨w.heap.size, 8, none⟩ (.slice none 0 0)) w.heap.size (xC y.sz y.most y.root y.asid y.on (.slice q.A1 y.ws.length q.c1) (.slice q.A2 y.es.length q.c2) (.slice q.A3 y.ks.length q.c3) (.slice none 0 0))) := HX2.out.setAt 8 (by simp [xC]) _; generalize World.setCell W2 _ _ = W3 at *)
 have hs3 : W2.heap.size ≤ W3.heap.size := HK3.out.size
 have HP13 := Lib.hid (HP12.out.kept HK3.out (by omega))
 have HP3 := Lib.hid (HP2.out.kept HK3.out (by omega))
 have HZ3 := Lib.hid (HZ2.out.kept HK3.out (by omega))
 have HQ3 := Lib.hid (HQ2.out.kept HK3.out (fun k z e => by have := HBM.out k (HRB.out k z); omega))
 have HB3 := Lib.hid ((HK3.out.toBelow HB2.out HB2.out.size (fun k e => by omega)).drew)
 have HM3 := Lib.hid (HM.out.adds HB3.out)
 clear HK3 HP12 HP2 HZ2 HQ2 HB2 HX2 HO2
 have HZD := Lib.hid (HZ3.out.below (Below.refl _ _).drew)
 have HQD := Lib.hid (HQ3.out.below (Below.refl _ _).drew)
 have hzd : W3.drew.heap.size = W3.heap.size := rfl
 have HRP : Hid (RowAt W3.drew (fun _ => False) 4 (.slice none 0 0) (([] : List Pl)).length (rowL pL ([] : List Pl))) := RowAt.nil _ _ _
 have HR8 : Hid (RowAt W3.drew (fun _ => False) 4 (.slice none 0 0) (([] : List Pl)).length (rowL pL ([] : List Pl))) := RowAt.nil _ _ _
 have CP := Lib.hid (HM3.out.plan2 HRP.out (by simp))
 have x0 := HX3.out.at 0 _ rfl
 have x1 := HX3.out.at 1 _ rfl
 have x2 := HX3.out.at 2 _ rfl
 have x3 := HX3.out.at 3 _ rfl
 have x4 := HX3.out.at 4 _ rfl
 have x5 := HX3.out.at 5 _ rfl
 have x6 := HX3.out.at 6 _ rfl
 have x7 := HX3.out.at 7 _ rfl
 have x8 := HX3.out.at 8 _ rfl
 obtain ⟨S, hSdef⟩ : ∃ S : World → Prop, S = fun u => u.cell? ⟨w.heap.size, 0, none⟩ = some (.int .u64 y.sz) ∧ u.cell? ⟨w.heap.size, 1, none⟩ = some (.slice q.A1 y.ws.length q.c1) ∧ u.cell? ⟨w.heap.size, 2, none⟩ = some (.int .i64 y.most) ∧ u.cell? ⟨w.heap.size, 3, none⟩ = some (.slice q.A2 y.es.length q.c2) ∧ u.cell? ⟨w.heap.size, 4, none⟩ = some (.slice q.A3 y.ks.length q.c3) ∧ u.cell? ⟨w.heap.size, 5, none⟩ = some (.bool y.on) ∧ u.cell? ⟨w.heap.size, 6, none⟩ = some (.int .u64 y.root) ∧ u.cell? ⟨w.heap.size, 7, none⟩ = some (.int .i64 y.asid) ∧ u.cell? ⟨w.heap.size, 8, none⟩ = some ((.slice none 0 0)) := ⟨_, rfl⟩
 have hSu : ∀ u, S u → u.cell? ⟨w.heap.size, 0, none⟩ = some (.int .u64 y.sz) ∧ u.cell? ⟨w.heap.size, 1, none⟩ = some (.slice q.A1 y.ws.length q.c1) ∧ u.cell? ⟨w.heap.size, 2, none⟩ = some (.int .i64 y.most) ∧ u.cell? ⟨w.heap.size, 3, none⟩ = some (.slice q.A2 y.es.length q.c2) ∧ u.cell? ⟨w.heap.size, 4, none⟩ = some (.slice q.A3 y.ks.length q.c3) ∧ u.cell? ⟨w.heap.size, 5, none⟩ = some (.bool y.on) ∧ u.cell? ⟨w.heap.size, 6, none⟩ = some (.int .u64 y.root) ∧ u.cell? ⟨w.heap.size, 7, none⟩ = some (.int .i64 y.asid) ∧ u.cell? ⟨w.heap.size, 8, none⟩ = some ((.slice none 0 0)) := fun u h => by rw [hSdef] at h; exact h
 have hSi : ∀ u, (u.cell? ⟨w.heap.size, 0, none⟩ = some (.int .u64 y.sz) ∧ u.cell? ⟨w.heap.size, 1, none⟩ = some (.slice q.A1 y.ws.length q.c1) ∧ u.cell? ⟨w.heap.size, 2, none⟩ = some (.int .i64 y.most) ∧ u.cell? ⟨w.heap.size, 3, none⟩ = some (.slice q.A2 y.es.length q.c2) ∧ u.cell? ⟨w.heap.size, 4, none⟩ = some (.slice q.A3 y.ks.length q.c3) ∧ u.cell? ⟨w.heap.size, 5, none⟩ = some (.bool y.on) ∧ u.cell? ⟨w.heap.size, 6, none⟩ = some (.int .u64 y.root) ∧ u.cell? ⟨w.heap.size, 7, none⟩ = some (.int .i64 y.asid) ∧ u.cell? ⟨w.heap.size, 8, none⟩ = some ((.slice none 0 0))) → S u := fun u h => by rw [hSdef]; exact h
 clear hSdef
 have hS0 : S W3.drew := hSi _ ⟨drew_cell x0, drew_cell x1, drew_cell x2, drew_cell x3, drew_cell x4, drew_cell x5, drew_cell x6, drew_cell x7, drew_cell x8⟩
 have SK : Hid (∀ u u' F, Kp F u u' → ¬ F w.heap.size → S u → S u') := fun u u' F hk n1 h => by
  obtain ⟨q0, q1, q2, q3, q4, q5, q6, q7, q8⟩ := hSu _ h
  exact hSi _ ⟨hk.cell q0 n1, hk.cell q1 n1, hk.cell q2 n1, hk.cell q3 n1, hk.cell q4 n1, hk.cell q5 n1, hk.cell q6 n1, hk.cell q7 n1, hk.cell q8 n1⟩
 clear x0 x1 x2 x3 x4 x5 x6 x7 x8
 refine wp_region_held_drew (S := S) (by kernel_rfl) hS0 (fun hHeld => ?_)
 clear hS0
 refine wpAnyH_take (i := 0) (v := ?_) rfl (by decide +kernel) (by decide +kernel) (by decide +kernel) (fun _ _ _ h => h) (Or.inl ⟨by rfl, ?_⟩) (by assumption) ?_
 rotate_left
 ·intro w hSw
  have hSw := hSu _ hSw
  try dsimp only at hSw
  go_simp
  try with_reducible rfl
 try simp only [List.getElem_toArray, List.getElem_cons_succ, List.getElem_cons_zero, Act.put, List.setIfInBounds_toArray, List.set_cons_zero, List.set_cons_succ]
 refine wpAnyH_take (i := 1) (v := ?_) rfl (by decide +kernel) (by decide +kernel) (by decide +kernel) (fun _ _ _ h => h) (Or.inl ⟨by rfl, ?_⟩) (by assumption) ?_
 rotate_left
 ·intro w hSw
  have hSw := hSu _ hSw
  try dsimp only at hSw
  go_simp
  try with_reducible rfl
 try simp only [List.getElem_toArray, List.getElem_cons_succ, List.getElem_cons_zero, Act.put, List.setIfInBounds_toArray, List.set_cons_zero, List.set_cons_succ]
 refine wpAnyH_take (i := 2) (v := ?_) rfl (by decide +kernel) (by decide +kernel) (by decide +kernel) (fun _ _ _ h => h) (Or.inl ⟨by rfl, ?_⟩) (by assumption) ?_
 rotate_left
 ·intro w hSw
  have hSw := hSu _ hSw
  try dsimp only at hSw
  go_simp
  try with_reducible rfl
 try simp only [List.getElem_toArray, List.getElem_cons_succ, List.getElem_cons_zero, Act.put, List.setIfInBounds_toArray, List.set_cons_zero, List.set_cons_succ]
 refine wpAnyH_ready (rs := [3]) (by decide +kernel) (by simp) ?_
 refine AllReadyH.cons rfl (fun K hK => ?_) AllReadyH.nil
 go_simp
 refine CP.out.mono ?_
 rintro e w1 ⟨rfl, pv', hm, hrow, hk⟩
 have HM4 := Lib.hid hm
 have HK4 := Lib.hid hk
 have HR4 := Lib.hid hrow
 have HZ4 := Lib.hid (HZD.out.mb hk (.inr (by omega)))
 have hS5 : S w1 := SK.out _ _ _ hk (fun z => z.1 (.inr (by omega))) hHeld
 clear hm hk hrow
 go_wp2_with fail
 refine hK.out _ _ hS5 (fun hHeld => ?_)
 clear hK K hS5
 try simp only [List.getElem_toArray, List.getElem_cons_succ, List.getElem_cons_zero, Act.put, List.setIfInBounds_toArray, List.set_cons_zero, List.set_cons_succ]
 refine wpAnyH_take (i := 4) (v := .bool true) rfl (by decide +kernel) (by decide +kernel) (by decide +kernel) (fun _ _ _ h => h) (Or.inl ⟨by rfl, ?_⟩) (by assumption) ?_
 ·intro w hSw
  have hSw := hSu _ hSw
  try dsimp only at hSw
  go_simp
 try simp only [List.getElem_toArray, List.getElem_cons_succ, List.getElem_cons_zero, Act.put, List.setIfInBounds_toArray, List.set_cons_zero, List.set_cons_succ]
 refine wpAnyH_take (i := 5) (v := .bool true) rfl (by decide +kernel) (by decide +kernel) (by decide +kernel) (fun _ _ _ h => h) (Or.inl ⟨by rfl, ?_⟩) (by assumption) ?_
 ·intro w hSw
  have hSw := hSu _ hSw
  try dsimp only at hSw
  go_simp
 try simp only [List.getElem_toArray, List.getElem_cons_succ, List.getElem_cons_zero, Act.put, List.setIfInBounds_toArray, List.set_cons_zero, List.set_cons_succ]
 refine wpAnyH_take (i := 6) (v := ?_) rfl (by decide +kernel) (by decide +kernel) (by decide +kernel) (fun _ _ _ h => h) (Or.inl ⟨by rfl, ?_⟩) (by assumption) ?_
 rotate_left
 ·intro w hSw
  have hSw := hSu _ hSw
  try dsimp only at hSw
  go_simp
  try with_reducible rfl
 try simp only [List.getElem_toArray, List.getElem_cons_succ, List.getElem_cons_zero, Act.put, List.setIfInBounds_toArray, List.set_cons_zero, List.set_cons_succ]
 refine wpAnyH_ready (rs := [7]) (by decide +kernel) (by simp) ?_
 refine AllReadyH.cons rfl (fun K hK => ?_) AllReadyH.nil
 obtain ⟨C9, hmk⟩ := make9
 go_simp
 clear hmk
 have hb5 := below1 w1 (.cells C9 130)
 have HB5 := Lib.hid hb5
 have HZ5 := Lib.hid (HZ4.out.below hb5)
 have hS5 : S (w1.alloc (.cells C9 130)) := SK.out _ _ (fun _ => False) (.ofBelow hb5) (fun h => h) hHeld
 clear hb5
 generalize World.alloc w1 _ = W5 at *
 refine hK.out _ _ hS5 (fun hHeld => ?_)
 clear hK K hS5
 try simp only [List.getElem_toArray, List.getElem_cons_succ, List.getElem_cons_zero, Act.put, List.setIfInBounds_toArray, List.set_cons_zero, List.set_cons_succ]
 refine wpAnyH_ready (rs := [8]) (by decide +kernel) (by simp) ?_
 refine AllReadyH.cons rfl (fun K hK => ?_) AllReadyH.nil
 go_simp
 refine (plan_many _ (by omega) _).mono ?_
 rintro e w6 ⟨rfl, hw6⟩
 rw [hw6]
 clear hw6 w6
 go_wp2_with fail
 have hS5 := hHeld
 refine hK.out _ _ hS5 (fun hHeld => ?_)
 clear hK K hS5
 try simp only [List.getElem_toArray, List.getElem_cons_succ, List.getElem_cons_zero, Act.put, List.setIfInBounds_toArray, List.set_cons_zero, List.set_cons_succ]
 refine wpAnyH_take (i := 9) (v := .bool true) rfl (by decide +kernel) (by decide +kernel) (by decide +kernel) (fun _ _ _ h => h) (Or.inl ⟨by rfl, ?_⟩) (by assumption) ?_
 ·intro w hSw
  have hSw := hSu _ hSw
  try dsimp only at hSw
  go_simp
 try simp only [List.getElem_toArray, List.getElem_cons_succ, List.getElem_cons_zero, Act.put, List.setIfInBounds_toArray, List.set_cons_zero, List.set_cons_succ]
 refine wpAnyH_take (i := 10) (v := .bool true) rfl (by decide +kernel) (by decide +kernel) (by decide +kernel) (fun _ _ _ h => h) (Or.inl ⟨by rfl, ?_⟩) (by assumption) ?_
 ·intro w hSw
  have hSw := hSu _ hSw
  try dsimp only at hSw
  go_simp
 try simp only [List.getElem_toArray, List.getElem_cons_succ, List.getElem_cons_zero, Act.put, List.setIfInBounds_toArray, List.set_cons_zero, List.set_cons_succ]
 refine wpAnyH_ready (rs := [11]) (by decide +kernel) (by simp) ?_
 refine AllReadyH.cons rfl (fun K hK => ?_) AllReadyH.nil
 have p0 := HZ5.out.at 0 _ rfl
 have p1 := HZ5.out.at 1 _ rfl
 have p2 := HZ5.out.at 2 _ rfl
 have p3 := HZ5.out.at 3 _ rfl
 have p4 := HZ5.out.at 4 _ rfl
 have p5 := HZ5.out.at 5 _ rfl
 have p6 := HZ5.out.at 6 _ rfl
 have p7 := HZ5.out.at 7 _ rfl
 have p8 := HZ5.out.at 8 _ rfl
 have fp := HZ5.out.2.1
 have zp := HZ5.out.2.2
 go_simp
 rw [set9_eq]
 obtain ⟨Y, hY⟩ : ∃ Y, World.setCells W5 (w.heap.size + 1 + 1) 0 [.int .u64 y.sz, .slice q.A1 y.ws.length q.c1, .int .i64 y.most, .slice q.A2 y.es.length q.c2, .slice q.A3 y.ks.length q.c3, .bool y.on, .int .u64 y.root, .int .i64 y.asid, (.slice none 0 0)] = Y := ⟨_, rfl⟩
 have hk9 : Kp (fun k => k = w.heap.size + 1 + 1) W5 Y := hY ▸ (Kp.refl (fun k => k = w.heap.size + 1 + 1) W5).setCells (.inl rfl) 0 [.int .u64 y.sz, .slice q.A1 y.ws.length q.c1, .int .i64 y.most, .slice q.A2 y.es.length q.c2, .slice q.A3 y.ks.length q.c3, .bool y.on, .int .u64 y.root, .int .i64 y.asid, (.slice none 0 0)]
 have hS9 : S Y := SK.out _ _ _ hk9 (by omega) hHeld
 have HK9 := Lib.hid hk9
 rw [hY]
 refine hK.out _ _ hS9 (fun hHeld => ?_)
 clear hK K hS9
 try simp only [List.getElem_toArray, List.getElem_cons_succ, List.getElem_cons_zero, Act.put, List.setIfInBounds_toArray, List.set_cons_zero, List.set_cons_succ]
 clear hk9
 refine wpAnyH_take (i := 12) (v := ?_) rfl (by decide +kernel) (by decide +kernel) (by decide +kernel) (fun _ _ _ h => h) (Or.inl ⟨by rfl, ?_⟩) (by assumption) ?_
 rotate_left
 ·intro w hSw
  have hSw := hSu _ hSw
  try dsimp only at hSw
  go_simp
  try with_reducible rfl
 try simp only [List.getElem_toArray, List.getElem_cons_succ, List.getElem_cons_zero, Act.put, List.setIfInBounds_toArray, List.set_cons_zero, List.set_cons_succ]
 refine wpAnyH_done (by decide +kernel) ?_ _
 have HZ6 : Hid (Box Y (w.heap.size + 1 + 1) [.int .u64 y.sz, .slice q.A1 y.ws.length q.c1, .int .i64 y.most, .slice q.A2 y.es.length q.c2, .slice q.A3 y.ks.length q.c3, .bool y.on, .int .u64 y.root, .int .i64 y.asid, (.slice none 0 0)]) := hY ▸ HZ5.out.put rfl
 clear hY p0 p1 p2 p3 p4 p5 p6 p7 p8 fp zp
 have p0 := HZ6.out.at 0 _ rfl
 have p1 := HZ6.out.at 1 _ rfl
 have p2 := HZ6.out.at 2 _ rfl
 have p3 := HZ6.out.at 3 _ rfl
 have p4 := HZ6.out.at 4 _ rfl
 have p5 := HZ6.out.at 5 _ rfl
 have p6 := HZ6.out.at 6 _ rfl
 have p7 := HZ6.out.at 7 _ rfl
 have p8 := HZ6.out.at 8 _ rfl
 have fp := HZ6.out.2.1
 have zp := HZ6.out.2.2
 go_wp2_with fail
 refine bodyPost_ret (v := .tuple #[yV { y with ps := ([] : List Pl) } { q with A4 := none, c4 := 0 }, .bool true]) (by simp [results, Tryz.results14, go_sem, zp, p0, p1, p2, p3, p4, p5, p6, p7, p8, yV, xV]) rfl ?_
 have hbs : ∀ k, R k → k < w.heap.size := fun k z => HBM.out k (HRB.out k z)
 have hz4 : W3.heap.size ≤ w1.heap.size := HK4.out.size
 have hz5 : w1.heap.size ≤ W5.heap.size := HB5.out.size
 have hk2 : Kp (KB B w0) w w1 := (Kp.ofBelow HB3.out).trans HK4.out (fun i z => .inl ⟨fun b => z.1 (.inl b), z.2⟩)
 have hk5 : Kp (fun k => k = w.heap.size + 1 + 1) w1 Y := (Kp.ofBelow HB5.out).trans HK9.out (fun i z => .inl z)
 have hq : YAt R y q w1 := HQD.out.kept HK4.out (fun k z e => e.1 (.inl (HRB.out k z)))
 have hq2 : YAt R y q Y := hq.kept hk5 (fun k z e => by have := hbs k z; omega)
 have hr8 : RowAt Y (fun _ => False) 4 (.slice none 0 0) (([] : List Pl)).length (rowL pL ([] : List Pl)) := (HR8.out.kept HK4.out (fun k z e => e.1 (.inr (by first | omega | exact z.elim)))).kept hk5 (fun k z e => by first | omega | exact z.elim)
 exact ⟨{ q with A4 := none, c4 := 0 }, _, pv', rfl, (HM4.out.below HB5.out).own (HK9.out.mono (fun k z => .inl (.inr (by omega)))), ((HR4.out.below HB5.out).kept HK9.out (fun k z e => by omega)).mono (fun k _ z => ⟨by omega, .inr z⟩), ⟨hq2.1.mono (fun k _ z => ⟨.inl z, .inl (.inl (HRB.out k z))⟩), hq2.2.1.mono (fun k _ z => ⟨.inl z, .inl (.inl (HRB.out k z))⟩), hq2.2.2.1.mono (fun k _ z => ⟨.inl z, .inl (.inl (HRB.out k z))⟩), hr8.mono (fun k _ z => ⟨.inr (by first | omega | exact z.elim), .inl (.inr (by first | omega | exact z.elim))⟩)⟩, fun k z => .inl (.inl z), hk2.trans hk5 (fun i z => .inr (by omega))⟩
end Go.Proofs.YtbapgngngaaojaaGreat
namespace Go.Proofs.YtbapgngngaaojaaGreat
open Go.RowKit Go.Lib
theorem flushE_va (s : St) (n : Int) (va : Nat) : flushE s.es n true va = (flushVaM s n va).es := rfl
theorem flushK_va (s : St) (n : Int) (va : Nat) : flushK s.ks n true va = (flushVaM s n va).ks := rfl
theorem flushE_as (s : St) (n : Int) (h : 0 ≤ n) (va : Nat) : flushE s.es n false va = (flushAsM s n).es := by
 unfold flushE flushAsM goneE
 rw [decide_eq_false (by omega : ¬ n < 0)]
 simp
theorem flushK_as (s : St) (n : Int) (h : 0 ≤ n) (va : Nat) : flushK s.ks n false va = (flushAsM s n).ks := by
 unfold flushK flushAsM goneM
 rw [decide_eq_false (by omega : ¬ n < 0)]
 simp
theorem flushE_all (s : St) (va : Nat) : flushE s.es (-1) false va = [] := by
 unfold flushE goneE
 simp
theorem flushK_all (s : St) (va : Nat) : flushK s.ks (-1) false va = [] := by
 unfold flushK goneM
 simp
theorem flushAs_neg (s : St) (n : Int) (h : n < 0) : flushAsM s n = s := by
 have h1 : s.es.filter (fun x => !asE n x) = s.es := List.filter_eq_self.2 (fun x _ => by
  have : ((x.asid : Int) == n) = false := by rw [beq_eq_false_iff_ne]; omega
  simp [asE, this])
 have h2 : s.ks.filter (fun x => !asM n x) = s.ks := List.filter_eq_self.2 (fun x _ => by
  have : ((x.asid : Int) == n) = false := by rw [beq_eq_false_iff_ne]; omega
  simp [asM, this])
 unfold flushAsM
 rw [h1, h2]
theorem left_evict (s : St) (n : Int) : leftL false n s.es = dropL s.es n ∧ leftL (!false) n s.ks = s.ks := ⟨rfl, rfl⟩
theorem left_lose (s : St) (n : Int) : leftL true n s.es = s.es ∧ leftL (!true) n s.ks = dropL s.ks n := ⟨rfl, rfl⟩
end Go.Proofs.YtbapgngngaaojaaGreat
namespace Go.Proofs.YtbapgngngaaojaaGreat
open Go.RowKit Go.Lib
set_option maxRecDepth 100000
set_option maxHeartbeats 2000000 in
theorem step_flushneg {x m pt pk : Nat} {pv : Value} {s : St} {B : Nat → Prop} {w0 w : World} (h : MB x m pt pk pv s B w0 w) (sz most root asid : Nat) (on : Bool) (A1 A2 A3 A4 : Option Addr) (n1 n2 n3 n4 c1 c2 c3 c4 : Nat) (sort n : Int) (hn : n < 0) (va wd : Nat) (f l k : Bool) :
  Calls Tryz.prog 14 #[.pointer (some ⟨x, 0, none⟩), xV sz most root asid on (.slice A1 n1 c1) (.slice A2 n2 c2) (.slice A3 n3 c3) (.slice A4 n4 c4), .agg #[.int .i64 7, .int .i64 sort, .int .i64 n, .int .u64 va, .int .u64 wd, .bool f, .bool l, .bool k]] w fun e w' => e = .returned (.tuple #[xV sz most root asid on (.slice A1 n1 c1) (.slice A2 n2 c2) (.slice A3 n3 c3) (.slice A4 n4 c4), .bool true]) ∧ MB x m pt pk pv s B w0 w' ∧ Kp (KB B w0) w w' := by
 have HM := Lib.hid h
 clear h
 unfold xV
 go_enter Tryz.func14, Tryz.ntmps14
 go_upto_region 2 with fail
 generalize hW : World.alloc (World.alloc (World.alloc (World.alloc w _) _) _) _ = W
 have HX : Hid (Box W w.heap.size (xC sz most root asid on (.slice A1 n1 c1) (.slice A2 n2 c2) (.slice A3 n3 c3) (.slice A4 n4 c4))) := by
  rw [← hW]
  exact (((Box.new w (xC sz most root asid on (.slice A1 n1 c1) (.slice A2 n2 c2) (.slice A3 n3 c3) (.slice A4 n4 c4)) 36).below (below1 _ _)).below (below1 _ _)).below (below1 _ _)
 have HO : Hid (Box W (w.heap.size + 1) (oC 7 sort n va wd f l k)) := by
  rw [← hW]
  exact ((Box.new' (w.alloc (.cells (xC sz most root asid on (.slice A1 n1 c1) (.slice A2 n2 c2) (.slice A3 n3 c3) (.slice A4 n4 c4)).toArray 36)) _ (by simp) (oC 7 sort n va wd f l k) 55).below (below1 _ _)).below (below1 _ _)
 have HZ : Hid (Box W (w.heap.size + 2) (xC 0 0 0 0 false (.slice none 0 0) (.slice none 0 0) (.slice none 0 0) (.slice none 0 0))) := by
  rw [← hW]
  exact (Box.new' ((w.alloc (.cells (xC sz most root asid on (.slice A1 n1 c1) (.slice A2 n2 c2) (.slice A3 n3 c3) (.slice A4 n4 c4)).toArray 36)).alloc (.cells (oC 7 sort n va wd f l k).toArray 55)) _ (by simp) (xC 0 0 0 0 false (.slice none 0 0) (.slice none 0 0) (.slice none 0 0) (.slice none 0 0)) 36).below (below1 _ _)
 have HB0 : Hid (Below w.heap.size w W) := by rw [← hW]; exact (((below1 w _).alloc (by simp) _).alloc (by simp; omega) _).alloc (by simp; omega) _
 clear hW
 have HM2 := Lib.hid (HM.out.adds HB0.out)
 have o0 := HO.out.at 0 _ rfl
 have hzz : w.heap.size + 2 < W.heap.size := HZ.out.2.2
 have C1 := Lib.hid (HM2.out.flushAs n)
 rw [flushAs_neg s n hn] at C1
 have hd : decide (n < 0) = true := decide_eq_true hn
 have o2 := HO.out.at 2 _ rfl
 go_wp2_with (go_at_call 16; refine C1.out.mono ?_; rintro e w1 ⟨rfl, hm, hk⟩; have HM3 := Lib.hid hm; have HK3 := Lib.hid hk; have HX3 := Lib.hid (HX.out.mb hk (.inr (by omega))); have HZ3 := Lib.hid (HZ.out.mb hk (.inr (by omega))); have HO3 := Lib.hid (HO.out.mb hk (.inr (by omega))); clear hm hk o2; have o2 := HO3.out.at 2 _ rfl; have BX := HX3.out; have x0 := BX.at 0 _ rfl; have x1 := BX.at 1 _ rfl; have x2 := BX.at 2 _ rfl; have x3 := BX.at 3 _ rfl; have x4 := BX.at 4 _ rfl; have x5 := BX.at 5 _ rfl; have x6 := BX.at 6 _ rfl; have x7 := BX.at 7 _ rfl; have x8 := BX.at 8 _ rfl; have fx := BX.2.1; have zx := BX.2.2; have BP := HZ3.out; have p0 := BP.at 0 _ rfl; have p1 := BP.at 1 _ rfl; have p2 := BP.at 2 _ rfl; have p3 := BP.at 3 _ rfl; have p4 := BP.at 4 _ rfl; have p5 := BP.at 5 _ rfl; have p6 := BP.at 6 _ rfl; have p7 := BP.at 7 _ rfl; have p8 := BP.at 8 _ rfl; have fp := BP.2.1; have zp := BP.2.2; clear BX BP)
 refine bodyPost_ret (v := .tuple #[xV sz most root asid on (.slice A1 n1 c1) (.slice A2 n2 c2) (.slice A3 n3 c3) (.slice A4 n4 c4), .bool true]) (by simp [results, Tryz.results14, go_sem, zx, zp, p0, p1, p2, p3, p4, p5, p6, p7, p8, xV]) rfl ?_
 rw [set9_eq]
 have hk : Kp (fun k => k = w.heap.size ∨ k = w.heap.size + 1 + 1) w1 (w1.setCells (w.heap.size + 1 + 1) 0 (xC sz most root asid on (.slice A1 n1 c1) (.slice A2 n2 c2) (.slice A3 n3 c3) (.slice A4 n4 c4))) := (Kp.refl (fun k => k = w.heap.size ∨ k = w.heap.size + 1 + 1) w1).setCells (.inl (.inr rfl)) 0 _
 have hk2 : Kp (KB B w0) w w1 := (Kp.ofBelow HB0.out).trans HK3.out (fun i y => .inl ⟨fun z => y.1 (.inl z), y.2⟩)
 exact ⟨rfl, (HM3.out.own (hk.mono (fun k y => .inr (by omega)))).less (fun k y => .inl y), hk2.trans hk (fun i y => .inr (by omega))⟩
end Go.Proofs.YtbapgngngaaojaaGreat
