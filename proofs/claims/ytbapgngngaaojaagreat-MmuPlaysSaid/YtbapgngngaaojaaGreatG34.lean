/- The law's step: kind 9 (a register is set), of any machine of the document's. -/
import Derived.Test.YtbapgngngaaojaaGreatG31
set_option linter.unusedSimpArgs false
set_option linter.unusedVariables false
namespace Go.Proofs.YtbapgngngaaojaaGreat
open Go.RowKit Go.Lib
set_option maxRecDepth 100000
set_option maxHeartbeats 2000000 in
theorem stepq_set {x m pt pk : Nat} {pv : Value} {s : St} {B : Nat → Prop} {w0 w : World} (h : MB x m pt pk pv s B w0 w) (y : Yr) (q : Sl) (sort n : Int) (va wd : Nat) (hwd : wd < 18446744073709551616) (f l k : Bool) {R : Nat → Prop} (hR : ∀ k, R k → B k) (hr : YAt R y q w) (hg : wd % 4096 = 0 ∧ wd < 72057594037927936) :
  Calls Tryz.prog 14 #[.pointer (some ⟨x, 0, none⟩), yV y q, .agg #[.int .i64 9, .int .i64 sort, .int .i64 n, .int .u64 va, .int .u64 wd, .bool f, .bool l, .bool k]] w (StepQ x m pt pk pv R B w0 { s with reg := some (wd % 281474976710656, wd / 281474976710656) } { y with on := true, root := wd % 281474976710656, asid := wd / 281474976710656 } true w) := by
 have HQ := Lib.hid hr
 have HRB := Lib.hid hR
 have HM := Lib.hid h
 have HBM : Hid (∀ k, B k → k < w.heap.size) := fun k z => h.mine z
 clear h hr hR
 unfold yV xV
 go_enter Tryz.func14, Tryz.ntmps14
 go_upto_region 2 with fail
 generalize hW : World.alloc (World.alloc (World.alloc (World.alloc w _) _) _) _ = W
 have HX : Hid (Box W w.heap.size (xC y.sz y.most y.root y.asid y.on (.slice q.A1 y.ws.length q.c1) (.slice q.A2 y.es.length q.c2) (.slice q.A3 y.ks.length q.c3) (.slice q.A4 y.ps.length q.c4))) := by
  rw [← hW]
  exact (((Box.new w (xC y.sz y.most y.root y.asid y.on (.slice q.A1 y.ws.length q.c1) (.slice q.A2 y.es.length q.c2) (.slice q.A3 y.ks.length q.c3) (.slice q.A4 y.ps.length q.c4)) 36).below (below1 _ _)).below (below1 _ _)).below (below1 _ _)
 have HO : Hid (Box W (w.heap.size + 1) (oC 9 sort n va wd f l k)) := by
  rw [← hW]
  exact ((Box.new' (w.alloc (.cells (xC y.sz y.most y.root y.asid y.on (.slice q.A1 y.ws.length q.c1) (.slice q.A2 y.es.length q.c2) (.slice q.A3 y.ks.length q.c3) (.slice q.A4 y.ps.length q.c4)).toArray 36)) _ (by simp) (oC 9 sort n va wd f l k) 55).below (below1 _ _)).below (below1 _ _)
 have HZ : Hid (Box W (w.heap.size + 2) (xC 0 0 0 0 false (.slice none 0 0) (.slice none 0 0) (.slice none 0 0) (.slice none 0 0))) := by
  rw [← hW]
  exact (Box.new' ((w.alloc (.cells (xC y.sz y.most y.root y.asid y.on (.slice q.A1 y.ws.length q.c1) (.slice q.A2 y.es.length q.c2) (.slice q.A3 y.ks.length q.c3) (.slice q.A4 y.ps.length q.c4)).toArray 36)).alloc (.cells (oC 9 sort n va wd f l k).toArray 55)) _ (by simp) (xC 0 0 0 0 false (.slice none 0 0) (.slice none 0 0) (.slice none 0 0) (.slice none 0 0)) 36).below (below1 _ _)
 have HB0 : Hid (Below w.heap.size w W) := by rw [← hW]; exact (((below1 w _).alloc (by simp) _).alloc (by simp; omega) _).alloc (by simp; omega) _
 have HH : Hid (Box W (w.heap.size + 3) [.bool f, .bool l, .bool k]) := by
  rw [← hW]
  exact Box.new' (((w.alloc (.cells (xC y.sz y.most y.root y.asid y.on (.slice q.A1 y.ws.length q.c1) (.slice q.A2 y.es.length q.c2) (.slice q.A3 y.ks.length q.c3) (.slice q.A4 y.ps.length q.c4)).toArray 36)).alloc (.cells (oC 9 sort n va wd f l k).toArray 55)).alloc (.cells (xC 0 0 0 0 false (.slice none 0 0) (.slice none 0 0) (.slice none 0 0) (.slice none 0 0)).toArray 36)) _ (by simp) [.bool f, .bool l, .bool k] 41
 clear hW
 have hz9 : w.heap.size + 3 < W.heap.size := HH.out.2.2
 have HM2 := Lib.hid (HM.out.adds HB0.out)
 have HQW := Lib.hid (HQ.out.below HB0.out)
 clear HQ
 have o0 := HO.out.at 0 _ rfl
 have o4 := HO.out.at 4 _ rfl
 have C1 := Lib.hid (HM2.out.set wd hwd)
 have hset : setP s wd = (0, { s with reg := some (wd % 281474976710656, wd / 281474976710656) }) := by
  unfold setP regV
  rw [if_pos hg]
  rfl
 rw [hset] at C1
 dsimp only at C1
 clear hset
 go_upto_region 33 with (go_at_call 9; refine C1.out.mono ?_; rintro e w1 ⟨rfl, hm, hk⟩; have HM3 := Lib.hid hm; have HK3 := Lib.hid hk; have HX3 := Lib.hid (HX.out.mb hk (.inr (by omega))); have HZ3 := Lib.hid (HZ.out.mb hk (.inr (by omega))); have HO3 := Lib.hid (HO.out.mb hk (.inr (by omega))); have HQ3 := Lib.hid (HQW.out.kept hk (fun k y z => z.1 (.inl (HRB.out k y)))); clear hm hk o0)
 clear HX HO HZ HH HQW C1
 have o4' := HO3.out.at 4 _ rfl
 have x0 := HX3.out.at 0 _ rfl
 have x1 := HX3.out.at 1 _ rfl
 have x2 := HX3.out.at 2 _ rfl
 have x3 := HX3.out.at 3 _ rfl
 have x4 := HX3.out.at 4 _ rfl
 have x5 := HX3.out.at 5 _ rfl
 have x6 := HX3.out.at 6 _ rfl
 have x7 := HX3.out.at 7 _ rfl
 have x8 := HX3.out.at 8 _ rfl
 have fx := HX3.out.2.1
 have zx := HX3.out.2.2
 have e1 : ((wd % 281474976710656 : Nat) : Int) = (wd : Int) % 281474976710656 := by omega
 have e2 : ((wd / 281474976710656 : Nat) : Int) = (wd : Int) / 281474976710656 := by omega
 have E1 := Lib.hid e1
 have E2 := Lib.hid e2
 clear e1 e2
 go_region
 all_goals
  generalize hW5 : World.drew _ = W5
  rw [← E1.out, ← E2.out] at *
  have HX5 : Hid (Box W5 w.heap.size (xC y.sz y.most (wd % 281474976710656) (wd / 281474976710656) true (.slice q.A1 y.ws.length q.c1) (.slice q.A2 y.es.length q.c2) (.slice q.A3 y.ks.length q.c3) (.slice q.A4 y.ps.length q.c4))) := by
   rw [← hW5]
   exact (((HX3.out.setAt 5 (by simp [xC]) (.bool true)).setAt 6 (by simp [xC]) (.int .u64 (wd % 281474976710656 : Nat))).setAt 7 (by simp [xC]) (.int .i64 (wd / 281474976710656 : Nat))).below (Below.refl _ _).drew
  have hk5 : Kp (fun k => k = w.heap.size) w1 W5 := by
   rw [← hW5]
   exact ((((Kp.refl (fun k => k = w.heap.size) w1).setCell (p := ⟨w.heap.size, 5, none⟩) (.inl rfl) _).setCell (p := ⟨w.heap.size, 6, none⟩) (.inl rfl) _).setCell (p := ⟨w.heap.size, 7, none⟩) (.inl rfl) _).drew
  have HK5 := Lib.hid hk5
  have HO5 := Lib.hid (HO3.out.kept hk5 (by omega))
  have HZ5 := Lib.hid (HZ3.out.kept hk5 (by omega))
  have hz1 : W.heap.size ≤ w1.heap.size := HK3.out.size
  clear hW5 hk5 x0 x1 x2 x3 x4 x5 x6 x7 x8 fx zx o4'
  have o4 := HO5.out.at 4 _ rfl
  have x0 := HX5.out.at 0 _ rfl
  have x1 := HX5.out.at 1 _ rfl
  have x2 := HX5.out.at 2 _ rfl
  have x3 := HX5.out.at 3 _ rfl
  have x4 := HX5.out.at 4 _ rfl
  have x5 := HX5.out.at 5 _ rfl
  have x6 := HX5.out.at 6 _ rfl
  have x7 := HX5.out.at 7 _ rfl
  have x8 := HX5.out.at 8 _ rfl
  have p0 := HZ5.out.at 0 _ rfl
  have p1 := HZ5.out.at 1 _ rfl
  have p2 := HZ5.out.at 2 _ rfl
  have p3 := HZ5.out.at 3 _ rfl
  have p4 := HZ5.out.at 4 _ rfl
  have p5 := HZ5.out.at 5 _ rfl
  have p6 := HZ5.out.at 6 _ rfl
  have p7 := HZ5.out.at 7 _ rfl
  have p8 := HZ5.out.at 8 _ rfl
  have fp := HZ5.out.2.1
  have zp := HZ5.out.2.2
  have d1 : ((wd : Int) % 4096 == 0) = true := by rw [beq_iff_eq]; omega
  have d2 : ((wd : Int) / 72057594037927936 == 0) = true := by rw [beq_iff_eq]; omega
  go_upto_region 34 with fail
  go_region
  all_goals
   go_wp2_with fail
   refine bodyPost_ret (v := .tuple #[yV { y with on := true, root := wd % 281474976710656, asid := wd / 281474976710656 } q, .bool true]) (by simp [results, Tryz.results14, go_sem, zp, p0, p1, p2, p3, p4, p5, p6, p7, p8, yV, xV]) rfl ?_
   rw [set9_eq]
   generalize hY : World.drew _ = Y
   have hk : Kp (fun k => k = w.heap.size + 1 + 1) W5 Y := by
    rw [← hY]
    exact ((Kp.refl (fun k => k = w.heap.size + 1 + 1) W5).setCells (.inl rfl) 0 _).drew
   have hk3 : Kp (fun k => k = w.heap.size ∨ k = w.heap.size + 1 + 1) w1 Y := (HK5.out.mono (fun k e => .inl e)).trans hk (fun k e => .inl (.inr e))
   have hk2 : Kp (KB B w0) w w1 := (Kp.ofBelow HB0.out).trans HK3.out (fun i y => .inl ⟨fun z => y.1 (.inl z), y.2⟩)
   exact ⟨q, _, rfl, HM3.out.own (hk3.mono (fun k y => .inr (by omega))), (HQ3.out.kept hk3 (fun k z e => by have := HBM.out k (HRB.out k z); omega)).mono (fun k _ z => ⟨.inl z, .inl (HRB.out k z)⟩), fun k y => .inl y, hk2.trans hk3 (fun i y => .inr (by omega))⟩
set_option maxHeartbeats 2000000 in
theorem stepq_setbad {x m pt pk : Nat} {pv : Value} {s : St} {B : Nat → Prop} {w0 w : World} (h : MB x m pt pk pv s B w0 w) (y : Yr) (q : Sl) (sort n : Int) (va wd : Nat) (hwd : wd < 18446744073709551616) (f l k : Bool) {R : Nat → Prop} (hR : ∀ k, R k → B k) (hr : YAt R y q w) (hg : ¬ (wd % 4096 = 0 ∧ wd < 72057594037927936)) :
  Calls Tryz.prog 14 #[.pointer (some ⟨x, 0, none⟩), yV y q, .agg #[.int .i64 9, .int .i64 sort, .int .i64 n, .int .u64 va, .int .u64 wd, .bool f, .bool l, .bool k]] w (StepQ x m pt pk pv R B w0 s y true w) := by
 have HQ := Lib.hid hr
 have HRB := Lib.hid hR
 have HM := Lib.hid h
 have HBM : Hid (∀ k, B k → k < w.heap.size) := fun k z => h.mine z
 clear h hr hR
 unfold yV xV
 go_enter Tryz.func14, Tryz.ntmps14
 go_upto_region 2 with fail
 generalize hW : World.alloc (World.alloc (World.alloc (World.alloc w _) _) _) _ = W
 have HX : Hid (Box W w.heap.size (xC y.sz y.most y.root y.asid y.on (.slice q.A1 y.ws.length q.c1) (.slice q.A2 y.es.length q.c2) (.slice q.A3 y.ks.length q.c3) (.slice q.A4 y.ps.length q.c4))) := by
  rw [← hW]
  exact (((Box.new w (xC y.sz y.most y.root y.asid y.on (.slice q.A1 y.ws.length q.c1) (.slice q.A2 y.es.length q.c2) (.slice q.A3 y.ks.length q.c3) (.slice q.A4 y.ps.length q.c4)) 36).below (below1 _ _)).below (below1 _ _)).below (below1 _ _)
 have HO : Hid (Box W (w.heap.size + 1) (oC 9 sort n va wd f l k)) := by
  rw [← hW]
  exact ((Box.new' (w.alloc (.cells (xC y.sz y.most y.root y.asid y.on (.slice q.A1 y.ws.length q.c1) (.slice q.A2 y.es.length q.c2) (.slice q.A3 y.ks.length q.c3) (.slice q.A4 y.ps.length q.c4)).toArray 36)) _ (by simp) (oC 9 sort n va wd f l k) 55).below (below1 _ _)).below (below1 _ _)
 have HZ : Hid (Box W (w.heap.size + 2) (xC 0 0 0 0 false (.slice none 0 0) (.slice none 0 0) (.slice none 0 0) (.slice none 0 0))) := by
  rw [← hW]
  exact (Box.new' ((w.alloc (.cells (xC y.sz y.most y.root y.asid y.on (.slice q.A1 y.ws.length q.c1) (.slice q.A2 y.es.length q.c2) (.slice q.A3 y.ks.length q.c3) (.slice q.A4 y.ps.length q.c4)).toArray 36)).alloc (.cells (oC 9 sort n va wd f l k).toArray 55)) _ (by simp) (xC 0 0 0 0 false (.slice none 0 0) (.slice none 0 0) (.slice none 0 0) (.slice none 0 0)) 36).below (below1 _ _)
 have HB0 : Hid (Below w.heap.size w W) := by rw [← hW]; exact (((below1 w _).alloc (by simp) _).alloc (by simp; omega) _).alloc (by simp; omega) _
 have HH : Hid (Box W (w.heap.size + 3) [.bool f, .bool l, .bool k]) := by
  rw [← hW]
  exact Box.new' (((w.alloc (.cells (xC y.sz y.most y.root y.asid y.on (.slice q.A1 y.ws.length q.c1) (.slice q.A2 y.es.length q.c2) (.slice q.A3 y.ks.length q.c3) (.slice q.A4 y.ps.length q.c4)).toArray 36)).alloc (.cells (oC 9 sort n va wd f l k).toArray 55)).alloc (.cells (xC 0 0 0 0 false (.slice none 0 0) (.slice none 0 0) (.slice none 0 0) (.slice none 0 0)).toArray 36)) _ (by simp) [.bool f, .bool l, .bool k] 41
 clear hW
 have hz9 : w.heap.size + 3 < W.heap.size := HH.out.2.2
 have HM2 := Lib.hid (HM.out.adds HB0.out)
 have HQW := Lib.hid (HQ.out.below HB0.out)
 clear HQ
 have o0 := HO.out.at 0 _ rfl
 have o4 := HO.out.at 4 _ rfl
 have C1 := Lib.hid (HM2.out.set wd hwd)
 have hset : setP s wd = (10, s) := by
  unfold setP regV
  rw [if_neg hg]
  rfl
 rw [hset] at C1
 dsimp only at C1
 clear hset
 go_upto_region 32 with (go_at_call 9; refine C1.out.mono ?_; rintro e w1 ⟨rfl, hm, hk⟩; have HM3 := Lib.hid hm; have HK3 := Lib.hid hk; have HX3 := Lib.hid (HX.out.mb hk (.inr (by omega))); have HZ3 := Lib.hid (HZ.out.mb hk (.inr (by omega))); have HO3 := Lib.hid (HO.out.mb hk (.inr (by omega))); have HQ3 := Lib.hid (HQW.out.kept hk (fun k y z => z.1 (.inl (HRB.out k y)))); clear hm hk o0)
 clear HX HO HZ HH HQW C1 o4
 have hz1 : W.heap.size ≤ w1.heap.size := HK3.out.size
 have o4 := HO3.out.at 4 _ rfl
 have x0 := HX3.out.at 0 _ rfl
 have x1 := HX3.out.at 1 _ rfl
 have x2 := HX3.out.at 2 _ rfl
 have x3 := HX3.out.at 3 _ rfl
 have x4 := HX3.out.at 4 _ rfl
 have x5 := HX3.out.at 5 _ rfl
 have x6 := HX3.out.at 6 _ rfl
 have x7 := HX3.out.at 7 _ rfl
 have x8 := HX3.out.at 8 _ rfl
 have p0 := HZ3.out.at 0 _ rfl
 have p1 := HZ3.out.at 1 _ rfl
 have p2 := HZ3.out.at 2 _ rfl
 have p3 := HZ3.out.at 3 _ rfl
 have p4 := HZ3.out.at 4 _ rfl
 have p5 := HZ3.out.at 5 _ rfl
 have p6 := HZ3.out.at 6 _ rfl
 have p7 := HZ3.out.at 7 _ rfl
 have p8 := HZ3.out.at 8 _ rfl
 have fp := HZ3.out.2.1
 have zp := HZ3.out.2.2
 have hcase : ((wd : Int) % 4096 != 0) = true ∨ (((wd : Int) % 4096 != 0) = false ∧ ((wd : Int) / 72057594037927936 != 0) = true) := by
  by_cases h1 : wd % 4096 = 0
  ·right
   have h2 : ¬ wd < 72057594037927936 := fun h => hg ⟨h1, h⟩
   exact ⟨by rw [bne_eq_false_iff_eq]; omega, by rw [bne_iff_ne]; omega⟩
  ·left
   rw [bne_iff_ne]; omega
 have HK5 : Hid (Kp (fun k => k = w.heap.size) w1 w1) := Kp.refl _ _
 clear hg hwd
 rcases hcase with d1 | ⟨d1, d2⟩
 all_goals
  go_region
  all_goals
   go_wp2_with fail
   refine bodyPost_ret (v := .tuple #[yV y q, .bool true]) (by simp [results, Tryz.results14, go_sem, zp, p0, p1, p2, p3, p4, p5, p6, p7, p8, yV, xV]) rfl ?_
   rw [set9_eq]
   generalize hY : World.drew _ = Y
   have hk : Kp (fun k => k = w.heap.size + 1 + 1) w1 Y := by
    rw [← hY]
    exact ((Kp.refl (fun k => k = w.heap.size + 1 + 1) w1).setCells (.inl rfl) 0 _).drew
   have hk3 : Kp (fun k => k = w.heap.size ∨ k = w.heap.size + 1 + 1) w1 Y := (HK5.out.mono (fun k e => .inl e)).trans hk (fun k e => .inl (.inr e))
   have hk2 : Kp (KB B w0) w w1 := (Kp.ofBelow HB0.out).trans HK3.out (fun i y => .inl ⟨fun z => y.1 (.inl z), y.2⟩)
   exact ⟨q, _, rfl, HM3.out.own (hk3.mono (fun k y => .inr (by omega))), (HQ3.out.kept hk3 (fun k z e => by have := HBM.out k (HRB.out k z); omega)).mono (fun k _ z => ⟨.inl z, .inl (HRB.out k z)⟩), fun k y => .inl y, hk2.trans hk3 (fun i y => .inr (by omega))⟩
end Go.Proofs.YtbapgngngaaojaaGreat
