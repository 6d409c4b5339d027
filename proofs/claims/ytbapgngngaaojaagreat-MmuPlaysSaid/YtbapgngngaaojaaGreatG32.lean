/- The law's step: kind 1 (an access) and kind 12 (the kernel writes a word), of any machine of the document's. The law's step: kind 3 (a word of memory is written), of any machine of the document's. -/
import Derived.Test.YtbapgngngaaojaaGreatG31
set_option linter.unusedSimpArgs false
set_option linter.unusedVariables false
namespace Go.Proofs.YtbapgngngaaojaaGreat
open Go.RowKit Go.Lib
set_option maxRecDepth 100000
theorem eqA_RF2 (d : Nat) (w : World) (x0 y0 : Int) (x1 y1 : Int) :
  (Op.equalIn (d + 2) 46 (.agg #[.int .i64 x0, .int .i64 x1]) (.agg #[.int .i64 y0, .int .i64 y1])).run Tryz.prog w = .ok (x0 == y0 && (x1 == y1)) w := by
 refine eqA_of Tryz.underlying46 (by kernel_rfl) ?_
 refine eqf_cons (by rfl) (by go_simp; rfl) (by go_simp; rfl) (by go_simp) ?_
 exact eqf_last (by rfl) (by go_simp; rfl) (by go_simp; rfl) (by go_simp)
attribute [local go_sem high] eqA_RF2
set_option maxHeartbeats 2000000 in
theorem stepq_write {x m pt pk : Nat} {pv : Value} {s s2 : St} {B : Nat → Prop} {w0 w : World} (h : MB x m pt pk pv s B w0 w) (y y2 : Yr) (q : Sl) (sort n : Int) (va wd : Nat) (f l k : Bool) {R : Nat → Prop} (hR : ∀ k, R k → B k) (hr : YAt R y q w) (r1 F1 : Nat)
  (ha : ∀ u, MB x m pt pk pv s (fun k => B k ∨ (w.heap.size ≤ k ∧ k < u.heap.size)) w0 u → Below w.heap.size w u → Calls Tryz.prog 49 #[.pointer (some ⟨x, 0, none⟩), .int .u64 va, .int .u64 wd] u fun e w' => e = .returned (.int .i64 r1) ∧ MB x m pt pk pv s2 (fun k => B k ∨ (w.heap.size ≤ k ∧ k < u.heap.size)) w0 w' ∧ Kp (KB (fun k => B k ∨ (w.heap.size ≤ k ∧ k < u.heap.size)) w0) u w')
  (hc : ∀ u, (∀ k, R k → k < u.heap.size) → YAt R y q u → Calls Tryz.prog 50 #[yV y q, .int .u64 va, .int .u64 wd] u (YP R y2 (fun v => .tuple #[v, .int .i64 F1]) u)) :
  Calls Tryz.prog 14 #[.pointer (some ⟨x, 0, none⟩), yV y q, .agg #[.int .i64 12, .int .i64 sort, .int .i64 n, .int .u64 va, .int .u64 wd, .bool f, .bool l, .bool k]] w (StepQ x m pt pk pv R B w0 s2 y2 ((r1 : Int) == F1) w) := by
 have HC := Lib.hid hc
 have HA := Lib.hid ha
 clear hc ha
 unfold yV xV at HC
 have HQ := Lib.hid hr
 have HRB := Lib.hid hR
 have HM := Lib.hid h
 have HBM : Hid (∀ k, B k → k < w.heap.size) := fun k z => h.mine z
 clear h hr hR
 unfold yV xV
 go_enter Tryz.func14, Tryz.ntmps14
 go_upto_region 2 with fail
 generalize hW : World.alloc (World.alloc (World.alloc (World.alloc w _) _) _) _ = W
 have HX : Hid (Box W w.heap.size (xC y.sz y.most y.root y.asid y.on (.slice q.A1 y.ws.length q.c1) (.slice q.A2 y.es.length q.c2) (.slice q.A3 y.ks.length q.c3) (.slice q.A4 y.ps.length q.c4))) := by
  rw [← hW]
  exact (((Box.new w (xC y.sz y.most y.root y.asid y.on (.slice q.A1 y.ws.length q.c1) (.slice q.A2 y.es.length q.c2) (.slice q.A3 y.ks.length q.c3) (.slice q.A4 y.ps.length q.c4)) 36).below (below1 _ _)).below (below1 _ _)).below (below1 _ _)
 have HO : Hid (Box W (w.heap.size + 1) (oC 12 sort n va wd f l k)) := by
  rw [← hW]
  exact ((Box.new' (w.alloc (.cells (xC y.sz y.most y.root y.asid y.on (.slice q.A1 y.ws.length q.c1) (.slice q.A2 y.es.length q.c2) (.slice q.A3 y.ks.length q.c3) (.slice q.A4 y.ps.length q.c4)).toArray 36)) _ (by simp) (oC 12 sort n va wd f l k) 55).below (below1 _ _)).below (below1 _ _)
 have HZ : Hid (Box W (w.heap.size + 2) (xC 0 0 0 0 false (.slice none 0 0) (.slice none 0 0) (.slice none 0 0) (.slice none 0 0))) := by
  rw [← hW]
  exact (Box.new' ((w.alloc (.cells (xC y.sz y.most y.root y.asid y.on (.slice q.A1 y.ws.length q.c1) (.slice q.A2 y.es.length q.c2) (.slice q.A3 y.ks.length q.c3) (.slice q.A4 y.ps.length q.c4)).toArray 36)).alloc (.cells (oC 12 sort n va wd f l k).toArray 55)) _ (by simp) (xC 0 0 0 0 false (.slice none 0 0) (.slice none 0 0) (.slice none 0 0) (.slice none 0 0)) 36).below (below1 _ _)
 have HB0 : Hid (Below w.heap.size w W) := by rw [← hW]; exact (((below1 w _).alloc (by simp) _).alloc (by simp; omega) _).alloc (by simp; omega) _
 have HH : Hid (Box W (w.heap.size + 3) [.bool f, .bool l, .bool k]) := by
  rw [← hW]
  exact Box.new' (((w.alloc (.cells (xC y.sz y.most y.root y.asid y.on (.slice q.A1 y.ws.length q.c1) (.slice q.A2 y.es.length q.c2) (.slice q.A3 y.ks.length q.c3) (.slice q.A4 y.ps.length q.c4)).toArray 36)).alloc (.cells (oC 12 sort n va wd f l k).toArray 55)).alloc (.cells (xC 0 0 0 0 false (.slice none 0 0) (.slice none 0 0) (.slice none 0 0) (.slice none 0 0)).toArray 36)) _ (by simp) [.bool f, .bool l, .bool k] 41
 clear hW
 have hz9 : w.heap.size + 3 < W.heap.size := HH.out.2.2
 have HM2 := Lib.hid (HM.out.adds HB0.out)
 have HQW := Lib.hid (HQ.out.below HB0.out)
 clear HQ
 have o0 := HO.out.at 0 _ rfl
 have o3 := HO.out.at 3 _ rfl
 have o4 := HO.out.at 4 _ rfl
 have C1 := Lib.hid (HA.out _ HM2.out HB0.out)
 go_upto_region 46 with (go_at_call 49; refine C1.out.mono ?_; rintro e w1 ⟨rfl, hm, hk⟩; have HM3 := Lib.hid hm; have HK3 := Lib.hid hk; have HX3 := Lib.hid (HX.out.mb hk (.inr (by omega))); have HZ3 := Lib.hid (HZ.out.mb hk (.inr (by omega))); have HO3 := Lib.hid (HO.out.mb hk (.inr (by omega))); have HQ3 := Lib.hid (HQW.out.kept hk (fun k y z => z.1 (.inl (HRB.out k y)))); clear hm hk o0)
 clear HX HO HZ HH HQW C1 o3 o4
 have x0 := HX3.out.at 0 _ rfl
 have x1 := HX3.out.at 1 _ rfl
 have x2 := HX3.out.at 2 _ rfl
 have x3 := HX3.out.at 3 _ rfl
 have x4 := HX3.out.at 4 _ rfl
 have x5 := HX3.out.at 5 _ rfl
 have x6 := HX3.out.at 6 _ rfl
 have x7 := HX3.out.at 7 _ rfl
 have x8 := HX3.out.at 8 _ rfl
 have o3 := HO3.out.at 3 _ rfl
 have o4 := HO3.out.at 4 _ rfl
 go_upto_region 47 with (go_at_call 50; refine (HC.out _ (fun k y => HM3.out.mine (.inl (HRB.out k y))) HQ3.out).mono ?_; rintro e w2 ⟨q2, rfl, hg, hb⟩; dsimp only [yV, xV]; have HG := Lib.hid hg; have HB2 := Lib.hid hb; have HZ4 := Lib.hid (HZ3.out.below hb); clear hg hb)
 have hz1 : W.heap.size ≤ w1.heap.size := HK3.out.size
 have hz2 : w1.heap.size ≤ w2.heap.size := HB2.out.size
 have HY3 : Hid (Box (w2.alloc (.cells ((xC y2.sz y2.most y2.root y2.asid y2.on (.slice q2.A1 y2.ws.length q2.c1) (.slice q2.A2 y2.es.length q2.c2) (.slice q2.A3 y2.ks.length q2.c3) (.slice q2.A4 y2.ps.length q2.c4))).toArray 36)) w2.heap.size (xC y2.sz y2.most y2.root y2.asid y2.on (.slice q2.A1 y2.ws.length q2.c1) (.slice q2.A2 y2.es.length q2.c2) (.slice q2.A3 y2.ks.length q2.c3) (.slice q2.A4 y2.ps.length q2.c4))) := Box.new w2 (xC y2.sz y2.most y2.root y2.asid y2.on (.slice q2.A1 y2.ws.length q2.c1) (.slice q2.A2 y2.es.length q2.c2) (.slice q2.A3 y2.ks.length q2.c3) (.slice q2.A4 y2.ps.length q2.c4)) 36
 have hb3 : Below w2.heap.size w2 (w2.alloc (.cells ((xC y2.sz y2.most y2.root y2.asid y2.on (.slice q2.A1 y2.ws.length q2.c1) (.slice q2.A2 y2.es.length q2.c2) (.slice q2.A3 y2.ks.length q2.c3) (.slice q2.A4 y2.ps.length q2.c4))).toArray 36)) := below1 _ _
 have HB23 := Lib.hid (HB2.out.trans (hb3.mono hz2))
 have HG3 := Lib.hid (HG.out.below hb3)
 have HZ5 := Lib.hid (HZ4.out.below hb3)
 clear hb3 HG HZ4 HZ3 HX3 HO3 HQ3 HB2 HC x0 x1 x2 x3 x4 x5 x6 x7 x8 o3 o4
 have hne : ¬ w2.heap.size = w.heap.size + 1 + 1 := by omega
 generalize hg2 : w2.heap.size = g2 at *
 dsimp only [xC, List.toArray] at HY3 HB23 HG3 HZ5
 generalize World.alloc w2 _ = w3 at *
 have b0 := HY3.out.at 0 _ rfl
 have b1 := HY3.out.at 1 _ rfl
 have b2 := HY3.out.at 2 _ rfl
 have b3 := HY3.out.at 3 _ rfl
 have b4 := HY3.out.at 4 _ rfl
 have b5 := HY3.out.at 5 _ rfl
 have b6 := HY3.out.at 6 _ rfl
 have b7 := HY3.out.at 7 _ rfl
 have b8 := HY3.out.at 8 _ rfl
 have p0 := HZ5.out.at 0 _ rfl
 have p1 := HZ5.out.at 1 _ rfl
 have p2 := HZ5.out.at 2 _ rfl
 have p3 := HZ5.out.at 3 _ rfl
 have p4 := HZ5.out.at 4 _ rfl
 have p5 := HZ5.out.at 5 _ rfl
 have p6 := HZ5.out.at 6 _ rfl
 have p7 := HZ5.out.at 7 _ rfl
 have p8 := HZ5.out.at 8 _ rfl
 have fp := HZ5.out.2.1
 have zp := HZ5.out.2.2
 go_wp2
 refine bodyPost_ret (v := .tuple #[yV y2 q2, .bool ((r1 : Int) == F1)]) (by simp [results, Tryz.results14, go_sem, zp, p0, p1, p2, p3, p4, p5, p6, p7, p8, yV, xV]) rfl ?_
 rw [set9_eq]
 have hk : Kp (fun k => k = w.heap.size + 1 + 1) w3 (w3.setCells (w.heap.size + 1 + 1) 0 (xC y2.sz y2.most y2.root y2.asid y2.on (.slice q2.A1 y2.ws.length q2.c1) (.slice q2.A2 y2.es.length q2.c2) (.slice q2.A3 y2.ks.length q2.c3) (.slice q2.A4 y2.ps.length q2.c4))) := (Kp.refl (fun k => k = w.heap.size + 1 + 1) w3).setCells (.inl rfl) 0 _
 have hk2 : Kp (KB B w0) w w1 := (Kp.ofBelow HB0.out).trans HK3.out (fun i y => .inl ⟨fun z => y.1 (.inl z), y.2⟩)
 exact ⟨q2, _, rfl, (HM3.out.adds HB23.out).own (hk.mono (fun k y => .inl (.inr (by omega)))), HG3.out.fin hk (fun k e => by omega) HRB.out HBM.out (by omega), fun k y => .inl (.inl y), (hk2.below HB23.out).trans hk (fun i y => .inr (by omega))⟩
set_option maxHeartbeats 2000000 in
theorem stepq_access {x m pt pk : Nat} {pv : Value} {s : St} {B : Nat → Prop} {w0 w : World} (h : MB x m pt pk pv s B w0 w) (y y2 : Yr) (q : Sl) (sort n : Int) (va wd : Nat) (hva : va < 18446744073709551616) (hwd : wd < 18446744073709551616) (f l k : Bool) {R : Nat → Prop} (hR : ∀ k, R k → B k) (hr : YAt R y q w) (F1 F2 V : Nat)
  (hc : ∀ u, (∀ k, R k → k < u.heap.size) → YAt R y q u → Calls Tryz.prog 11 #[yV y q, .int .i64 sort, .int .u64 va, .int .u64 wd, .agg #[.bool f, .bool l, .bool k]] u (YP R y2 (fun v => .tuple #[v, .agg #[.int .i64 F1, .int .i64 F2], .int .u64 V]) u)) :
  Calls Tryz.prog 14 #[.pointer (some ⟨x, 0, none⟩), yV y q, .agg #[.int .i64 1, .int .i64 sort, .int .i64 n, .int .u64 va, .int .u64 wd, .bool f, .bool l, .bool k]] w (StepQ x m pt pk pv R B w0 (accessM s sort va wd f l k).2 y2 (((((accessM s sort va wd f l k).1.1.1 : Nat) : Int) == F1 && ((((accessM s sort va wd f l k).1.1.2 : Nat) : Int) == F2)) && ((((accessM s sort va wd f l k).1.2 : Nat) : Int) == V)) w) := by
 have HC := Lib.hid hc
 clear hc
 unfold yV xV at HC
 have HQ := Lib.hid hr
 have HRB := Lib.hid hR
 have HM := Lib.hid h
 have HBM : Hid (∀ k, B k → k < w.heap.size) := fun k z => h.mine z
 clear h hr hR
 unfold yV xV
 go_enter Tryz.func14, Tryz.ntmps14
 go_upto_region 2 with fail
 generalize hW : World.alloc (World.alloc (World.alloc (World.alloc w _) _) _) _ = W
 have HX : Hid (Box W w.heap.size (xC y.sz y.most y.root y.asid y.on (.slice q.A1 y.ws.length q.c1) (.slice q.A2 y.es.length q.c2) (.slice q.A3 y.ks.length q.c3) (.slice q.A4 y.ps.length q.c4))) := by
  rw [← hW]
  exact (((Box.new w (xC y.sz y.most y.root y.asid y.on (.slice q.A1 y.ws.length q.c1) (.slice q.A2 y.es.length q.c2) (.slice q.A3 y.ks.length q.c3) (.slice q.A4 y.ps.length q.c4)) 36).below (below1 _ _)).below (below1 _ _)).below (below1 _ _)
 have HO : Hid (Box W (w.heap.size + 1) (oC 1 sort n va wd f l k)) := by
  rw [← hW]
  exact ((Box.new' (w.alloc (.cells (xC y.sz y.most y.root y.asid y.on (.slice q.A1 y.ws.length q.c1) (.slice q.A2 y.es.length q.c2) (.slice q.A3 y.ks.length q.c3) (.slice q.A4 y.ps.length q.c4)).toArray 36)) _ (by simp) (oC 1 sort n va wd f l k) 55).below (below1 _ _)).below (below1 _ _)
 have HZ : Hid (Box W (w.heap.size + 2) (xC 0 0 0 0 false (.slice none 0 0) (.slice none 0 0) (.slice none 0 0) (.slice none 0 0))) := by
  rw [← hW]
  exact (Box.new' ((w.alloc (.cells (xC y.sz y.most y.root y.asid y.on (.slice q.A1 y.ws.length q.c1) (.slice q.A2 y.es.length q.c2) (.slice q.A3 y.ks.length q.c3) (.slice q.A4 y.ps.length q.c4)).toArray 36)).alloc (.cells (oC 1 sort n va wd f l k).toArray 55)) _ (by simp) (xC 0 0 0 0 false (.slice none 0 0) (.slice none 0 0) (.slice none 0 0) (.slice none 0 0)) 36).below (below1 _ _)
 have HB0 : Hid (Below w.heap.size w W) := by rw [← hW]; exact (((below1 w _).alloc (by simp) _).alloc (by simp; omega) _).alloc (by simp; omega) _
 have HH : Hid (Box W (w.heap.size + 3) [.bool f, .bool l, .bool k]) := by
  rw [← hW]
  exact Box.new' (((w.alloc (.cells (xC y.sz y.most y.root y.asid y.on (.slice q.A1 y.ws.length q.c1) (.slice q.A2 y.es.length q.c2) (.slice q.A3 y.ks.length q.c3) (.slice q.A4 y.ps.length q.c4)).toArray 36)).alloc (.cells (oC 1 sort n va wd f l k).toArray 55)).alloc (.cells (xC 0 0 0 0 false (.slice none 0 0) (.slice none 0 0) (.slice none 0 0) (.slice none 0 0)).toArray 36)) _ (by simp) [.bool f, .bool l, .bool k] 41
 clear hW
 have hz9 : w.heap.size + 3 < W.heap.size := HH.out.2.2
 have HM2 := Lib.hid (HM.out.adds HB0.out)
 have HQW := Lib.hid (HQ.out.below HB0.out)
 clear HQ
 have o0 := HO.out.at 0 _ rfl
 have o1 := HO.out.at 1 _ rfl
 have o3 := HO.out.at 3 _ rfl
 have o4 := HO.out.at 4 _ rfl
 have o5 := HO.out.at 5 _ rfl
 have o6 := HO.out.at 6 _ rfl
 have o7 := HO.out.at 7 _ rfl
 have C1 := Lib.hid (HM2.out.access sort va wd hva hwd f l k)
 generalize accessM s sort va wd f l k = R at *
 obtain ⟨⟨⟨r1, r2⟩, r3⟩, s2⟩ := R
 dsimp only at *
 go_upto_region 5 with (go_at_call 21; refine C1.out.mono ?_; rintro e w1 ⟨rfl, hm, hk⟩; have HM3 := Lib.hid hm; have HK3 := Lib.hid hk; have HX3 := Lib.hid (HX.out.mb hk (.inr (by omega))); have HZ3 := Lib.hid (HZ.out.mb hk (.inr (by omega))); have HO3 := Lib.hid (HO.out.mb hk (.inr (by omega))); have HH3 := Lib.hid (HH.out.mb hk (.inr (by omega))); have HQ3 := Lib.hid (HQW.out.kept hk (fun k y z => z.1 (.inl (HRB.out k y)))); clear hm hk o0)
 clear HX HO HZ HH HQW C1 o1 o3 o4 o5 o6 o7
 have hz1 : W.heap.size ≤ w1.heap.size := HK3.out.size
 have HR : Hid (Box (w1.alloc (.cells #[.int .i64 r1, .int .i64 r2, .int .u64 r3] 69)) w1.heap.size [.int .i64 r1, .int .i64 r2, .int .u64 r3]) := Box.new w1 [.int .i64 r1, .int .i64 r2, .int .u64 r3] 69
 have hba : Below w1.heap.size w1 (w1.alloc (.cells #[.int .i64 r1, .int .i64 r2, .int .u64 r3] 69)) := below1 _ _
 have HBA := Lib.hid hba
 have HX4 := Lib.hid (HX3.out.below hba)
 have HZ3' := Lib.hid (HZ3.out.below hba)
 have HO4 := Lib.hid (HO3.out.below hba)
 have HH4 := Lib.hid (HH3.out.below hba)
 have HQ4 := Lib.hid (HQ3.out.below hba)
 clear hba HX3 HZ3 HO3 HH3 HQ3
 generalize World.alloc w1 _ = u1 at *
 have hz4 : w1.heap.size < u1.heap.size := HR.out.2.2
 have HBU : Hid (∀ k, R k → k < u1.heap.size) := fun k z => by have := HBM.out k (HRB.out k z); omega
 have x0 := HX4.out.at 0 _ rfl
 have x1 := HX4.out.at 1 _ rfl
 have x2 := HX4.out.at 2 _ rfl
 have x3 := HX4.out.at 3 _ rfl
 have x4 := HX4.out.at 4 _ rfl
 have x5 := HX4.out.at 5 _ rfl
 have x6 := HX4.out.at 6 _ rfl
 have x7 := HX4.out.at 7 _ rfl
 have x8 := HX4.out.at 8 _ rfl
 have o1 := HO4.out.at 1 _ rfl
 have o3 := HO4.out.at 3 _ rfl
 have o4 := HO4.out.at 4 _ rfl
 have t0 := HH4.out.at 0 _ rfl
 have t1 := HH4.out.at 1 _ rfl
 have t2 := HH4.out.at 2 _ rfl
 go_upto_region 6 with (go_at_call 11; refine (HC.out _ HBU.out HQ4.out).mono ?_; rintro e w2 ⟨q2, rfl, hg, hb⟩; dsimp only [yV, xV]; have HG := Lib.hid hg; have HB2 := Lib.hid hb; have HZ4 := Lib.hid (HZ3'.out.below hb); have HR2 := Lib.hid (HR.out.below hb); clear hg hb)
 have hz2 : u1.heap.size ≤ w2.heap.size := HB2.out.size
 have HY3 : Hid (Box ((w2.alloc (.cells ((xC y2.sz y2.most y2.root y2.asid y2.on (.slice q2.A1 y2.ws.length q2.c1) (.slice q2.A2 y2.es.length q2.c2) (.slice q2.A3 y2.ks.length q2.c3) (.slice q2.A4 y2.ps.length q2.c4))).toArray 36)).alloc (.cells #[.int .i64 F1, .int .i64 F2] 46)) w2.heap.size (xC y2.sz y2.most y2.root y2.asid y2.on (.slice q2.A1 y2.ws.length q2.c1) (.slice q2.A2 y2.es.length q2.c2) (.slice q2.A3 y2.ks.length q2.c3) (.slice q2.A4 y2.ps.length q2.c4))) := (Box.new w2 (xC y2.sz y2.most y2.root y2.asid y2.on (.slice q2.A1 y2.ws.length q2.c1) (.slice q2.A2 y2.es.length q2.c2) (.slice q2.A3 y2.ks.length q2.c3) (.slice q2.A4 y2.ps.length q2.c4)) 36).below (below1 _ _)
 have HF3 : Hid (Box ((w2.alloc (.cells ((xC y2.sz y2.most y2.root y2.asid y2.on (.slice q2.A1 y2.ws.length q2.c1) (.slice q2.A2 y2.es.length q2.c2) (.slice q2.A3 y2.ks.length q2.c3) (.slice q2.A4 y2.ps.length q2.c4))).toArray 36)).alloc (.cells #[.int .i64 F1, .int .i64 F2] 46)) (w2.heap.size + 1) [.int .i64 F1, .int .i64 F2]) := Box.new' (w2.alloc (.cells ((xC y2.sz y2.most y2.root y2.asid y2.on (.slice q2.A1 y2.ws.length q2.c1) (.slice q2.A2 y2.es.length q2.c2) (.slice q2.A3 y2.ks.length q2.c3) (.slice q2.A4 y2.ps.length q2.c4))).toArray 36)) _ (by simp) [.int .i64 F1, .int .i64 F2] 46
 have hb3 : Below w2.heap.size w2 ((w2.alloc (.cells ((xC y2.sz y2.most y2.root y2.asid y2.on (.slice q2.A1 y2.ws.length q2.c1) (.slice q2.A2 y2.es.length q2.c2) (.slice q2.A3 y2.ks.length q2.c3) (.slice q2.A4 y2.ps.length q2.c4))).toArray 36)).alloc (.cells #[.int .i64 F1, .int .i64 F2] 46)) := (below1 w2 _).alloc (by simp) _
 have HB23 := Lib.hid (HBA.out.trans ((HB2.out.trans (hb3.mono hz2)).mono HBA.out.size))
 have HG3 := Lib.hid ((HG.out.below hb3).mono (ok2 := fun k => R k ∨ w1.heap.size ≤ k) (fun k _ z => z.imp id (fun z => by omega)))
 have HZ5 := Lib.hid (HZ4.out.below hb3)
 have HR5 := Lib.hid (HR2.out.below hb3)
 clear hb3 HG HZ4 HZ3' HX4 HO4 HH4 HQ4 HB2 HC HR HR2 HBA x0 x1 x2 x3 x4 x5 x6 x7 x8 o1 o3 o4 t0 t1 t2
 have hne : ¬ w2.heap.size = w.heap.size + 1 + 1 := by omega
 have hne3 : ¬ w2.heap.size + 1 = w.heap.size + 1 + 1 := by omega
 have hne4 : ¬ w1.heap.size = w.heap.size + 1 + 1 := by omega
 generalize hg2 : w2.heap.size = g2 at *
 generalize hg1 : w1.heap.size = g1 at *
 dsimp only [xC, List.toArray] at HY3 HF3 HB23 HG3 HZ5 HR5
 generalize World.alloc (World.alloc w2 _) _ = w3 at *
 have b0 := HY3.out.at 0 _ rfl
 have b1 := HY3.out.at 1 _ rfl
 have b2 := HY3.out.at 2 _ rfl
 have b3 := HY3.out.at 3 _ rfl
 have b4 := HY3.out.at 4 _ rfl
 have b5 := HY3.out.at 5 _ rfl
 have b6 := HY3.out.at 6 _ rfl
 have b7 := HY3.out.at 7 _ rfl
 have b8 := HY3.out.at 8 _ rfl
 have p0 := HZ5.out.at 0 _ rfl
 have p1 := HZ5.out.at 1 _ rfl
 have p2 := HZ5.out.at 2 _ rfl
 have p3 := HZ5.out.at 3 _ rfl
 have p4 := HZ5.out.at 4 _ rfl
 have p5 := HZ5.out.at 5 _ rfl
 have p6 := HZ5.out.at 6 _ rfl
 have p7 := HZ5.out.at 7 _ rfl
 have p8 := HZ5.out.at 8 _ rfl
 have fp := HZ5.out.2.1
 have zp := HZ5.out.2.2
 have rr0 := HR5.out.at 0 _ rfl
 have rr1 := HR5.out.at 1 _ rfl
 have rr2 := HR5.out.at 2 _ rfl
 have f0 := HF3.out.at 0 _ rfl
 have f1 := HF3.out.at 1 _ rfl
 obtain ⟨v1, d1⟩ : ∃ v, ((r1 : Int) == F1) = v := ⟨_, rfl⟩
 obtain ⟨v2, d2⟩ : ∃ v, ((r2 : Int) == F2) = v := ⟨_, rfl⟩
 obtain ⟨v3, d3⟩ : ∃ v, ((r3 : Int) == V) = v := ⟨_, rfl⟩
 rw [d1, d2, d3]
 have hfin : ∀ n, Kp (fun k => k = w.heap.size + 1 + 1) w3 ((World.setCells w3 (w.heap.size + 1 + 1) 0 (xC y2.sz y2.most y2.root y2.asid y2.on (.slice q2.A1 y2.ws.length q2.c1) (.slice q2.A2 y2.es.length q2.c2) (.slice q2.A3 y2.ks.length q2.c3) (.slice q2.A4 y2.ps.length q2.c4))).drewN n) := fun n => ((Kp.refl (fun k => k = w.heap.size + 1 + 1) w3).setCells (.inl rfl) 0 _).drewN n
 have hk2 : Kp (KB B w0) w w1 := (Kp.ofBelow HB0.out).trans HK3.out (fun i y => .inl ⟨fun z => y.1 (.inl z), y.2⟩)
 have HFIN := Lib.hid hfin
 have HK2 := Lib.hid hk2
 clear hfin hk2
 cases v1 <;> cases v2 <;> cases v3
 all_goals
  go_region
  all_goals
   go_wp2_with fail
   refine bodyPost_ret (v := .tuple #[yV y2 q2, _]) (by simp [results, Tryz.results14, go_sem, zp, p0, p1, p2, p3, p4, p5, p6, p7, p8, yV, xV]; rfl) rfl ?_
   rw [set9_eq]
   have hfin2 := HFIN.out 1
   subst hg1
   exact ⟨q2, _, (by rw [d1, d2, d3]; rfl), (HM3.out.adds HB23.out).own (hfin2.mono (fun k y => .inl (.inr (by omega)))), HG3.out.fin hfin2 (fun k e => by omega) HRB.out HBM.out (by omega), fun k y => .inl (.inl y), (HK2.out.below HB23.out).trans hfin2 (fun i y => .inr (by omega))⟩
end Go.Proofs.YtbapgngngaaojaaGreat
namespace Go.Proofs.YtbapgngngaaojaaGreat
open Go.RowKit Go.Lib
set_option maxRecDepth 100000
set_option maxHeartbeats 2000000 in
theorem stepq_mem {x m pt pk : Nat} {pv : Value} {s : St} {B : Nat → Prop} {w0 w : World} (h : MB x m pt pk pv s B w0 w) (y : Yr) (q : Sl) (sort n : Int) (va wd : Nat) (hva : va < 18446744073709551616) (hwd : wd < 18446744073709551616) (f l k : Bool) {R : Nat → Prop} (hR : ∀ k, R k → B k) (hr : YAt R y q w) (F1 : Nat) (ws2 : List (Nat × Nat))
  (hc : ∀ u, (∀ k, R k → k < u.heap.size) → YAt R y q u → Calls Tryz.prog 31 #[.agg #[.int .u64 y.sz, .slice q.A1 y.ws.length q.c1], .int .u64 va, .int .u64 wd] u fun e u' => ∃ A c, e = .returned (.tuple #[.agg #[.int .u64 y.sz, .slice A ws2.length c], .int .i64 F1]) ∧ RowAt u' (fun k => R k ∨ u.heap.size ≤ k) 2 (.slice A ws2.length c) ws2.length (rowL wL ws2) ∧ Below u.heap.size u u') :
  Calls Tryz.prog 14 #[.pointer (some ⟨x, 0, none⟩), yV y q, .agg #[.int .i64 3, .int .i64 sort, .int .i64 n, .int .u64 va, .int .u64 wd, .bool f, .bool l, .bool k]] w (StepQ x m pt pk pv R B w0 { s with rd := writeP s.sz s.rd va wd } { y with ws := ws2 } (((mayP s.sz va : Nat) : Int) == F1) w) := by
 have HC := Lib.hid hc
 clear hc
 have HQ := Lib.hid hr
 have HRB := Lib.hid hR
 have HM := Lib.hid h
 have HBM : Hid (∀ k, B k → k < w.heap.size) := fun k z => h.mine z
 clear h hr hR
 unfold yV xV
 go_enter Tryz.func14, Tryz.ntmps14
 go_upto_region 2 with fail
 generalize hW : World.alloc (World.alloc (World.alloc (World.alloc w _) _) _) _ = W
 have HX : Hid (Box W w.heap.size (xC y.sz y.most y.root y.asid y.on (.slice q.A1 y.ws.length q.c1) (.slice q.A2 y.es.length q.c2) (.slice q.A3 y.ks.length q.c3) (.slice q.A4 y.ps.length q.c4))) := by
  rw [← hW]
  exact (((Box.new w (xC y.sz y.most y.root y.asid y.on (.slice q.A1 y.ws.length q.c1) (.slice q.A2 y.es.length q.c2) (.slice q.A3 y.ks.length q.c3) (.slice q.A4 y.ps.length q.c4)) 36).below (below1 _ _)).below (below1 _ _)).below (below1 _ _)
 have HO : Hid (Box W (w.heap.size + 1) (oC 3 sort n va wd f l k)) := by
  rw [← hW]
  exact ((Box.new' (w.alloc (.cells (xC y.sz y.most y.root y.asid y.on (.slice q.A1 y.ws.length q.c1) (.slice q.A2 y.es.length q.c2) (.slice q.A3 y.ks.length q.c3) (.slice q.A4 y.ps.length q.c4)).toArray 36)) _ (by simp) (oC 3 sort n va wd f l k) 55).below (below1 _ _)).below (below1 _ _)
 have HZ : Hid (Box W (w.heap.size + 2) (xC 0 0 0 0 false (.slice none 0 0) (.slice none 0 0) (.slice none 0 0) (.slice none 0 0))) := by
  rw [← hW]
  exact (Box.new' ((w.alloc (.cells (xC y.sz y.most y.root y.asid y.on (.slice q.A1 y.ws.length q.c1) (.slice q.A2 y.es.length q.c2) (.slice q.A3 y.ks.length q.c3) (.slice q.A4 y.ps.length q.c4)).toArray 36)).alloc (.cells (oC 3 sort n va wd f l k).toArray 55)) _ (by simp) (xC 0 0 0 0 false (.slice none 0 0) (.slice none 0 0) (.slice none 0 0) (.slice none 0 0)) 36).below (below1 _ _)
 have HB0 : Hid (Below w.heap.size w W) := by rw [← hW]; exact (((below1 w _).alloc (by simp) _).alloc (by simp; omega) _).alloc (by simp; omega) _
 have HH : Hid (Box W (w.heap.size + 3) [.bool f, .bool l, .bool k]) := by
  rw [← hW]
  exact Box.new' (((w.alloc (.cells (xC y.sz y.most y.root y.asid y.on (.slice q.A1 y.ws.length q.c1) (.slice q.A2 y.es.length q.c2) (.slice q.A3 y.ks.length q.c3) (.slice q.A4 y.ps.length q.c4)).toArray 36)).alloc (.cells (oC 3 sort n va wd f l k).toArray 55)).alloc (.cells (xC 0 0 0 0 false (.slice none 0 0) (.slice none 0 0) (.slice none 0 0) (.slice none 0 0)).toArray 36)) _ (by simp) [.bool f, .bool l, .bool k] 41
 clear hW
 have hz9 : w.heap.size + 3 < W.heap.size := HH.out.2.2
 have HM2 := Lib.hid (HM.out.adds HB0.out)
 have HQW := Lib.hid (HQ.out.below HB0.out)
 clear HQ
 have o0 := HO.out.at 0 _ rfl
 have o3 := HO.out.at 3 _ rfl
 have o4 := HO.out.at 4 _ rfl
 have HMD := Lib.hid (HM2.out.below (Below.refl _ _).drew)
 have CM := Lib.hid HMD.out.memory
 have CW := Lib.hid (HMD.out.write va wd hva hwd)
 generalize mayP s.sz va = R1 at *
 go_upto_region 11 with fail
 have HOD := Lib.hid (HO.out.below (Below.refl _ _).drew)
 have HXD := Lib.hid (HX.out.below (Below.refl _ _).drew)
 have HZD := Lib.hid (HZ.out.below (Below.refl _ _).drew)
 have HQD := Lib.hid (HQW.out.below (Below.refl _ _).drew)
 go_region_held3 (fun u => u.cell? ⟨w.heap.size + 1, 3, none⟩ = some (.int .u64 va) ∧ u.cell? ⟨w.heap.size + 1, 4, none⟩ = some (.int .u64 wd)) (first | with_reducible assumption | exact ⟨o3, o4⟩ | exact ⟨drew_cell o3, drew_cell o4⟩ | exact ⟨t3, t4⟩) (first | (go_at_call 19; refine CM.out.mono ?_; rintro e w6 ⟨rfl, rfl⟩) | (go_at_call 29; refine CW.out.mono ?_; rintro e w1 ⟨rfl, hm, hk⟩; have HM3 := Lib.hid hm; have HK3 := Lib.hid hk; have HO3 := Lib.hid (HOD.out.mb hk (.inr (by omega))); have HX3 := Lib.hid (HXD.out.mb hk (.inr (by omega))); have HZ3 := Lib.hid (HZD.out.mb hk (.inr (by omega))); have HQ3 := Lib.hid (HQD.out.kept hk (fun k y z => z.1 (.inl (HRB.out k y)))); have t3 := HO3.out.at 3 _ rfl; have t4 := HO3.out.at 4 _ rfl; clear hm hk))
 all_goals
  clear o0 o3 o4 HOD HXD HZD HQD HMD CM CW HX HO HZ HH HQW
  have x0 := HX3.out.at 0 _ rfl
  have x1 := HX3.out.at 1 _ rfl
  have hz1 : W.heap.size ≤ w1.heap.size := HK3.out.size
  have HBU : Hid (∀ k, R k → k < w1.heap.size) := fun k z => by have := HBM.out k (HRB.out k z); omega
  go_upto_region 13 with (go_at_call 31; refine (HC.out _ HBU.out HQ3.out).mono ?_; rintro e w2 ⟨A, c, rfl, hg, hb⟩; have HG := Lib.hid hg; have HB2 := Lib.hid hb; have HX4 := Lib.hid (HX3.out.below hb); have HZ4 := Lib.hid (HZ3.out.below hb); have HQ4 := Lib.hid (HQ3.out.below hb); clear hg hb)
  have hb3 : Below w2.heap.size w2 (w2.alloc (.cells #[.int .u64 y.sz, .slice A ws2.length c] 31)) := below1 _ _
  have HY : Hid (Box (w2.alloc (.cells #[.int .u64 y.sz, .slice A ws2.length c] 31)) w2.heap.size [.int .u64 y.sz, .slice A ws2.length c]) := Box.new w2 [.int .u64 y.sz, .slice A ws2.length c] 31
  have hz2 : w1.heap.size ≤ w2.heap.size := HB2.out.size
  have HB23 := Lib.hid (HB2.out.trans (hb3.mono hz2))
  have HG5 := Lib.hid (HG.out.below hb3)
  have HX5 := Lib.hid (HX4.out.below hb3)
  have HZ5 := Lib.hid (HZ4.out.below hb3)
  have HQ5 := Lib.hid (HQ4.out.below hb3)
  clear hb3 HG HX4 HZ4 HQ4 HX3 HZ3 HQ3 HB2 x0 x1 t3 t4 HO3 HC
  generalize hg2 : w2.heap.size = g2 at *
  generalize World.alloc w2 _ = w3 at *
  have hne1 : ¬ g2 = w.heap.size := by omega
  have hne2 : ¬ g2 = w.heap.size + 1 + 1 := by omega
  have b0 := HY.out.at 0 _ rfl
  have b1 := HY.out.at 1 _ rfl
  have x0 := HX5.out.at 0 _ rfl
  have x1 := HX5.out.at 1 _ rfl
  have x2 := HX5.out.at 2 _ rfl
  have x3 := HX5.out.at 3 _ rfl
  have x4 := HX5.out.at 4 _ rfl
  have x5 := HX5.out.at 5 _ rfl
  have x6 := HX5.out.at 6 _ rfl
  have x7 := HX5.out.at 7 _ rfl
  have x8 := HX5.out.at 8 _ rfl
  have fx := HX5.out.2.1
  have zx := HX5.out.2.2
  have p0 := HZ5.out.at 0 _ rfl
  have p1 := HZ5.out.at 1 _ rfl
  have p2 := HZ5.out.at 2 _ rfl
  have p3 := HZ5.out.at 3 _ rfl
  have p4 := HZ5.out.at 4 _ rfl
  have p5 := HZ5.out.at 5 _ rfl
  have p6 := HZ5.out.at 6 _ rfl
  have p7 := HZ5.out.at 7 _ rfl
  have p8 := HZ5.out.at 8 _ rfl
  have fp := HZ5.out.2.1
  have zp := HZ5.out.2.2
  go_wp2
  refine bodyPost_ret (v := .tuple #[yV { y with ws := ws2 } { q with A1 := A, c1 := c }, .bool (((R1 : Nat) : Int) == F1)]) (by simp [results, Tryz.results14, go_sem, zx, zp, p0, p1, p2, p3, p4, p5, p6, p7, p8, yV, xV]) rfl ?_
  rw [set9_eq]
  have hk : Kp (fun k => k = w.heap.size ∨ k = w.heap.size + 1 + 1) w3 (((w3.setCell ⟨w.heap.size, 0, none⟩ (.int .u64 y.sz)).setCell ⟨w.heap.size, 1, none⟩ (.slice A ws2.length c)).setCells (w.heap.size + 1 + 1) 0 (xC y.sz y.most y.root y.asid y.on (.slice A ws2.length c) (.slice q.A2 y.es.length q.c2) (.slice q.A3 y.ks.length q.c3) (.slice q.A4 y.ps.length q.c4))) := ((((Kp.refl (fun k => k = w.heap.size ∨ k = w.heap.size + 1 + 1) w3).setCell (p := ⟨w.heap.size, 0, none⟩) (.inl (.inl rfl)) _).setCell (p := ⟨w.heap.size, 1, none⟩) (.inl (.inl rfl)) _).setCells (.inl (.inr rfl)) 0 _)
  have hk2 : Kp (KB B w0) w w1 := (Kp.ofBelow (HB0.out.drew)).trans HK3.out (fun i y => .inl ⟨fun z => y.1 (.inl z), y.2⟩)
  have hq : YAt (fun k => R k ∨ w1.heap.size ≤ k) { y with ws := ws2 } { q with A1 := A, c1 := c } w3 := ⟨HG5.out, (HQ5.out.mono (fun k _ z => .inl z)).2⟩
  exact ⟨{ q with A1 := A, c1 := c }, _, rfl, (HM3.out.adds HB23.out).own (hk.mono (fun k y => .inl (.inr (by omega)))), hq.fin hk (fun k e => by omega) HRB.out HBM.out (by omega), fun k y => .inl (.inl y), (hk2.below HB23.out).trans hk (fun i y => .inr (by omega))⟩
end Go.Proofs.YtbapgngngaaojaaGreat
