/- The law's step: kinds 4 and 5 (something remembered is lost), of any machine of the document's. -/
import Derived.Test.YtbapgngngaaojaaGreatG31
set_option linter.unusedSimpArgs false
set_option linter.unusedVariables false
namespace Go.Proofs.YtbapgngngaaojaaGreat
open Go.RowKit Go.Lib
set_option maxRecDepth 100000
theorem sizeX2 : (Tryz.prog.info? 36).map (·.size) = some 9 := by kernel_rfl
set_option maxHeartbeats 4000000 in
theorem stepq_evict {x m pt pk : Nat} {pv : Value} {s : St} {B : Nat → Prop} {w0 w : World} (h : MB x m pt pk pv s B w0 w) (y y2 : Yr) (q : Sl) (sort n : Int) (va wd : Nat) (f l k : Bool) {R : Nat → Prop} (hR : ∀ k, R k → B k) (hr : YAt R y q w)
  (hc : ∀ u, (∀ k, R k → k < u.heap.size) → YAt R y q u → Calls Tryz.prog 45 #[yV y q, .int .i64 n, .bool false] u (YP R y2 (fun v => v) u)) (g1 g2 : Bool) (hg1 : decide (0 ≤ n) = g1) (hg2 : decide (n < (y.es.length : Int)) = g2) :
  Calls Tryz.prog 14 #[.pointer (some ⟨x, 0, none⟩), yV y q, .agg #[.int .i64 4, .int .i64 sort, .int .i64 n, .int .u64 va, .int .u64 wd, .bool f, .bool l, .bool k]] w (StepQ x m pt pk pv R B w0 { s with es := dropL s.es n } y2 (dropB s.es n == (g1 && g2)) w) := by
 have HC := Lib.hid hc
 clear hc
 unfold yV xV at HC
 have HQ := Lib.hid hr
 have HRB := Lib.hid hR
 have HM := Lib.hid h
 have HBM : Hid (∀ k, B k → k < w.heap.size) := fun k z => h.mine z
 clear h hr hR
 unfold yV xV
 go_enter Tryz.func14, Tryz.ntmps14
 go_upto_region 2 with fail
 generalize hW : World.alloc (World.alloc (World.alloc (World.alloc w _) _) _) _ = W
 have HX : Hid (Box W w.heap.size (xC y.sz y.most y.root y.asid y.on (.slice q.A1 y.ws.length q.c1) (.slice q.A2 y.es.length q.c2) (.slice q.A3 y.ks.length q.c3) (.slice q.A4 y.ps.length q.c4))) := by
  rw [← hW]
  exact (((Box.new w (xC y.sz y.most y.root y.asid y.on (.slice q.A1 y.ws.length q.c1) (.slice q.A2 y.es.length q.c2) (.slice q.A3 y.ks.length q.c3) (.slice q.A4 y.ps.length q.c4)) 36).below (below1 _ _)).below (below1 _ _)).below (below1 _ _)
 have HO : Hid (Box W (w.heap.size + 1) (oC 4 sort n va wd f l k)) := by
  rw [← hW]
  exact ((Box.new' (w.alloc (.cells (xC y.sz y.most y.root y.asid y.on (.slice q.A1 y.ws.length q.c1) (.slice q.A2 y.es.length q.c2) (.slice q.A3 y.ks.length q.c3) (.slice q.A4 y.ps.length q.c4)).toArray 36)) _ (by simp) (oC 4 sort n va wd f l k) 55).below (below1 _ _)).below (below1 _ _)
 have HZ : Hid (Box W (w.heap.size + 2) (xC 0 0 0 0 false (.slice none 0 0) (.slice none 0 0) (.slice none 0 0) (.slice none 0 0))) := by
  rw [← hW]
  exact (Box.new' ((w.alloc (.cells (xC y.sz y.most y.root y.asid y.on (.slice q.A1 y.ws.length q.c1) (.slice q.A2 y.es.length q.c2) (.slice q.A3 y.ks.length q.c3) (.slice q.A4 y.ps.length q.c4)).toArray 36)).alloc (.cells (oC 4 sort n va wd f l k).toArray 55)) _ (by simp) (xC 0 0 0 0 false (.slice none 0 0) (.slice none 0 0) (.slice none 0 0) (.slice none 0 0)) 36).below (below1 _ _)
 have HB0 : Hid (Below w.heap.size w W) := by rw [← hW]; exact (((below1 w _).alloc (by simp) _).alloc (by simp; omega) _).alloc (by simp; omega) _
 have HH : Hid (Box W (w.heap.size + 3) [.bool f, .bool l, .bool k]) := by
  rw [← hW]
  exact Box.new' (((w.alloc (.cells (xC y.sz y.most y.root y.asid y.on (.slice q.A1 y.ws.length q.c1) (.slice q.A2 y.es.length q.c2) (.slice q.A3 y.ks.length q.c3) (.slice q.A4 y.ps.length q.c4)).toArray 36)).alloc (.cells (oC 4 sort n va wd f l k).toArray 55)).alloc (.cells (xC 0 0 0 0 false (.slice none 0 0) (.slice none 0 0) (.slice none 0 0) (.slice none 0 0)).toArray 36)) _ (by simp) [.bool f, .bool l, .bool k] 41
 clear hW
 have hz9 : w.heap.size + 3 < W.heap.size := HH.out.2.2
 have HM2 := Lib.hid (HM.out.adds HB0.out)
 have HQW := Lib.hid (HQ.out.below HB0.out)
 clear HQ
 have o0 := HO.out.at 0 _ rfl
 have o2 := HO.out.at 2 _ rfl
 have x0 := HX.out.at 0 _ rfl
 have x1 := HX.out.at 1 _ rfl
 have x2 := HX.out.at 2 _ rfl
 have x3 := HX.out.at 3 _ rfl
 have x4 := HX.out.at 4 _ rfl
 have x5 := HX.out.at 5 _ rfl
 have x6 := HX.out.at 6 _ rfl
 have x7 := HX.out.at 7 _ rfl
 have x8 := HX.out.at 8 _ rfl
 have HMD := Lib.hid (HM2.out.below (Below.refl _ _).drew)
 have HQD := Lib.hid (HQW.out.below (Below.refl _ _).drew)
 have HXD := Lib.hid (HX.out.below (Below.refl _ _).drew)
 have HZD := Lib.hid (HZ.out.below (Below.refl _ _).drew)
 have HOD := Lib.hid (HO.out.below (Below.refl _ _).drew)
 have hzd : W.drew.heap.size = W.heap.size := rfl
 have HBU : Hid (∀ k, R k → k < W.drew.heap.size) := fun k z => by have := HBM.out k (HRB.out k z); omega
 obtain ⟨S, hSdef⟩ : ∃ S : World → Prop, S = fun u => u.cell? ⟨w.heap.size, 0, none⟩ = some (.int .u64 y.sz) ∧ u.cell? ⟨w.heap.size, 1, none⟩ = some (.slice q.A1 y.ws.length q.c1) ∧ u.cell? ⟨w.heap.size, 2, none⟩ = some (.int .i64 y.most) ∧ u.cell? ⟨w.heap.size, 3, none⟩ = some (.slice q.A2 y.es.length q.c2) ∧ u.cell? ⟨w.heap.size, 4, none⟩ = some (.slice q.A3 y.ks.length q.c3) ∧ u.cell? ⟨w.heap.size, 5, none⟩ = some (.bool y.on) ∧ u.cell? ⟨w.heap.size, 6, none⟩ = some (.int .u64 y.root) ∧ u.cell? ⟨w.heap.size, 7, none⟩ = some (.int .i64 y.asid) ∧ u.cell? ⟨w.heap.size, 8, none⟩ = some (.slice q.A4 y.ps.length q.c4) ∧ u.cell? ⟨w.heap.size + 1, 2, none⟩ = some (.int .i64 n) := ⟨_, rfl⟩
 have hSu : ∀ u, S u → u.cell? ⟨w.heap.size, 0, none⟩ = some (.int .u64 y.sz) ∧ u.cell? ⟨w.heap.size, 1, none⟩ = some (.slice q.A1 y.ws.length q.c1) ∧ u.cell? ⟨w.heap.size, 2, none⟩ = some (.int .i64 y.most) ∧ u.cell? ⟨w.heap.size, 3, none⟩ = some (.slice q.A2 y.es.length q.c2) ∧ u.cell? ⟨w.heap.size, 4, none⟩ = some (.slice q.A3 y.ks.length q.c3) ∧ u.cell? ⟨w.heap.size, 5, none⟩ = some (.bool y.on) ∧ u.cell? ⟨w.heap.size, 6, none⟩ = some (.int .u64 y.root) ∧ u.cell? ⟨w.heap.size, 7, none⟩ = some (.int .i64 y.asid) ∧ u.cell? ⟨w.heap.size, 8, none⟩ = some (.slice q.A4 y.ps.length q.c4) ∧ u.cell? ⟨w.heap.size + 1, 2, none⟩ = some (.int .i64 n) := fun u h => by rw [hSdef] at h; exact h
 have hSi : ∀ u, (u.cell? ⟨w.heap.size, 0, none⟩ = some (.int .u64 y.sz) ∧ u.cell? ⟨w.heap.size, 1, none⟩ = some (.slice q.A1 y.ws.length q.c1) ∧ u.cell? ⟨w.heap.size, 2, none⟩ = some (.int .i64 y.most) ∧ u.cell? ⟨w.heap.size, 3, none⟩ = some (.slice q.A2 y.es.length q.c2) ∧ u.cell? ⟨w.heap.size, 4, none⟩ = some (.slice q.A3 y.ks.length q.c3) ∧ u.cell? ⟨w.heap.size, 5, none⟩ = some (.bool y.on) ∧ u.cell? ⟨w.heap.size, 6, none⟩ = some (.int .u64 y.root) ∧ u.cell? ⟨w.heap.size, 7, none⟩ = some (.int .i64 y.asid) ∧ u.cell? ⟨w.heap.size, 8, none⟩ = some (.slice q.A4 y.ps.length q.c4) ∧ u.cell? ⟨w.heap.size + 1, 2, none⟩ = some (.int .i64 n)) → S u := fun u h => by rw [hSdef]; exact h
 clear hSdef
 have hS0 : S W.drew := hSi _ ⟨drew_cell x0, drew_cell x1, drew_cell x2, drew_cell x3, drew_cell x4, drew_cell x5, drew_cell x6, drew_cell x7, drew_cell x8, drew_cell o2⟩
 have SK : Hid (∀ u u' F, Kp F u u' → ¬ F w.heap.size → ¬ F (w.heap.size + 1) → S u → S u') := fun u u' F hk n1 n2 h => by
  obtain ⟨q0, q1, q2, q3, q4, q5, q6, q7, q8, q9⟩ := hSu _ h
  exact hSi _ ⟨hk.cell q0 n1, hk.cell q1 n1, hk.cell q2 n1, hk.cell q3 n1, hk.cell q4 n1, hk.cell q5 n1, hk.cell q6 n1, hk.cell q7 n1, hk.cell q8 n1, hk.cell q9 n2⟩
 generalize hRB : dropB s.es n = RB at *
 generalize hSS : { s with es := dropL s.es n } = s2 at *
 have HRQ := Lib.hid hRB
 have HSS := Lib.hid hSS
 clear hRB hSS
 have CE : Hid (∀ B' u, MB x m pt pk pv s B' w0 u → Calls Tryz.prog 25 #[.pointer (some ⟨x, 0, none⟩), .int .i64 n] u fun e w' => e = .returned (.bool RB) ∧ MB x m pt pk pv s2 B' w0 w' ∧ Kp (KB B' w0) u w') := fun B' u hm => by
  rw [← HRQ.out, ← HSS.out]
  exact hm.evict n
 go_upto_region 16 with fail
 clear x0 x1 x2 x3 x4 x5 x6 x7 x8 o2
 cases g1
 ·refine wp_region_held_drew (S := S) (by kernel_rfl) hS0 (fun hHeld => ?_)
  clear hS0
  refine wpAnyH_take (i := 0) (v := ?_) rfl (by decide +kernel) (by decide +kernel) (by decide +kernel) (fun _ _ _ h => h) (Or.inl ⟨by rfl, ?_⟩) (by assumption) ?_
  rotate_left
  ·intro w hSw
   have hSw := hSu _ hSw
   try dsimp only at hSw
   go_simp
   try with_reducible rfl
  try simp only [List.getElem_toArray, List.getElem_cons_succ, List.getElem_cons_zero, Act.put, List.setIfInBounds_toArray, List.set_cons_zero, List.set_cons_succ]
  refine wpAnyH_take (i := 1) (v := ?_) rfl (by decide +kernel) (by decide +kernel) (by decide +kernel) (fun _ _ _ h => h) (Or.inl ⟨by rfl, ?_⟩) (by assumption) ?_
  rotate_left
  ·intro w hSw
   have hSw := hSu _ hSw
   try dsimp only at hSw
   go_simp
   try with_reducible rfl
  try simp only [List.getElem_toArray, List.getElem_cons_succ, List.getElem_cons_zero, Act.put, List.setIfInBounds_toArray, List.set_cons_zero, List.set_cons_succ]
  refine wpAnyH_take (i := 2) (v := ?_) rfl (by decide +kernel) (by decide +kernel) (by decide +kernel) (fun _ _ _ h => h) (Or.inl ⟨by rfl, ?_⟩) (by assumption) ?_
  rotate_left
  ·intro w hSw
   have hSw := hSu _ hSw
   try dsimp only at hSw
   go_simp
   try with_reducible rfl
  try simp only [List.getElem_toArray, List.getElem_cons_succ, List.getElem_cons_zero, Act.put, List.setIfInBounds_toArray, List.set_cons_zero, List.set_cons_succ]
  refine wpAnyH_take (i := 4) (v := ?_) rfl (by decide +kernel) (by decide +kernel) (by decide +kernel) (fun _ _ _ h => h) (Or.inl ⟨by rfl, ?_⟩) (by assumption) ?_
  rotate_left
  ·intro w hSw
   have hSw := hSu _ hSw
   try dsimp only at hSw
   go_simp
   try with_reducible rfl
  try simp only [List.getElem_toArray, List.getElem_cons_succ, List.getElem_cons_zero, Act.put, List.setIfInBounds_toArray, List.set_cons_zero, List.set_cons_succ]
  refine wpAnyH_take (i := 5) (v := ?_) rfl (by decide +kernel) (by decide +kernel) (by decide +kernel) (fun _ _ _ h => h) (Or.inl ⟨by rfl, ?_⟩) (by assumption) ?_
  rotate_left
  ·intro w hSw
   have hSw := hSu _ hSw
   try dsimp only at hSw
   go_simp
   try with_reducible rfl
  try simp only [List.getElem_toArray, List.getElem_cons_succ, List.getElem_cons_zero, Act.put, List.setIfInBounds_toArray, List.set_cons_zero, List.set_cons_succ]
  refine wpAnyH_take (i := 6) (v := ?_) rfl (by decide +kernel) (by decide +kernel) (by decide +kernel) (fun _ _ _ h => h) (Or.inl ⟨by rfl, ?_⟩) (by assumption) ?_
  rotate_left
  ·intro w hSw
   have hSw := hSu _ hSw
   try dsimp only at hSw
   go_simp
   try with_reducible rfl
  try simp only [List.getElem_toArray, List.getElem_cons_succ, List.getElem_cons_zero, Act.put, List.setIfInBounds_toArray, List.set_cons_zero, List.set_cons_succ]
  refine wpAnyH_take (i := 8) (v := ?_) rfl (by decide +kernel) (by decide +kernel) (by decide +kernel) (fun _ _ _ h => h) (Or.inl ⟨by rfl, ?_⟩) (by assumption) ?_
  rotate_left
  ·intro w hSw
   have hSw := hSu _ hSw
   try dsimp only at hSw
   go_simp
   try with_reducible rfl
  try simp only [List.getElem_toArray, List.getElem_cons_succ, List.getElem_cons_zero, Act.put, List.setIfInBounds_toArray, List.set_cons_zero, List.set_cons_succ]
  refine wpAnyH_take (i := 9) (v := ?_) rfl (by decide +kernel) (by decide +kernel) (by decide +kernel) (fun _ _ _ h => h) (Or.inl ⟨by rfl, ?_⟩) (by assumption) ?_
  rotate_left
  ·intro w hSw
   have hSw := hSu _ hSw
   try dsimp only at hSw
   go_simp
   try with_reducible rfl
  try simp only [List.getElem_toArray, List.getElem_cons_succ, List.getElem_cons_zero, Act.put, List.setIfInBounds_toArray, List.set_cons_zero, List.set_cons_succ]
  refine wpAnyH_take (i := 10) (v := .bool false) rfl (by decide +kernel) (by decide +kernel) (by decide +kernel) (fun _ _ _ h => h) (Or.inl ⟨by rfl, ?_⟩) (by assumption) ?_
  ·intro w hSw
   have hSw := hSu _ hSw
   try dsimp only at hSw
   go_simp
  try simp only [List.getElem_toArray, List.getElem_cons_succ, List.getElem_cons_zero, Act.put, List.setIfInBounds_toArray, List.set_cons_zero, List.set_cons_succ]
  refine wpAnyH_ready (rs := [3]) (by decide +kernel) (by simp) ?_
  refine AllReadyH.cons rfl (fun K hK => ?_) AllReadyH.nil
  ·go_simp
   refine (HC.out _ HBU.out HQD.out).mono ?_
   rintro e w2 ⟨q2, rfl, hg, hb⟩
   dsimp only [yV, xV]
   have HG := Lib.hid hg
   have HB2 := Lib.hid hb
   have HMX := Lib.hid (HMD.out.adds hb)
   have HZ2 := Lib.hid (HZD.out.below hb)
   have hS5 : S w2 := SK.out _ _ (fun _ => False) (.ofBelow hb) (fun h => h) (fun h => h) hHeld
   clear hg hb
   go_wp2_with fail
   refine hK.out _ _ hS5 (fun hHeld => ?_)
   clear hK K hS5
   try simp only [List.getElem_toArray, List.getElem_cons_succ, List.getElem_cons_zero, Act.put, List.setIfInBounds_toArray, List.set_cons_zero, List.set_cons_succ]
   refine wpAnyH_ready (rs := [7]) (by decide +kernel) (by simp) ?_
   refine AllReadyH.cons rfl (fun K hK => ?_) AllReadyH.nil
   go_simp
   refine (CE.out _ _ HMX.out).mono ?_
   rintro e w1 ⟨rfl, hm, hk⟩
   have HM4 := Lib.hid hm
   have HK4 := Lib.hid hk
   have HZ4 := Lib.hid (HZ2.out.mb hk (.inl (.inr (by omega))))
   have hS5 : S w1 := SK.out _ _ _ hk (fun z => z.1 (.inl (.inr (by omega)))) (fun z => z.1 (.inl (.inr (by omega)))) hHeld
   clear hm hk
   go_wp2_with fail
   refine hK.out _ _ hS5 (fun hHeld => ?_)
   clear hK K hS5
   try simp only [List.getElem_toArray, List.getElem_cons_succ, List.getElem_cons_zero, Act.put, List.setIfInBounds_toArray, List.set_cons_zero, List.set_cons_succ]
   refine wpAnyH_take (i := 11) (v := .bool false) rfl (by decide +kernel) (by decide +kernel) (by decide +kernel) (fun _ _ _ h => h) (Or.inl ⟨by rfl, ?_⟩) (by assumption) ?_
   ·intro w hSw
    have hSw := hSu _ hSw
    try dsimp only at hSw
    go_simp
   try simp only [List.getElem_toArray, List.getElem_cons_succ, List.getElem_cons_zero, Act.put, List.setIfInBounds_toArray, List.set_cons_zero, List.set_cons_succ]
   refine wpAnyH_take (i := 12) (v := undef) rfl (by decide +kernel) (by decide +kernel) (by decide +kernel) (fun _ _ _ h => h) (Or.inr ⟨by rfl, rfl⟩) (by assumption) ?_
   try simp only [List.getElem_toArray, List.getElem_cons_succ, List.getElem_cons_zero, Act.put, List.setIfInBounds_toArray, List.set_cons_zero, List.set_cons_succ]
   refine wpAnyH_take (i := 13) (v := undef) rfl (by decide +kernel) (by decide +kernel) (by decide +kernel) (fun _ _ _ h => h) (Or.inr ⟨by rfl, rfl⟩) (by assumption) ?_
   try simp only [List.getElem_toArray, List.getElem_cons_succ, List.getElem_cons_zero, Act.put, List.setIfInBounds_toArray, List.set_cons_zero, List.set_cons_succ]
   refine wpAnyH_take (i := 14) (v := undef) rfl (by decide +kernel) (by decide +kernel) (by decide +kernel) (fun _ _ _ h => h) (Or.inr ⟨by rfl, rfl⟩) (by assumption) ?_
   try simp only [List.getElem_toArray, List.getElem_cons_succ, List.getElem_cons_zero, Act.put, List.setIfInBounds_toArray, List.set_cons_zero, List.set_cons_succ]
   refine wpAnyH_take (i := 15) (v := undef) rfl (by decide +kernel) (by decide +kernel) (by decide +kernel) (fun _ _ _ h => h) (Or.inr ⟨by rfl, rfl⟩) (by assumption) ?_
   try simp only [List.getElem_toArray, List.getElem_cons_succ, List.getElem_cons_zero, Act.put, List.setIfInBounds_toArray, List.set_cons_zero, List.set_cons_succ]
   refine wpAnyH_take (i := 16) (v := undef) rfl (by decide +kernel) (by decide +kernel) (by decide +kernel) (fun _ _ _ h => h) (Or.inr ⟨by rfl, rfl⟩) (by assumption) ?_
   try simp only [List.getElem_toArray, List.getElem_cons_succ, List.getElem_cons_zero, Act.put, List.setIfInBounds_toArray, List.set_cons_zero, List.set_cons_succ]
   refine wpAnyH_take (i := 17) (v := undef) rfl (by decide +kernel) (by decide +kernel) (by decide +kernel) (fun _ _ _ h => h) (Or.inr ⟨by rfl, rfl⟩) (by assumption) ?_
   try simp only [List.getElem_toArray, List.getElem_cons_succ, List.getElem_cons_zero, Act.put, List.setIfInBounds_toArray, List.set_cons_zero, List.set_cons_succ]
   refine wpAnyH_take (i := 18) (v := ?_) rfl (by decide +kernel) (by decide +kernel) (by decide +kernel) (fun _ _ _ h => h) (Or.inl ⟨by rfl, ?_⟩) (by assumption) ?_
   rotate_left
   ·intro w hSw
    have hSw := hSu _ hSw
    try dsimp only at hSw
    go_simp
    try with_reducible rfl
   try simp only [List.getElem_toArray, List.getElem_cons_succ, List.getElem_cons_zero, Act.put, List.setIfInBounds_toArray, List.set_cons_zero, List.set_cons_succ]
   refine wpAnyH_take (i := 19) (v := ?_) rfl (by decide +kernel) (by decide +kernel) (by decide +kernel) (fun _ _ _ h => h) (Or.inl ⟨by rfl, ?_⟩) (by assumption) ?_
   rotate_left
   ·intro w hSw
    have hSw := hSu _ hSw
    try dsimp only at hSw
    go_simp
    try with_reducible rfl
   try simp only [List.getElem_toArray, List.getElem_cons_succ, List.getElem_cons_zero, Act.put, List.setIfInBounds_toArray, List.set_cons_zero, List.set_cons_succ]
   refine wpAnyH_ready (rs := [20]) (by decide +kernel) (by simp) ?_
   refine AllReadyH.cons rfl (fun K hK => ?_) AllReadyH.nil
   have p0 := HZ4.out.at 0 _ rfl
   have p1 := HZ4.out.at 1 _ rfl
   have p2 := HZ4.out.at 2 _ rfl
   have p3 := HZ4.out.at 3 _ rfl
   have p4 := HZ4.out.at 4 _ rfl
   have p5 := HZ4.out.at 5 _ rfl
   have p6 := HZ4.out.at 6 _ rfl
   have p7 := HZ4.out.at 7 _ rfl
   have p8 := HZ4.out.at 8 _ rfl
   have fp := HZ4.out.2.1
   have zp := HZ4.out.2.2
   go_simp
   rw [set9_eq]
   obtain ⟨Y, hY⟩ : ∃ Y, World.setCells w1 (w.heap.size + 1 + 1) 0 [.int .u64 y2.sz, .slice q2.A1 y2.ws.length q2.c1, .int .i64 y2.most, .slice q2.A2 y2.es.length q2.c2, .slice q2.A3 y2.ks.length q2.c3, .bool y2.on, .int .u64 y2.root, .int .i64 y2.asid, .slice q2.A4 y2.ps.length q2.c4] = Y := ⟨_, rfl⟩
   have hk9 : Kp (fun k => k = w.heap.size + 1 + 1) w1 Y := hY ▸ (Kp.refl (fun k => k = w.heap.size + 1 + 1) w1).setCells (.inl rfl) 0 [.int .u64 y2.sz, .slice q2.A1 y2.ws.length q2.c1, .int .i64 y2.most, .slice q2.A2 y2.es.length q2.c2, .slice q2.A3 y2.ks.length q2.c3, .bool y2.on, .int .u64 y2.root, .int .i64 y2.asid, .slice q2.A4 y2.ps.length q2.c4]
   have hS9 : S Y := SK.out _ _ _ hk9 (by omega) (by omega) hHeld
   have HK9 := Lib.hid hk9
   rw [hY]
   refine hK.out _ _ hS9 (fun hHeld => ?_)
   clear hK K hS9
   try simp only [List.getElem_toArray, List.getElem_cons_succ, List.getElem_cons_zero, Act.put, List.setIfInBounds_toArray, List.set_cons_zero, List.set_cons_succ]
   clear hk9
   refine wpAnyH_take (i := 21) (v := ?_) rfl (by decide +kernel) (by decide +kernel) (by decide +kernel) (fun _ _ _ h => h) (Or.inl ⟨by rfl, ?_⟩) (by assumption) ?_
   rotate_left
   ·intro w hSw
    have hSw := hSu _ hSw
    try dsimp only at hSw
    go_simp
    try with_reducible rfl
   try simp only [List.getElem_toArray, List.getElem_cons_succ, List.getElem_cons_zero, Act.put, List.setIfInBounds_toArray, List.set_cons_zero, List.set_cons_succ]
   refine wpAnyH_done (by decide +kernel) ?_ _
   have HZ5 : Hid (Box Y (w.heap.size + 1 + 1) [.int .u64 y2.sz, .slice q2.A1 y2.ws.length q2.c1, .int .i64 y2.most, .slice q2.A2 y2.es.length q2.c2, .slice q2.A3 y2.ks.length q2.c3, .bool y2.on, .int .u64 y2.root, .int .i64 y2.asid, .slice q2.A4 y2.ps.length q2.c4]) := hY ▸ HZ4.out.put rfl
   clear hY
   have p0 := HZ5.out.at 0 _ rfl
   have p1 := HZ5.out.at 1 _ rfl
   have p2 := HZ5.out.at 2 _ rfl
   have p3 := HZ5.out.at 3 _ rfl
   have p4 := HZ5.out.at 4 _ rfl
   have p5 := HZ5.out.at 5 _ rfl
   have p6 := HZ5.out.at 6 _ rfl
   have p7 := HZ5.out.at 7 _ rfl
   have p8 := HZ5.out.at 8 _ rfl
   have fp := HZ5.out.2.1
   have zp := HZ5.out.2.2
   go_wp2_with fail
   refine bodyPost_ret (v := .tuple #[yV y2 q2, _]) (by simp [results, Tryz.results14, go_sem, zp, p0, p1, p2, p3, p4, p5, p6, p7, p8, yV, xV]; rfl) rfl ?_
   have hbd : Below w.heap.size w W.drew := HB0.out.drew
   have hk2 : Kp (KB B w0) w w1 := (Kp.ofBelow (hbd.trans (HB2.out.mono hbd.size))).trans HK4.out (fun i z => .inl ⟨fun b => z.1 (.inl (.inl b)), z.2⟩)
   have hbs : ∀ k, R k → k < w.heap.size := fun k z => HBM.out k (HRB.out k z)
   have hg0 : YAt (fun k => R k ∨ (W.drew.heap.size ≤ k ∧ k < w2.heap.size)) y2 q2 w2 := HG.out.mono (fun k hk z => z.elim (fun z => .inl z) (fun z => .inr ⟨z, hk⟩))
   exact ⟨q2, _, (by first | rfl | (cases RB <;> cases g2 <;> rfl)), HM4.out.own (HK9.out.mono (fun k z => .inl (.inr (by omega)))), ((hg0.kept HK4.out (fun k z e => e.1 (z.elim (fun z => .inl (.inl (HRB.out k z))) (fun z => .inr z)))).kept HK9.out (fun k z e => by rcases z with z | z; have := hbs k z; omega; omega)).mono (fun k _ z => z.elim (fun z => ⟨.inl z, .inl (.inl (HRB.out k z))⟩) (fun z => ⟨.inr (by omega), .inr z⟩)), fun k z => .inl (.inl z), hk2.trans HK9.out (fun i z => .inr (by omega))⟩
 ·refine wp_region_held_drew (S := S) (by kernel_rfl) hS0 (fun hHeld => ?_)
  clear hS0
  refine wpAnyH_take (i := 0) (v := ?_) rfl (by decide +kernel) (by decide +kernel) (by decide +kernel) (fun _ _ _ h => h) (Or.inl ⟨by rfl, ?_⟩) (by assumption) ?_
  rotate_left
  ·intro w hSw
   have hSw := hSu _ hSw
   try dsimp only at hSw
   go_simp
   try with_reducible rfl
  try simp only [List.getElem_toArray, List.getElem_cons_succ, List.getElem_cons_zero, Act.put, List.setIfInBounds_toArray, List.set_cons_zero, List.set_cons_succ]
  refine wpAnyH_take (i := 1) (v := ?_) rfl (by decide +kernel) (by decide +kernel) (by decide +kernel) (fun _ _ _ h => h) (Or.inl ⟨by rfl, ?_⟩) (by assumption) ?_
  rotate_left
  ·intro w hSw
   have hSw := hSu _ hSw
   try dsimp only at hSw
   go_simp
   try with_reducible rfl
  try simp only [List.getElem_toArray, List.getElem_cons_succ, List.getElem_cons_zero, Act.put, List.setIfInBounds_toArray, List.set_cons_zero, List.set_cons_succ]
  refine wpAnyH_take (i := 2) (v := ?_) rfl (by decide +kernel) (by decide +kernel) (by decide +kernel) (fun _ _ _ h => h) (Or.inl ⟨by rfl, ?_⟩) (by assumption) ?_
  rotate_left
  ·intro w hSw
   have hSw := hSu _ hSw
   try dsimp only at hSw
   go_simp
   try with_reducible rfl
  try simp only [List.getElem_toArray, List.getElem_cons_succ, List.getElem_cons_zero, Act.put, List.setIfInBounds_toArray, List.set_cons_zero, List.set_cons_succ]
  refine wpAnyH_take (i := 4) (v := ?_) rfl (by decide +kernel) (by decide +kernel) (by decide +kernel) (fun _ _ _ h => h) (Or.inl ⟨by rfl, ?_⟩) (by assumption) ?_
  rotate_left
  ·intro w hSw
   have hSw := hSu _ hSw
   try dsimp only at hSw
   go_simp
   try with_reducible rfl
  try simp only [List.getElem_toArray, List.getElem_cons_succ, List.getElem_cons_zero, Act.put, List.setIfInBounds_toArray, List.set_cons_zero, List.set_cons_succ]
  refine wpAnyH_take (i := 5) (v := ?_) rfl (by decide +kernel) (by decide +kernel) (by decide +kernel) (fun _ _ _ h => h) (Or.inl ⟨by rfl, ?_⟩) (by assumption) ?_
  rotate_left
  ·intro w hSw
   have hSw := hSu _ hSw
   try dsimp only at hSw
   go_simp
   try with_reducible rfl
  try simp only [List.getElem_toArray, List.getElem_cons_succ, List.getElem_cons_zero, Act.put, List.setIfInBounds_toArray, List.set_cons_zero, List.set_cons_succ]
  refine wpAnyH_take (i := 6) (v := ?_) rfl (by decide +kernel) (by decide +kernel) (by decide +kernel) (fun _ _ _ h => h) (Or.inl ⟨by rfl, ?_⟩) (by assumption) ?_
  rotate_left
  ·intro w hSw
   have hSw := hSu _ hSw
   try dsimp only at hSw
   go_simp
   try with_reducible rfl
  try simp only [List.getElem_toArray, List.getElem_cons_succ, List.getElem_cons_zero, Act.put, List.setIfInBounds_toArray, List.set_cons_zero, List.set_cons_succ]
  refine wpAnyH_take (i := 8) (v := ?_) rfl (by decide +kernel) (by decide +kernel) (by decide +kernel) (fun _ _ _ h => h) (Or.inl ⟨by rfl, ?_⟩) (by assumption) ?_
  rotate_left
  ·intro w hSw
   have hSw := hSu _ hSw
   try dsimp only at hSw
   go_simp
   try with_reducible rfl
  try simp only [List.getElem_toArray, List.getElem_cons_succ, List.getElem_cons_zero, Act.put, List.setIfInBounds_toArray, List.set_cons_zero, List.set_cons_succ]
  refine wpAnyH_take (i := 9) (v := ?_) rfl (by decide +kernel) (by decide +kernel) (by decide +kernel) (fun _ _ _ h => h) (Or.inl ⟨by rfl, ?_⟩) (by assumption) ?_
  rotate_left
  ·intro w hSw
   have hSw := hSu _ hSw
   try dsimp only at hSw
   go_simp
   try with_reducible rfl
  try simp only [List.getElem_toArray, List.getElem_cons_succ, List.getElem_cons_zero, Act.put, List.setIfInBounds_toArray, List.set_cons_zero, List.set_cons_succ]
  refine wpAnyH_take (i := 10) (v := .bool true) rfl (by decide +kernel) (by decide +kernel) (by decide +kernel) (fun _ _ _ h => h) (Or.inl ⟨by rfl, ?_⟩) (by assumption) ?_
  ·intro w hSw
   have hSw := hSu _ hSw
   try dsimp only at hSw
   go_simp
  try simp only [List.getElem_toArray, List.getElem_cons_succ, List.getElem_cons_zero, Act.put, List.setIfInBounds_toArray, List.set_cons_zero, List.set_cons_succ]
  refine wpAnyH_ready (rs := [3]) (by decide +kernel) (by simp) ?_
  refine AllReadyH.cons rfl (fun K hK => ?_) AllReadyH.nil
  ·go_simp
   refine (HC.out _ HBU.out HQD.out).mono ?_
   rintro e w2 ⟨q2, rfl, hg, hb⟩
   dsimp only [yV, xV]
   have HG := Lib.hid hg
   have HB2 := Lib.hid hb
   have HMX := Lib.hid (HMD.out.adds hb)
   have HZ2 := Lib.hid (HZD.out.below hb)
   have hS5 : S w2 := SK.out _ _ (fun _ => False) (.ofBelow hb) (fun h => h) (fun h => h) hHeld
   clear hg hb
   go_wp2_with fail
   refine hK.out _ _ hS5 (fun hHeld => ?_)
   clear hK K hS5
   try simp only [List.getElem_toArray, List.getElem_cons_succ, List.getElem_cons_zero, Act.put, List.setIfInBounds_toArray, List.set_cons_zero, List.set_cons_succ]
   refine wpAnyH_ready (rs := [7]) (by decide +kernel) (by simp) ?_
   refine AllReadyH.cons rfl (fun K hK => ?_) AllReadyH.nil
   go_simp
   refine (CE.out _ _ HMX.out).mono ?_
   rintro e w1 ⟨rfl, hm, hk⟩
   have HM4 := Lib.hid hm
   have HK4 := Lib.hid hk
   have HZ4 := Lib.hid (HZ2.out.mb hk (.inl (.inr (by omega))))
   have hS5 : S w1 := SK.out _ _ _ hk (fun z => z.1 (.inl (.inr (by omega)))) (fun z => z.1 (.inl (.inr (by omega)))) hHeld
   clear hm hk
   go_wp2_with fail
   refine hK.out _ _ hS5 (fun hHeld => ?_)
   clear hK K hS5
   try simp only [List.getElem_toArray, List.getElem_cons_succ, List.getElem_cons_zero, Act.put, List.setIfInBounds_toArray, List.set_cons_zero, List.set_cons_succ]
   refine wpAnyH_take (i := 11) (v := .bool true) rfl (by decide +kernel) (by decide +kernel) (by decide +kernel) (fun _ _ _ h => h) (Or.inl ⟨by rfl, ?_⟩) (by assumption) ?_
   ·intro w hSw
    have hSw := hSu _ hSw
    try dsimp only at hSw
    go_simp
   try simp only [List.getElem_toArray, List.getElem_cons_succ, List.getElem_cons_zero, Act.put, List.setIfInBounds_toArray, List.set_cons_zero, List.set_cons_succ]
   refine wpAnyH_take (i := 12) (v := ?_) rfl (by decide +kernel) (by decide +kernel) (by decide +kernel) (fun _ _ _ h => h) (Or.inl ⟨by rfl, ?_⟩) (by assumption) ?_
   rotate_left
   ·intro w hSw
    have hSw := hSu _ hSw
    try dsimp only at hSw
    go_simp
    try with_reducible rfl
   try simp only [List.getElem_toArray, List.getElem_cons_succ, List.getElem_cons_zero, Act.put, List.setIfInBounds_toArray, List.set_cons_zero, List.set_cons_succ]
   refine wpAnyH_take (i := 13) (v := ?_) rfl (by decide +kernel) (by decide +kernel) (by decide +kernel) (fun _ _ _ h => h) (Or.inl ⟨by rfl, ?_⟩) (by assumption) ?_
   rotate_left
   ·intro w hSw
    have hSw := hSu _ hSw
    try dsimp only at hSw
    go_simp
    try with_reducible rfl
   try simp only [List.getElem_toArray, List.getElem_cons_succ, List.getElem_cons_zero, Act.put, List.setIfInBounds_toArray, List.set_cons_zero, List.set_cons_succ]
   refine wpAnyH_take (i := 14) (v := ?_) rfl (by decide +kernel) (by decide +kernel) (by decide +kernel) (fun _ _ _ h => h) (Or.inl ⟨by rfl, ?_⟩) (by assumption) ?_
   rotate_left
   ·intro w hSw
    have hSw := hSu _ hSw
    try dsimp only at hSw
    go_simp
    try with_reducible rfl
   try simp only [List.getElem_toArray, List.getElem_cons_succ, List.getElem_cons_zero, Act.put, List.setIfInBounds_toArray, List.set_cons_zero, List.set_cons_succ]
   refine wpAnyH_take (i := 15) (v := ?_) rfl (by decide +kernel) (by decide +kernel) (by decide +kernel) (fun _ _ _ h => h) (Or.inl ⟨by rfl, ?_⟩) (by assumption) ?_
   rotate_left
   ·intro w hSw
    have hSw := hSu _ hSw
    try dsimp only at hSw
    go_simp
    try with_reducible rfl
   try simp only [List.getElem_toArray, List.getElem_cons_succ, List.getElem_cons_zero, Act.put, List.setIfInBounds_toArray, List.set_cons_zero, List.set_cons_succ]
   refine wpAnyH_take (i := 16) (v := ?_) rfl (by decide +kernel) (by decide +kernel) (by decide +kernel) (fun _ _ _ h => h) (Or.inl ⟨by rfl, ?_⟩) (by assumption) ?_
   rotate_left
   ·intro w hSw
    have hSw := hSu _ hSw
    try dsimp only at hSw
    go_simp
    try with_reducible rfl
   try simp only [List.getElem_toArray, List.getElem_cons_succ, List.getElem_cons_zero, Act.put, List.setIfInBounds_toArray, List.set_cons_zero, List.set_cons_succ]
   refine wpAnyH_take (i := 17) (v := ?_) rfl (by decide +kernel) (by decide +kernel) (by decide +kernel) (fun _ _ _ h => h) (Or.inl ⟨by rfl, ?_⟩) (by assumption) ?_
   rotate_left
   ·intro w hSw
    have hSw := hSu _ hSw
    try dsimp only at hSw
    go_simp
    try with_reducible rfl
   try simp only [List.getElem_toArray, List.getElem_cons_succ, List.getElem_cons_zero, Act.put, List.setIfInBounds_toArray, List.set_cons_zero, List.set_cons_succ]
   refine wpAnyH_take (i := 18) (v := ?_) rfl (by decide +kernel) (by decide +kernel) (by decide +kernel) (fun _ _ _ h => h) (Or.inl ⟨by rfl, ?_⟩) (by assumption) ?_
   rotate_left
   ·intro w hSw
    have hSw := hSu _ hSw
    try dsimp only at hSw
    go_simp
    try with_reducible rfl
   try simp only [List.getElem_toArray, List.getElem_cons_succ, List.getElem_cons_zero, Act.put, List.setIfInBounds_toArray, List.set_cons_zero, List.set_cons_succ]
   refine wpAnyH_take (i := 19) (v := ?_) rfl (by decide +kernel) (by decide +kernel) (by decide +kernel) (fun _ _ _ h => h) (Or.inl ⟨by rfl, ?_⟩) (by assumption) ?_
   rotate_left
   ·intro w hSw
    have hSw := hSu _ hSw
    try dsimp only at hSw
    go_simp
    try with_reducible rfl
   try simp only [List.getElem_toArray, List.getElem_cons_succ, List.getElem_cons_zero, Act.put, List.setIfInBounds_toArray, List.set_cons_zero, List.set_cons_succ]
   refine wpAnyH_ready (rs := [20]) (by decide +kernel) (by simp) ?_
   refine AllReadyH.cons rfl (fun K hK => ?_) AllReadyH.nil
   have p0 := HZ4.out.at 0 _ rfl
   have p1 := HZ4.out.at 1 _ rfl
   have p2 := HZ4.out.at 2 _ rfl
   have p3 := HZ4.out.at 3 _ rfl
   have p4 := HZ4.out.at 4 _ rfl
   have p5 := HZ4.out.at 5 _ rfl
   have p6 := HZ4.out.at 6 _ rfl
   have p7 := HZ4.out.at 7 _ rfl
   have p8 := HZ4.out.at 8 _ rfl
   have fp := HZ4.out.2.1
   have zp := HZ4.out.2.2
   go_simp
   rw [set9_eq]
   obtain ⟨Y, hY⟩ : ∃ Y, World.setCells w1 (w.heap.size + 1 + 1) 0 [.int .u64 y2.sz, .slice q2.A1 y2.ws.length q2.c1, .int .i64 y2.most, .slice q2.A2 y2.es.length q2.c2, .slice q2.A3 y2.ks.length q2.c3, .bool y2.on, .int .u64 y2.root, .int .i64 y2.asid, .slice q2.A4 y2.ps.length q2.c4] = Y := ⟨_, rfl⟩
   have hk9 : Kp (fun k => k = w.heap.size + 1 + 1) w1 Y := hY ▸ (Kp.refl (fun k => k = w.heap.size + 1 + 1) w1).setCells (.inl rfl) 0 [.int .u64 y2.sz, .slice q2.A1 y2.ws.length q2.c1, .int .i64 y2.most, .slice q2.A2 y2.es.length q2.c2, .slice q2.A3 y2.ks.length q2.c3, .bool y2.on, .int .u64 y2.root, .int .i64 y2.asid, .slice q2.A4 y2.ps.length q2.c4]
   have hS9 : S Y := SK.out _ _ _ hk9 (by omega) (by omega) hHeld
   have HK9 := Lib.hid hk9
   rw [hY]
   refine hK.out _ _ hS9 (fun hHeld => ?_)
   clear hK K hS9
   try simp only [List.getElem_toArray, List.getElem_cons_succ, List.getElem_cons_zero, Act.put, List.setIfInBounds_toArray, List.set_cons_zero, List.set_cons_succ]
   clear hk9
   refine wpAnyH_take (i := 21) (v := ?_) rfl (by decide +kernel) (by decide +kernel) (by decide +kernel) (fun _ _ _ h => h) (Or.inl ⟨by rfl, ?_⟩) (by assumption) ?_
   rotate_left
   ·intro w hSw
    have hSw := hSu _ hSw
    try dsimp only at hSw
    go_simp
    try with_reducible rfl
   try simp only [List.getElem_toArray, List.getElem_cons_succ, List.getElem_cons_zero, Act.put, List.setIfInBounds_toArray, List.set_cons_zero, List.set_cons_succ]
   refine wpAnyH_done (by decide +kernel) ?_ _
   have HZ5 : Hid (Box Y (w.heap.size + 1 + 1) [.int .u64 y2.sz, .slice q2.A1 y2.ws.length q2.c1, .int .i64 y2.most, .slice q2.A2 y2.es.length q2.c2, .slice q2.A3 y2.ks.length q2.c3, .bool y2.on, .int .u64 y2.root, .int .i64 y2.asid, .slice q2.A4 y2.ps.length q2.c4]) := hY ▸ HZ4.out.put rfl
   clear hY
   have p0 := HZ5.out.at 0 _ rfl
   have p1 := HZ5.out.at 1 _ rfl
   have p2 := HZ5.out.at 2 _ rfl
   have p3 := HZ5.out.at 3 _ rfl
   have p4 := HZ5.out.at 4 _ rfl
   have p5 := HZ5.out.at 5 _ rfl
   have p6 := HZ5.out.at 6 _ rfl
   have p7 := HZ5.out.at 7 _ rfl
   have p8 := HZ5.out.at 8 _ rfl
   have fp := HZ5.out.2.1
   have zp := HZ5.out.2.2
   go_wp2_with fail
   refine bodyPost_ret (v := .tuple #[yV y2 q2, _]) (by simp [results, Tryz.results14, go_sem, zp, p0, p1, p2, p3, p4, p5, p6, p7, p8, yV, xV]; rfl) rfl ?_
   have hbd : Below w.heap.size w W.drew := HB0.out.drew
   have hk2 : Kp (KB B w0) w w1 := (Kp.ofBelow (hbd.trans (HB2.out.mono hbd.size))).trans HK4.out (fun i z => .inl ⟨fun b => z.1 (.inl (.inl b)), z.2⟩)
   have hbs : ∀ k, R k → k < w.heap.size := fun k z => HBM.out k (HRB.out k z)
   have hg0 : YAt (fun k => R k ∨ (W.drew.heap.size ≤ k ∧ k < w2.heap.size)) y2 q2 w2 := HG.out.mono (fun k hk z => z.elim (fun z => .inl z) (fun z => .inr ⟨z, hk⟩))
   exact ⟨q2, _, (by first | rfl | (cases RB <;> cases g2 <;> rfl)), HM4.out.own (HK9.out.mono (fun k z => .inl (.inr (by omega)))), ((hg0.kept HK4.out (fun k z e => e.1 (z.elim (fun z => .inl (.inl (HRB.out k z))) (fun z => .inr z)))).kept HK9.out (fun k z e => by rcases z with z | z; have := hbs k z; omega; omega)).mono (fun k _ z => z.elim (fun z => ⟨.inl z, .inl (.inl (HRB.out k z))⟩) (fun z => ⟨.inr (by omega), .inr z⟩)), fun k z => .inl (.inl z), hk2.trans HK9.out (fun i z => .inr (by omega))⟩
set_option maxHeartbeats 4000000 in
theorem stepq_lose {x m pt pk : Nat} {pv : Value} {s : St} {B : Nat → Prop} {w0 w : World} (h : MB x m pt pk pv s B w0 w) (y y2 : Yr) (q : Sl) (sort n : Int) (va wd : Nat) (f l k : Bool) {R : Nat → Prop} (hR : ∀ k, R k → B k) (hr : YAt R y q w)
  (hc : ∀ u, (∀ k, R k → k < u.heap.size) → YAt R y q u → Calls Tryz.prog 45 #[yV y q, .int .i64 n, .bool true] u (YP R y2 (fun v => v) u)) (g1 g2 : Bool) (hg1 : decide (0 ≤ n) = g1) (hg2 : decide (n < (y.ks.length : Int)) = g2) :
  Calls Tryz.prog 14 #[.pointer (some ⟨x, 0, none⟩), yV y q, .agg #[.int .i64 5, .int .i64 sort, .int .i64 n, .int .u64 va, .int .u64 wd, .bool f, .bool l, .bool k]] w (StepQ x m pt pk pv R B w0 { s with ks := dropL s.ks n } y2 (dropB s.ks n == (g1 && g2)) w) := by
 have HC := Lib.hid hc
 clear hc
 unfold yV xV at HC
 have HQ := Lib.hid hr
 have HRB := Lib.hid hR
 have HM := Lib.hid h
 have HBM : Hid (∀ k, B k → k < w.heap.size) := fun k z => h.mine z
 clear h hr hR
 unfold yV xV
 go_enter Tryz.func14, Tryz.ntmps14
 go_upto_region 2 with fail
 generalize hW : World.alloc (World.alloc (World.alloc (World.alloc w _) _) _) _ = W
 have HX : Hid (Box W w.heap.size (xC y.sz y.most y.root y.asid y.on (.slice q.A1 y.ws.length q.c1) (.slice q.A2 y.es.length q.c2) (.slice q.A3 y.ks.length q.c3) (.slice q.A4 y.ps.length q.c4))) := by
  rw [← hW]
  exact (((Box.new w (xC y.sz y.most y.root y.asid y.on (.slice q.A1 y.ws.length q.c1) (.slice q.A2 y.es.length q.c2) (.slice q.A3 y.ks.length q.c3) (.slice q.A4 y.ps.length q.c4)) 36).below (below1 _ _)).below (below1 _ _)).below (below1 _ _)
 have HO : Hid (Box W (w.heap.size + 1) (oC 5 sort n va wd f l k)) := by
  rw [← hW]
  exact ((Box.new' (w.alloc (.cells (xC y.sz y.most y.root y.asid y.on (.slice q.A1 y.ws.length q.c1) (.slice q.A2 y.es.length q.c2) (.slice q.A3 y.ks.length q.c3) (.slice q.A4 y.ps.length q.c4)).toArray 36)) _ (by simp) (oC 5 sort n va wd f l k) 55).below (below1 _ _)).below (below1 _ _)
 have HZ : Hid (Box W (w.heap.size + 2) (xC 0 0 0 0 false (.slice none 0 0) (.slice none 0 0) (.slice none 0 0) (.slice none 0 0))) := by
  rw [← hW]
  exact (Box.new' ((w.alloc (.cells (xC y.sz y.most y.root y.asid y.on (.slice q.A1 y.ws.length q.c1) (.slice q.A2 y.es.length q.c2) (.slice q.A3 y.ks.length q.c3) (.slice q.A4 y.ps.length q.c4)).toArray 36)).alloc (.cells (oC 5 sort n va wd f l k).toArray 55)) _ (by simp) (xC 0 0 0 0 false (.slice none 0 0) (.slice none 0 0) (.slice none 0 0) (.slice none 0 0)) 36).below (below1 _ _)
 have HB0 : Hid (Below w.heap.size w W) := by rw [← hW]; exact (((below1 w _).alloc (by simp) _).alloc (by simp; omega) _).alloc (by simp; omega) _
 have HH : Hid (Box W (w.heap.size + 3) [.bool f, .bool l, .bool k]) := by
  rw [← hW]
  exact Box.new' (((w.alloc (.cells (xC y.sz y.most y.root y.asid y.on (.slice q.A1 y.ws.length q.c1) (.slice q.A2 y.es.length q.c2) (.slice q.A3 y.ks.length q.c3) (.slice q.A4 y.ps.length q.c4)).toArray 36)).alloc (.cells (oC 5 sort n va wd f l k).toArray 55)).alloc (.cells (xC 0 0 0 0 false (.slice none 0 0) (.slice none 0 0) (.slice none 0 0) (.slice none 0 0)).toArray 36)) _ (by simp) [.bool f, .bool l, .bool k] 41
 clear hW
 have hz9 : w.heap.size + 3 < W.heap.size := HH.out.2.2
 have HM2 := Lib.hid (HM.out.adds HB0.out)
 have HQW := Lib.hid (HQ.out.below HB0.out)
 clear HQ
 have o0 := HO.out.at 0 _ rfl
 have o2 := HO.out.at 2 _ rfl
 have x0 := HX.out.at 0 _ rfl
 have x1 := HX.out.at 1 _ rfl
 have x2 := HX.out.at 2 _ rfl
 have x3 := HX.out.at 3 _ rfl
 have x4 := HX.out.at 4 _ rfl
 have x5 := HX.out.at 5 _ rfl
 have x6 := HX.out.at 6 _ rfl
 have x7 := HX.out.at 7 _ rfl
 have x8 := HX.out.at 8 _ rfl
 have HMD := Lib.hid (HM2.out.below (Below.refl _ _).drew)
 have HQD := Lib.hid (HQW.out.below (Below.refl _ _).drew)
 have HXD := Lib.hid (HX.out.below (Below.refl _ _).drew)
 have HZD := Lib.hid (HZ.out.below (Below.refl _ _).drew)
 have HOD := Lib.hid (HO.out.below (Below.refl _ _).drew)
 have hzd : W.drew.heap.size = W.heap.size := rfl
 have HBU : Hid (∀ k, R k → k < W.drew.heap.size) := fun k z => by have := HBM.out k (HRB.out k z); omega
 obtain ⟨S, hSdef⟩ : ∃ S : World → Prop, S = fun u => u.cell? ⟨w.heap.size, 0, none⟩ = some (.int .u64 y.sz) ∧ u.cell? ⟨w.heap.size, 1, none⟩ = some (.slice q.A1 y.ws.length q.c1) ∧ u.cell? ⟨w.heap.size, 2, none⟩ = some (.int .i64 y.most) ∧ u.cell? ⟨w.heap.size, 3, none⟩ = some (.slice q.A2 y.es.length q.c2) ∧ u.cell? ⟨w.heap.size, 4, none⟩ = some (.slice q.A3 y.ks.length q.c3) ∧ u.cell? ⟨w.heap.size, 5, none⟩ = some (.bool y.on) ∧ u.cell? ⟨w.heap.size, 6, none⟩ = some (.int .u64 y.root) ∧ u.cell? ⟨w.heap.size, 7, none⟩ = some (.int .i64 y.asid) ∧ u.cell? ⟨w.heap.size, 8, none⟩ = some (.slice q.A4 y.ps.length q.c4) ∧ u.cell? ⟨w.heap.size + 1, 2, none⟩ = some (.int .i64 n) := ⟨_, rfl⟩
 have hSu : ∀ u, S u → u.cell? ⟨w.heap.size, 0, none⟩ = some (.int .u64 y.sz) ∧ u.cell? ⟨w.heap.size, 1, none⟩ = some (.slice q.A1 y.ws.length q.c1) ∧ u.cell? ⟨w.heap.size, 2, none⟩ = some (.int .i64 y.most) ∧ u.cell? ⟨w.heap.size, 3, none⟩ = some (.slice q.A2 y.es.length q.c2) ∧ u.cell? ⟨w.heap.size, 4, none⟩ = some (.slice q.A3 y.ks.length q.c3) ∧ u.cell? ⟨w.heap.size, 5, none⟩ = some (.bool y.on) ∧ u.cell? ⟨w.heap.size, 6, none⟩ = some (.int .u64 y.root) ∧ u.cell? ⟨w.heap.size, 7, none⟩ = some (.int .i64 y.asid) ∧ u.cell? ⟨w.heap.size, 8, none⟩ = some (.slice q.A4 y.ps.length q.c4) ∧ u.cell? ⟨w.heap.size + 1, 2, none⟩ = some (.int .i64 n) := fun u h => by rw [hSdef] at h; exact h
 have hSi : ∀ u, (u.cell? ⟨w.heap.size, 0, none⟩ = some (.int .u64 y.sz) ∧ u.cell? ⟨w.heap.size, 1, none⟩ = some (.slice q.A1 y.ws.length q.c1) ∧ u.cell? ⟨w.heap.size, 2, none⟩ = some (.int .i64 y.most) ∧ u.cell? ⟨w.heap.size, 3, none⟩ = some (.slice q.A2 y.es.length q.c2) ∧ u.cell? ⟨w.heap.size, 4, none⟩ = some (.slice q.A3 y.ks.length q.c3) ∧ u.cell? ⟨w.heap.size, 5, none⟩ = some (.bool y.on) ∧ u.cell? ⟨w.heap.size, 6, none⟩ = some (.int .u64 y.root) ∧ u.cell? ⟨w.heap.size, 7, none⟩ = some (.int .i64 y.asid) ∧ u.cell? ⟨w.heap.size, 8, none⟩ = some (.slice q.A4 y.ps.length q.c4) ∧ u.cell? ⟨w.heap.size + 1, 2, none⟩ = some (.int .i64 n)) → S u := fun u h => by rw [hSdef]; exact h
 clear hSdef
 have hS0 : S W.drew := hSi _ ⟨drew_cell x0, drew_cell x1, drew_cell x2, drew_cell x3, drew_cell x4, drew_cell x5, drew_cell x6, drew_cell x7, drew_cell x8, drew_cell o2⟩
 have SK : Hid (∀ u u' F, Kp F u u' → ¬ F w.heap.size → ¬ F (w.heap.size + 1) → S u → S u') := fun u u' F hk n1 n2 h => by
  obtain ⟨q0, q1, q2, q3, q4, q5, q6, q7, q8, q9⟩ := hSu _ h
  exact hSi _ ⟨hk.cell q0 n1, hk.cell q1 n1, hk.cell q2 n1, hk.cell q3 n1, hk.cell q4 n1, hk.cell q5 n1, hk.cell q6 n1, hk.cell q7 n1, hk.cell q8 n1, hk.cell q9 n2⟩
 generalize hRB : dropB s.ks n = RB at *
 generalize hSS : { s with ks := dropL s.ks n } = s2 at *
 have HRQ := Lib.hid hRB
 have HSS := Lib.hid hSS
 clear hRB hSS
 have CE : Hid (∀ B' u, MB x m pt pk pv s B' w0 u → Calls Tryz.prog 26 #[.pointer (some ⟨x, 0, none⟩), .int .i64 n] u fun e w' => e = .returned (.bool RB) ∧ MB x m pt pk pv s2 B' w0 w' ∧ Kp (KB B' w0) u w') := fun B' u hm => by
  rw [← HRQ.out, ← HSS.out]
  exact hm.lose n
 go_upto_region 18 with fail
 clear x0 x1 x2 x3 x4 x5 x6 x7 x8 o2
 cases g1
 ·refine wp_region_held_drew (S := S) (by kernel_rfl) hS0 (fun hHeld => ?_)
  clear hS0
  refine wpAnyH_take (i := 0) (v := ?_) rfl (by decide +kernel) (by decide +kernel) (by decide +kernel) (fun _ _ _ h => h) (Or.inl ⟨by rfl, ?_⟩) (by assumption) ?_
  rotate_left
  ·intro w hSw
   have hSw := hSu _ hSw
   try dsimp only at hSw
   go_simp
   try with_reducible rfl
  try simp only [List.getElem_toArray, List.getElem_cons_succ, List.getElem_cons_zero, Act.put, List.setIfInBounds_toArray, List.set_cons_zero, List.set_cons_succ]
  refine wpAnyH_take (i := 1) (v := ?_) rfl (by decide +kernel) (by decide +kernel) (by decide +kernel) (fun _ _ _ h => h) (Or.inl ⟨by rfl, ?_⟩) (by assumption) ?_
  rotate_left
  ·intro w hSw
   have hSw := hSu _ hSw
   try dsimp only at hSw
   go_simp
   try with_reducible rfl
  try simp only [List.getElem_toArray, List.getElem_cons_succ, List.getElem_cons_zero, Act.put, List.setIfInBounds_toArray, List.set_cons_zero, List.set_cons_succ]
  refine wpAnyH_take (i := 2) (v := ?_) rfl (by decide +kernel) (by decide +kernel) (by decide +kernel) (fun _ _ _ h => h) (Or.inl ⟨by rfl, ?_⟩) (by assumption) ?_
  rotate_left
  ·intro w hSw
   have hSw := hSu _ hSw
   try dsimp only at hSw
   go_simp
   try with_reducible rfl
  try simp only [List.getElem_toArray, List.getElem_cons_succ, List.getElem_cons_zero, Act.put, List.setIfInBounds_toArray, List.set_cons_zero, List.set_cons_succ]
  refine wpAnyH_take (i := 4) (v := ?_) rfl (by decide +kernel) (by decide +kernel) (by decide +kernel) (fun _ _ _ h => h) (Or.inl ⟨by rfl, ?_⟩) (by assumption) ?_
  rotate_left
  ·intro w hSw
   have hSw := hSu _ hSw
   try dsimp only at hSw
   go_simp
   try with_reducible rfl
  try simp only [List.getElem_toArray, List.getElem_cons_succ, List.getElem_cons_zero, Act.put, List.setIfInBounds_toArray, List.set_cons_zero, List.set_cons_succ]
  refine wpAnyH_take (i := 5) (v := ?_) rfl (by decide +kernel) (by decide +kernel) (by decide +kernel) (fun _ _ _ h => h) (Or.inl ⟨by rfl, ?_⟩) (by assumption) ?_
  rotate_left
  ·intro w hSw
   have hSw := hSu _ hSw
   try dsimp only at hSw
   go_simp
   try with_reducible rfl
  try simp only [List.getElem_toArray, List.getElem_cons_succ, List.getElem_cons_zero, Act.put, List.setIfInBounds_toArray, List.set_cons_zero, List.set_cons_succ]
  refine wpAnyH_take (i := 6) (v := ?_) rfl (by decide +kernel) (by decide +kernel) (by decide +kernel) (fun _ _ _ h => h) (Or.inl ⟨by rfl, ?_⟩) (by assumption) ?_
  rotate_left
  ·intro w hSw
   have hSw := hSu _ hSw
   try dsimp only at hSw
   go_simp
   try with_reducible rfl
  try simp only [List.getElem_toArray, List.getElem_cons_succ, List.getElem_cons_zero, Act.put, List.setIfInBounds_toArray, List.set_cons_zero, List.set_cons_succ]
  refine wpAnyH_take (i := 8) (v := ?_) rfl (by decide +kernel) (by decide +kernel) (by decide +kernel) (fun _ _ _ h => h) (Or.inl ⟨by rfl, ?_⟩) (by assumption) ?_
  rotate_left
  ·intro w hSw
   have hSw := hSu _ hSw
   try dsimp only at hSw
   go_simp
   try with_reducible rfl
  try simp only [List.getElem_toArray, List.getElem_cons_succ, List.getElem_cons_zero, Act.put, List.setIfInBounds_toArray, List.set_cons_zero, List.set_cons_succ]
  refine wpAnyH_take (i := 9) (v := ?_) rfl (by decide +kernel) (by decide +kernel) (by decide +kernel) (fun _ _ _ h => h) (Or.inl ⟨by rfl, ?_⟩) (by assumption) ?_
  rotate_left
  ·intro w hSw
   have hSw := hSu _ hSw
   try dsimp only at hSw
   go_simp
   try with_reducible rfl
  try simp only [List.getElem_toArray, List.getElem_cons_succ, List.getElem_cons_zero, Act.put, List.setIfInBounds_toArray, List.set_cons_zero, List.set_cons_succ]
  refine wpAnyH_take (i := 10) (v := .bool false) rfl (by decide +kernel) (by decide +kernel) (by decide +kernel) (fun _ _ _ h => h) (Or.inl ⟨by rfl, ?_⟩) (by assumption) ?_
  ·intro w hSw
   have hSw := hSu _ hSw
   try dsimp only at hSw
   go_simp
  try simp only [List.getElem_toArray, List.getElem_cons_succ, List.getElem_cons_zero, Act.put, List.setIfInBounds_toArray, List.set_cons_zero, List.set_cons_succ]
  refine wpAnyH_ready (rs := [3]) (by decide +kernel) (by simp) ?_
  refine AllReadyH.cons rfl (fun K hK => ?_) AllReadyH.nil
  ·go_simp
   refine (HC.out _ HBU.out HQD.out).mono ?_
   rintro e w2 ⟨q2, rfl, hg, hb⟩
   dsimp only [yV, xV]
   have HG := Lib.hid hg
   have HB2 := Lib.hid hb
   have HMX := Lib.hid (HMD.out.adds hb)
   have HZ2 := Lib.hid (HZD.out.below hb)
   have hS5 : S w2 := SK.out _ _ (fun _ => False) (.ofBelow hb) (fun h => h) (fun h => h) hHeld
   clear hg hb
   go_wp2_with fail
   refine hK.out _ _ hS5 (fun hHeld => ?_)
   clear hK K hS5
   try simp only [List.getElem_toArray, List.getElem_cons_succ, List.getElem_cons_zero, Act.put, List.setIfInBounds_toArray, List.set_cons_zero, List.set_cons_succ]
   refine wpAnyH_ready (rs := [7]) (by decide +kernel) (by simp) ?_
   refine AllReadyH.cons rfl (fun K hK => ?_) AllReadyH.nil
   go_simp
   refine (CE.out _ _ HMX.out).mono ?_
   rintro e w1 ⟨rfl, hm, hk⟩
   have HM4 := Lib.hid hm
   have HK4 := Lib.hid hk
   have HZ4 := Lib.hid (HZ2.out.mb hk (.inl (.inr (by omega))))
   have hS5 : S w1 := SK.out _ _ _ hk (fun z => z.1 (.inl (.inr (by omega)))) (fun z => z.1 (.inl (.inr (by omega)))) hHeld
   clear hm hk
   go_wp2_with fail
   refine hK.out _ _ hS5 (fun hHeld => ?_)
   clear hK K hS5
   try simp only [List.getElem_toArray, List.getElem_cons_succ, List.getElem_cons_zero, Act.put, List.setIfInBounds_toArray, List.set_cons_zero, List.set_cons_succ]
   refine wpAnyH_take (i := 11) (v := .bool false) rfl (by decide +kernel) (by decide +kernel) (by decide +kernel) (fun _ _ _ h => h) (Or.inl ⟨by rfl, ?_⟩) (by assumption) ?_
   ·intro w hSw
    have hSw := hSu _ hSw
    try dsimp only at hSw
    go_simp
   try simp only [List.getElem_toArray, List.getElem_cons_succ, List.getElem_cons_zero, Act.put, List.setIfInBounds_toArray, List.set_cons_zero, List.set_cons_succ]
   refine wpAnyH_take (i := 12) (v := undef) rfl (by decide +kernel) (by decide +kernel) (by decide +kernel) (fun _ _ _ h => h) (Or.inr ⟨by rfl, rfl⟩) (by assumption) ?_
   try simp only [List.getElem_toArray, List.getElem_cons_succ, List.getElem_cons_zero, Act.put, List.setIfInBounds_toArray, List.set_cons_zero, List.set_cons_succ]
   refine wpAnyH_take (i := 13) (v := undef) rfl (by decide +kernel) (by decide +kernel) (by decide +kernel) (fun _ _ _ h => h) (Or.inr ⟨by rfl, rfl⟩) (by assumption) ?_
   try simp only [List.getElem_toArray, List.getElem_cons_succ, List.getElem_cons_zero, Act.put, List.setIfInBounds_toArray, List.set_cons_zero, List.set_cons_succ]
   refine wpAnyH_take (i := 14) (v := undef) rfl (by decide +kernel) (by decide +kernel) (by decide +kernel) (fun _ _ _ h => h) (Or.inr ⟨by rfl, rfl⟩) (by assumption) ?_
   try simp only [List.getElem_toArray, List.getElem_cons_succ, List.getElem_cons_zero, Act.put, List.setIfInBounds_toArray, List.set_cons_zero, List.set_cons_succ]
   refine wpAnyH_take (i := 15) (v := undef) rfl (by decide +kernel) (by decide +kernel) (by decide +kernel) (fun _ _ _ h => h) (Or.inr ⟨by rfl, rfl⟩) (by assumption) ?_
   try simp only [List.getElem_toArray, List.getElem_cons_succ, List.getElem_cons_zero, Act.put, List.setIfInBounds_toArray, List.set_cons_zero, List.set_cons_succ]
   refine wpAnyH_take (i := 16) (v := undef) rfl (by decide +kernel) (by decide +kernel) (by decide +kernel) (fun _ _ _ h => h) (Or.inr ⟨by rfl, rfl⟩) (by assumption) ?_
   try simp only [List.getElem_toArray, List.getElem_cons_succ, List.getElem_cons_zero, Act.put, List.setIfInBounds_toArray, List.set_cons_zero, List.set_cons_succ]
   refine wpAnyH_take (i := 17) (v := undef) rfl (by decide +kernel) (by decide +kernel) (by decide +kernel) (fun _ _ _ h => h) (Or.inr ⟨by rfl, rfl⟩) (by assumption) ?_
   try simp only [List.getElem_toArray, List.getElem_cons_succ, List.getElem_cons_zero, Act.put, List.setIfInBounds_toArray, List.set_cons_zero, List.set_cons_succ]
   refine wpAnyH_take (i := 18) (v := ?_) rfl (by decide +kernel) (by decide +kernel) (by decide +kernel) (fun _ _ _ h => h) (Or.inl ⟨by rfl, ?_⟩) (by assumption) ?_
   rotate_left
   ·intro w hSw
    have hSw := hSu _ hSw
    try dsimp only at hSw
    go_simp
    try with_reducible rfl
   try simp only [List.getElem_toArray, List.getElem_cons_succ, List.getElem_cons_zero, Act.put, List.setIfInBounds_toArray, List.set_cons_zero, List.set_cons_succ]
   refine wpAnyH_take (i := 19) (v := ?_) rfl (by decide +kernel) (by decide +kernel) (by decide +kernel) (fun _ _ _ h => h) (Or.inl ⟨by rfl, ?_⟩) (by assumption) ?_
   rotate_left
   ·intro w hSw
    have hSw := hSu _ hSw
    try dsimp only at hSw
    go_simp
    try with_reducible rfl
   try simp only [List.getElem_toArray, List.getElem_cons_succ, List.getElem_cons_zero, Act.put, List.setIfInBounds_toArray, List.set_cons_zero, List.set_cons_succ]
   refine wpAnyH_ready (rs := [20]) (by decide +kernel) (by simp) ?_
   refine AllReadyH.cons rfl (fun K hK => ?_) AllReadyH.nil
   have p0 := HZ4.out.at 0 _ rfl
   have p1 := HZ4.out.at 1 _ rfl
   have p2 := HZ4.out.at 2 _ rfl
   have p3 := HZ4.out.at 3 _ rfl
   have p4 := HZ4.out.at 4 _ rfl
   have p5 := HZ4.out.at 5 _ rfl
   have p6 := HZ4.out.at 6 _ rfl
   have p7 := HZ4.out.at 7 _ rfl
   have p8 := HZ4.out.at 8 _ rfl
   have fp := HZ4.out.2.1
   have zp := HZ4.out.2.2
   go_simp
   rw [set9_eq]
   obtain ⟨Y, hY⟩ : ∃ Y, World.setCells w1 (w.heap.size + 1 + 1) 0 [.int .u64 y2.sz, .slice q2.A1 y2.ws.length q2.c1, .int .i64 y2.most, .slice q2.A2 y2.es.length q2.c2, .slice q2.A3 y2.ks.length q2.c3, .bool y2.on, .int .u64 y2.root, .int .i64 y2.asid, .slice q2.A4 y2.ps.length q2.c4] = Y := ⟨_, rfl⟩
   have hk9 : Kp (fun k => k = w.heap.size + 1 + 1) w1 Y := hY ▸ (Kp.refl (fun k => k = w.heap.size + 1 + 1) w1).setCells (.inl rfl) 0 [.int .u64 y2.sz, .slice q2.A1 y2.ws.length q2.c1, .int .i64 y2.most, .slice q2.A2 y2.es.length q2.c2, .slice q2.A3 y2.ks.length q2.c3, .bool y2.on, .int .u64 y2.root, .int .i64 y2.asid, .slice q2.A4 y2.ps.length q2.c4]
   have hS9 : S Y := SK.out _ _ _ hk9 (by omega) (by omega) hHeld
   have HK9 := Lib.hid hk9
   rw [hY]
   refine hK.out _ _ hS9 (fun hHeld => ?_)
   clear hK K hS9
   try simp only [List.getElem_toArray, List.getElem_cons_succ, List.getElem_cons_zero, Act.put, List.setIfInBounds_toArray, List.set_cons_zero, List.set_cons_succ]
   clear hk9
   refine wpAnyH_take (i := 21) (v := ?_) rfl (by decide +kernel) (by decide +kernel) (by decide +kernel) (fun _ _ _ h => h) (Or.inl ⟨by rfl, ?_⟩) (by assumption) ?_
   rotate_left
   ·intro w hSw
    have hSw := hSu _ hSw
    try dsimp only at hSw
    go_simp
    try with_reducible rfl
   try simp only [List.getElem_toArray, List.getElem_cons_succ, List.getElem_cons_zero, Act.put, List.setIfInBounds_toArray, List.set_cons_zero, List.set_cons_succ]
   refine wpAnyH_done (by decide +kernel) ?_ _
   have HZ5 : Hid (Box Y (w.heap.size + 1 + 1) [.int .u64 y2.sz, .slice q2.A1 y2.ws.length q2.c1, .int .i64 y2.most, .slice q2.A2 y2.es.length q2.c2, .slice q2.A3 y2.ks.length q2.c3, .bool y2.on, .int .u64 y2.root, .int .i64 y2.asid, .slice q2.A4 y2.ps.length q2.c4]) := hY ▸ HZ4.out.put rfl
   clear hY
   have p0 := HZ5.out.at 0 _ rfl
   have p1 := HZ5.out.at 1 _ rfl
   have p2 := HZ5.out.at 2 _ rfl
   have p3 := HZ5.out.at 3 _ rfl
   have p4 := HZ5.out.at 4 _ rfl
   have p5 := HZ5.out.at 5 _ rfl
   have p6 := HZ5.out.at 6 _ rfl
   have p7 := HZ5.out.at 7 _ rfl
   have p8 := HZ5.out.at 8 _ rfl
   have fp := HZ5.out.2.1
   have zp := HZ5.out.2.2
   go_wp2_with fail
   refine bodyPost_ret (v := .tuple #[yV y2 q2, _]) (by simp [results, Tryz.results14, go_sem, zp, p0, p1, p2, p3, p4, p5, p6, p7, p8, yV, xV]; rfl) rfl ?_
   have hbd : Below w.heap.size w W.drew := HB0.out.drew
   have hk2 : Kp (KB B w0) w w1 := (Kp.ofBelow (hbd.trans (HB2.out.mono hbd.size))).trans HK4.out (fun i z => .inl ⟨fun b => z.1 (.inl (.inl b)), z.2⟩)
   have hbs : ∀ k, R k → k < w.heap.size := fun k z => HBM.out k (HRB.out k z)
   have hg0 : YAt (fun k => R k ∨ (W.drew.heap.size ≤ k ∧ k < w2.heap.size)) y2 q2 w2 := HG.out.mono (fun k hk z => z.elim (fun z => .inl z) (fun z => .inr ⟨z, hk⟩))
   exact ⟨q2, _, (by first | rfl | (cases RB <;> cases g2 <;> rfl)), HM4.out.own (HK9.out.mono (fun k z => .inl (.inr (by omega)))), ((hg0.kept HK4.out (fun k z e => e.1 (z.elim (fun z => .inl (.inl (HRB.out k z))) (fun z => .inr z)))).kept HK9.out (fun k z e => by rcases z with z | z; have := hbs k z; omega; omega)).mono (fun k _ z => z.elim (fun z => ⟨.inl z, .inl (.inl (HRB.out k z))⟩) (fun z => ⟨.inr (by omega), .inr z⟩)), fun k z => .inl (.inl z), hk2.trans HK9.out (fun i z => .inr (by omega))⟩
 ·refine wp_region_held_drew (S := S) (by kernel_rfl) hS0 (fun hHeld => ?_)
  clear hS0
  refine wpAnyH_take (i := 0) (v := ?_) rfl (by decide +kernel) (by decide +kernel) (by decide +kernel) (fun _ _ _ h => h) (Or.inl ⟨by rfl, ?_⟩) (by assumption) ?_
  rotate_left
  ·intro w hSw
   have hSw := hSu _ hSw
   try dsimp only at hSw
   go_simp
   try with_reducible rfl
  try simp only [List.getElem_toArray, List.getElem_cons_succ, List.getElem_cons_zero, Act.put, List.setIfInBounds_toArray, List.set_cons_zero, List.set_cons_succ]
  refine wpAnyH_take (i := 1) (v := ?_) rfl (by decide +kernel) (by decide +kernel) (by decide +kernel) (fun _ _ _ h => h) (Or.inl ⟨by rfl, ?_⟩) (by assumption) ?_
  rotate_left
  ·intro w hSw
   have hSw := hSu _ hSw
   try dsimp only at hSw
   go_simp
   try with_reducible rfl
  try simp only [List.getElem_toArray, List.getElem_cons_succ, List.getElem_cons_zero, Act.put, List.setIfInBounds_toArray, List.set_cons_zero, List.set_cons_succ]
  refine wpAnyH_take (i := 2) (v := ?_) rfl (by decide +kernel) (by decide +kernel) (by decide +kernel) (fun _ _ _ h => h) (Or.inl ⟨by rfl, ?_⟩) (by assumption) ?_
  rotate_left
  ·intro w hSw
   have hSw := hSu _ hSw
   try dsimp only at hSw
   go_simp
   try with_reducible rfl
  try simp only [List.getElem_toArray, List.getElem_cons_succ, List.getElem_cons_zero, Act.put, List.setIfInBounds_toArray, List.set_cons_zero, List.set_cons_succ]
  refine wpAnyH_take (i := 4) (v := ?_) rfl (by decide +kernel) (by decide +kernel) (by decide +kernel) (fun _ _ _ h => h) (Or.inl ⟨by rfl, ?_⟩) (by assumption) ?_
  rotate_left
  ·intro w hSw
   have hSw := hSu _ hSw
   try dsimp only at hSw
   go_simp
   try with_reducible rfl
  try simp only [List.getElem_toArray, List.getElem_cons_succ, List.getElem_cons_zero, Act.put, List.setIfInBounds_toArray, List.set_cons_zero, List.set_cons_succ]
  refine wpAnyH_take (i := 5) (v := ?_) rfl (by decide +kernel) (by decide +kernel) (by decide +kernel) (fun _ _ _ h => h) (Or.inl ⟨by rfl, ?_⟩) (by assumption) ?_
  rotate_left
  ·intro w hSw
   have hSw := hSu _ hSw
   try dsimp only at hSw
   go_simp
   try with_reducible rfl
  try simp only [List.getElem_toArray, List.getElem_cons_succ, List.getElem_cons_zero, Act.put, List.setIfInBounds_toArray, List.set_cons_zero, List.set_cons_succ]
  refine wpAnyH_take (i := 6) (v := ?_) rfl (by decide +kernel) (by decide +kernel) (by decide +kernel) (fun _ _ _ h => h) (Or.inl ⟨by rfl, ?_⟩) (by assumption) ?_
  rotate_left
  ·intro w hSw
   have hSw := hSu _ hSw
   try dsimp only at hSw
   go_simp
   try with_reducible rfl
  try simp only [List.getElem_toArray, List.getElem_cons_succ, List.getElem_cons_zero, Act.put, List.setIfInBounds_toArray, List.set_cons_zero, List.set_cons_succ]
  refine wpAnyH_take (i := 8) (v := ?_) rfl (by decide +kernel) (by decide +kernel) (by decide +kernel) (fun _ _ _ h => h) (Or.inl ⟨by rfl, ?_⟩) (by assumption) ?_
  rotate_left
  ·intro w hSw
   have hSw := hSu _ hSw
   try dsimp only at hSw
   go_simp
   try with_reducible rfl
  try simp only [List.getElem_toArray, List.getElem_cons_succ, List.getElem_cons_zero, Act.put, List.setIfInBounds_toArray, List.set_cons_zero, List.set_cons_succ]
  refine wpAnyH_take (i := 9) (v := ?_) rfl (by decide +kernel) (by decide +kernel) (by decide +kernel) (fun _ _ _ h => h) (Or.inl ⟨by rfl, ?_⟩) (by assumption) ?_
  rotate_left
  ·intro w hSw
   have hSw := hSu _ hSw
   try dsimp only at hSw
   go_simp
   try with_reducible rfl
  try simp only [List.getElem_toArray, List.getElem_cons_succ, List.getElem_cons_zero, Act.put, List.setIfInBounds_toArray, List.set_cons_zero, List.set_cons_succ]
  refine wpAnyH_take (i := 10) (v := .bool true) rfl (by decide +kernel) (by decide +kernel) (by decide +kernel) (fun _ _ _ h => h) (Or.inl ⟨by rfl, ?_⟩) (by assumption) ?_
  ·intro w hSw
   have hSw := hSu _ hSw
   try dsimp only at hSw
   go_simp
  try simp only [List.getElem_toArray, List.getElem_cons_succ, List.getElem_cons_zero, Act.put, List.setIfInBounds_toArray, List.set_cons_zero, List.set_cons_succ]
  refine wpAnyH_ready (rs := [3]) (by decide +kernel) (by simp) ?_
  refine AllReadyH.cons rfl (fun K hK => ?_) AllReadyH.nil
  ·go_simp
   refine (HC.out _ HBU.out HQD.out).mono ?_
   rintro e w2 ⟨q2, rfl, hg, hb⟩
   dsimp only [yV, xV]
   have HG := Lib.hid hg
   have HB2 := Lib.hid hb
   have HMX := Lib.hid (HMD.out.adds hb)
   have HZ2 := Lib.hid (HZD.out.below hb)
   have hS5 : S w2 := SK.out _ _ (fun _ => False) (.ofBelow hb) (fun h => h) (fun h => h) hHeld
   clear hg hb
   go_wp2_with fail
   refine hK.out _ _ hS5 (fun hHeld => ?_)
   clear hK K hS5
   try simp only [List.getElem_toArray, List.getElem_cons_succ, List.getElem_cons_zero, Act.put, List.setIfInBounds_toArray, List.set_cons_zero, List.set_cons_succ]
   refine wpAnyH_ready (rs := [7]) (by decide +kernel) (by simp) ?_
   refine AllReadyH.cons rfl (fun K hK => ?_) AllReadyH.nil
   go_simp
   refine (CE.out _ _ HMX.out).mono ?_
   rintro e w1 ⟨rfl, hm, hk⟩
   have HM4 := Lib.hid hm
   have HK4 := Lib.hid hk
   have HZ4 := Lib.hid (HZ2.out.mb hk (.inl (.inr (by omega))))
   have hS5 : S w1 := SK.out _ _ _ hk (fun z => z.1 (.inl (.inr (by omega)))) (fun z => z.1 (.inl (.inr (by omega)))) hHeld
   clear hm hk
   go_wp2_with fail
   refine hK.out _ _ hS5 (fun hHeld => ?_)
   clear hK K hS5
   try simp only [List.getElem_toArray, List.getElem_cons_succ, List.getElem_cons_zero, Act.put, List.setIfInBounds_toArray, List.set_cons_zero, List.set_cons_succ]
   refine wpAnyH_take (i := 11) (v := .bool true) rfl (by decide +kernel) (by decide +kernel) (by decide +kernel) (fun _ _ _ h => h) (Or.inl ⟨by rfl, ?_⟩) (by assumption) ?_
   ·intro w hSw
    have hSw := hSu _ hSw
    try dsimp only at hSw
    go_simp
   try simp only [List.getElem_toArray, List.getElem_cons_succ, List.getElem_cons_zero, Act.put, List.setIfInBounds_toArray, List.set_cons_zero, List.set_cons_succ]
   refine wpAnyH_take (i := 12) (v := ?_) rfl (by decide +kernel) (by decide +kernel) (by decide +kernel) (fun _ _ _ h => h) (Or.inl ⟨by rfl, ?_⟩) (by assumption) ?_
   rotate_left
   ·intro w hSw
    have hSw := hSu _ hSw
    try dsimp only at hSw
    go_simp
    try with_reducible rfl
   try simp only [List.getElem_toArray, List.getElem_cons_succ, List.getElem_cons_zero, Act.put, List.setIfInBounds_toArray, List.set_cons_zero, List.set_cons_succ]
   refine wpAnyH_take (i := 13) (v := ?_) rfl (by decide +kernel) (by decide +kernel) (by decide +kernel) (fun _ _ _ h => h) (Or.inl ⟨by rfl, ?_⟩) (by assumption) ?_
   rotate_left
   ·intro w hSw
    have hSw := hSu _ hSw
    try dsimp only at hSw
    go_simp
    try with_reducible rfl
   try simp only [List.getElem_toArray, List.getElem_cons_succ, List.getElem_cons_zero, Act.put, List.setIfInBounds_toArray, List.set_cons_zero, List.set_cons_succ]
   refine wpAnyH_take (i := 14) (v := ?_) rfl (by decide +kernel) (by decide +kernel) (by decide +kernel) (fun _ _ _ h => h) (Or.inl ⟨by rfl, ?_⟩) (by assumption) ?_
   rotate_left
   ·intro w hSw
    have hSw := hSu _ hSw
    try dsimp only at hSw
    go_simp
    try with_reducible rfl
   try simp only [List.getElem_toArray, List.getElem_cons_succ, List.getElem_cons_zero, Act.put, List.setIfInBounds_toArray, List.set_cons_zero, List.set_cons_succ]
   refine wpAnyH_take (i := 15) (v := ?_) rfl (by decide +kernel) (by decide +kernel) (by decide +kernel) (fun _ _ _ h => h) (Or.inl ⟨by rfl, ?_⟩) (by assumption) ?_
   rotate_left
   ·intro w hSw
    have hSw := hSu _ hSw
    try dsimp only at hSw
    go_simp
    try with_reducible rfl
   try simp only [List.getElem_toArray, List.getElem_cons_succ, List.getElem_cons_zero, Act.put, List.setIfInBounds_toArray, List.set_cons_zero, List.set_cons_succ]
   refine wpAnyH_take (i := 16) (v := ?_) rfl (by decide +kernel) (by decide +kernel) (by decide +kernel) (fun _ _ _ h => h) (Or.inl ⟨by rfl, ?_⟩) (by assumption) ?_
   rotate_left
   ·intro w hSw
    have hSw := hSu _ hSw
    try dsimp only at hSw
    go_simp
    try with_reducible rfl
   try simp only [List.getElem_toArray, List.getElem_cons_succ, List.getElem_cons_zero, Act.put, List.setIfInBounds_toArray, List.set_cons_zero, List.set_cons_succ]
   refine wpAnyH_take (i := 17) (v := ?_) rfl (by decide +kernel) (by decide +kernel) (by decide +kernel) (fun _ _ _ h => h) (Or.inl ⟨by rfl, ?_⟩) (by assumption) ?_
   rotate_left
   ·intro w hSw
    have hSw := hSu _ hSw
    try dsimp only at hSw
    go_simp
    try with_reducible rfl
   try simp only [List.getElem_toArray, List.getElem_cons_succ, List.getElem_cons_zero, Act.put, List.setIfInBounds_toArray, List.set_cons_zero, List.set_cons_succ]
   refine wpAnyH_take (i := 18) (v := ?_) rfl (by decide +kernel) (by decide +kernel) (by decide +kernel) (fun _ _ _ h => h) (Or.inl ⟨by rfl, ?_⟩) (by assumption) ?_
   rotate_left
   ·intro w hSw
    have hSw := hSu _ hSw
    try dsimp only at hSw
    go_simp
    try with_reducible rfl
   try simp only [List.getElem_toArray, List.getElem_cons_succ, List.getElem_cons_zero, Act.put, List.setIfInBounds_toArray, List.set_cons_zero, List.set_cons_succ]
   refine wpAnyH_take (i := 19) (v := ?_) rfl (by decide +kernel) (by decide +kernel) (by decide +kernel) (fun _ _ _ h => h) (Or.inl ⟨by rfl, ?_⟩) (by assumption) ?_
   rotate_left
   ·intro w hSw
    have hSw := hSu _ hSw
    try dsimp only at hSw
    go_simp
    try with_reducible rfl
   try simp only [List.getElem_toArray, List.getElem_cons_succ, List.getElem_cons_zero, Act.put, List.setIfInBounds_toArray, List.set_cons_zero, List.set_cons_succ]
   refine wpAnyH_ready (rs := [20]) (by decide +kernel) (by simp) ?_
   refine AllReadyH.cons rfl (fun K hK => ?_) AllReadyH.nil
   have p0 := HZ4.out.at 0 _ rfl
   have p1 := HZ4.out.at 1 _ rfl
   have p2 := HZ4.out.at 2 _ rfl
   have p3 := HZ4.out.at 3 _ rfl
   have p4 := HZ4.out.at 4 _ rfl
   have p5 := HZ4.out.at 5 _ rfl
   have p6 := HZ4.out.at 6 _ rfl
   have p7 := HZ4.out.at 7 _ rfl
   have p8 := HZ4.out.at 8 _ rfl
   have fp := HZ4.out.2.1
   have zp := HZ4.out.2.2
   go_simp
   rw [set9_eq]
   obtain ⟨Y, hY⟩ : ∃ Y, World.setCells w1 (w.heap.size + 1 + 1) 0 [.int .u64 y2.sz, .slice q2.A1 y2.ws.length q2.c1, .int .i64 y2.most, .slice q2.A2 y2.es.length q2.c2, .slice q2.A3 y2.ks.length q2.c3, .bool y2.on, .int .u64 y2.root, .int .i64 y2.asid, .slice q2.A4 y2.ps.length q2.c4] = Y := ⟨_, rfl⟩
   have hk9 : Kp (fun k => k = w.heap.size + 1 + 1) w1 Y := hY ▸ (Kp.refl (fun k => k = w.heap.size + 1 + 1) w1).setCells (.inl rfl) 0 [.int .u64 y2.sz, .slice q2.A1 y2.ws.length q2.c1, .int .i64 y2.most, .slice q2.A2 y2.es.length q2.c2, .slice q2.A3 y2.ks.length q2.c3, .bool y2.on, .int .u64 y2.root, .int .i64 y2.asid, .slice q2.A4 y2.ps.length q2.c4]
   have hS9 : S Y := SK.out _ _ _ hk9 (by omega) (by omega) hHeld
   have HK9 := Lib.hid hk9
   rw [hY]
   refine hK.out _ _ hS9 (fun hHeld => ?_)
   clear hK K hS9
   try simp only [List.getElem_toArray, List.getElem_cons_succ, List.getElem_cons_zero, Act.put, List.setIfInBounds_toArray, List.set_cons_zero, List.set_cons_succ]
   clear hk9
   refine wpAnyH_take (i := 21) (v := ?_) rfl (by decide +kernel) (by decide +kernel) (by decide +kernel) (fun _ _ _ h => h) (Or.inl ⟨by rfl, ?_⟩) (by assumption) ?_
   rotate_left
   ·intro w hSw
    have hSw := hSu _ hSw
    try dsimp only at hSw
    go_simp
    try with_reducible rfl
   try simp only [List.getElem_toArray, List.getElem_cons_succ, List.getElem_cons_zero, Act.put, List.setIfInBounds_toArray, List.set_cons_zero, List.set_cons_succ]
   refine wpAnyH_done (by decide +kernel) ?_ _
   have HZ5 : Hid (Box Y (w.heap.size + 1 + 1) [.int .u64 y2.sz, .slice q2.A1 y2.ws.length q2.c1, .int .i64 y2.most, .slice q2.A2 y2.es.length q2.c2, .slice q2.A3 y2.ks.length q2.c3, .bool y2.on, .int .u64 y2.root, .int .i64 y2.asid, .slice q2.A4 y2.ps.length q2.c4]) := hY ▸ HZ4.out.put rfl
   clear hY
   have p0 := HZ5.out.at 0 _ rfl
   have p1 := HZ5.out.at 1 _ rfl
   have p2 := HZ5.out.at 2 _ rfl
   have p3 := HZ5.out.at 3 _ rfl
   have p4 := HZ5.out.at 4 _ rfl
   have p5 := HZ5.out.at 5 _ rfl
   have p6 := HZ5.out.at 6 _ rfl
   have p7 := HZ5.out.at 7 _ rfl
   have p8 := HZ5.out.at 8 _ rfl
   have fp := HZ5.out.2.1
   have zp := HZ5.out.2.2
   go_wp2_with fail
   refine bodyPost_ret (v := .tuple #[yV y2 q2, _]) (by simp [results, Tryz.results14, go_sem, zp, p0, p1, p2, p3, p4, p5, p6, p7, p8, yV, xV]; rfl) rfl ?_
   have hbd : Below w.heap.size w W.drew := HB0.out.drew
   have hk2 : Kp (KB B w0) w w1 := (Kp.ofBelow (hbd.trans (HB2.out.mono hbd.size))).trans HK4.out (fun i z => .inl ⟨fun b => z.1 (.inl (.inl b)), z.2⟩)
   have hbs : ∀ k, R k → k < w.heap.size := fun k z => HBM.out k (HRB.out k z)
   have hg0 : YAt (fun k => R k ∨ (W.drew.heap.size ≤ k ∧ k < w2.heap.size)) y2 q2 w2 := HG.out.mono (fun k hk z => z.elim (fun z => .inl z) (fun z => .inr ⟨z, hk⟩))
   exact ⟨q2, _, (by first | rfl | (cases RB <;> cases g2 <;> rfl)), HM4.out.own (HK9.out.mono (fun k z => .inl (.inr (by omega)))), ((hg0.kept HK4.out (fun k z e => e.1 (z.elim (fun z => .inl (.inl (HRB.out k z))) (fun z => .inr z)))).kept HK9.out (fun k z e => by rcases z with z | z; have := hbs k z; omega; omega)).mono (fun k _ z => z.elim (fun z => ⟨.inl z, .inl (.inl (HRB.out k z))⟩) (fun z => ⟨.inr (by omega), .inr z⟩)), fun k z => .inl (.inl z), hk2.trans HK9.out (fun i z => .inr (by omega))⟩
end Go.Proofs.YtbapgngngaaojaaGreat
