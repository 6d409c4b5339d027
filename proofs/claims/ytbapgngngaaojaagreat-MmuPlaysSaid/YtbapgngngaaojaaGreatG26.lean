/- The walk of (*Mmu).Sound, with a register: soundM. -/
import Derived.Test.YtbapgngngaaojaaGreatG25
import Derived.Test.YtbapgngngaaojaaGreatG13
set_option linter.unusedSimpArgs false
set_option linter.unusedVariables false
namespace Go.Proofs.YtbapgngngaaojaaGreat
open Go.RowKit Go.Lib
set_option maxRecDepth 100000
attribute [local go_sem high] eqA_Leaf eqA_Fault
theorem sizeLeaf : (Tryz.prog.info? 62).map (·.size) = some 8 := by kernel_rfl
theorem sizeFault : (Tryz.prog.info? 43).map (·.size) = some 2 := by kernel_rfl
theorem Box.there {w : World} {g n : Nat} {cs : List Value} (h : Box w g cs) (hn : n = cs.length) : w.there g 0 n := fun j hj => by
 subst hn
 rw [Nat.zero_add, h.at j cs[j] (List.getElem?_eq_getElem hj)]
 exact ⟨rfl, h.2.1 j⟩
theorem fz_eq (a b : Nat) : ((a : Int) == 0 && ((b : Int) == 0)) = decide ((a, b) = ((0, 0) : Nat × Nat)) := by
 rw [Bool.eq_iff_iff]
 simp [Prod.ext_iff, Int.ofNat_inj]
theorem leaf_eq (xl yl xk xo xt yk yo yt : Nat) (x1 x2 x3 x4 y1 y2 y3 y4 : Bool) : ((xl : Int) == (yl : Int) && (((xk : Int) == (yk : Int) && ((xo : Int) == (yo : Int) && (x1 == y1 && (x2 == y2 && (x3 == y3 && (x4 == y4 && ((xt : Int) == (yt : Int))))))))))
  = decide (xl = yl ∧ (⟨xk, xo, x1, x2, x3, x4, xt⟩ : Dd) = ⟨yk, yo, y1, y2, y3, y4, yt⟩) := by
 rw [Bool.eq_iff_iff]
 simp [Int.ofNat_inj]
set_option maxHeartbeats 3000000 in
theorem msound_some {x m pt pk : Nat} {pv : Value} {Fm Ft Fk : Nat → Prop} {s : St} {w : World} (h : MmuD x m pt pk pv Fm Ft Fk s w) (root asid : Nat) (hr : s.reg = some (root, asid)) :
  Calls Tryz.prog 17 #[.pointer (some ⟨x, 0, none⟩)] w fun e w' => e = .returned (.bool (soundM s)) ∧ Below w.heap.size w w' := by
 have C1 : Hid (Calls Tryz.prog 55 #[.pointer (some ⟨x, 0, none⟩)] w (HeldPost s.reg w)) := held_nat h
 rw [hr] at C1
 have ht := (h.ok.rok root asid hr).1
 have hsz : s.sz < 9223372036854775808 := by have := h.ok.szle; omega
 have hel : s.es.length ≤ 1000 := by have := h.ok.el; have := h.ok.m64; omega
 have hkl : s.ks.length ≤ 1000 := by have := h.ok.kl; have := h.ok.m64; omega
 have C5 : Hid (∀ u, Below w.heap.size w u → Calls Tryz.prog 56 #[.pointer (some ⟨pt, 0, none⟩)] u (ClonePost eL s.es u)) := fun u hb => tlbList_nat (h.tlb.below hb) hel
 have C3 : Hid (∀ va : Nat, ∀ u, Below w.heap.size w u → Calls Tryz.prog 18 #[.pointer (some ⟨m, 0, none⟩), .int .u64 root, .int .u64 va] u fun e w' => e = .returned (.tuple #[leafV (fromP s.sz s.rd 0 root va).level (fromP s.sz s.rd 0 root va).d, fV (fromP s.sz s.rd 0 root va).f]) ∧ Below u.heap.size u w') := fun va u hb =>
  walk_nat (h.mem.below hb) (fun k hk => Nat.lt_of_lt_of_le (h.bm k hk) hb.size) hsz root va ht
 have c0 := h.c0
 have c1 := h.c1
 have c2 := h.c2
 have hx := h.bx
 have C6 : Hid (∀ u, Below w.heap.size w u → Calls Tryz.prog 57 #[.pointer (some ⟨pk, 0, none⟩)] u (ClonePost mL s.ks u)) := fun u hb => trailList_nat (h.trail.below hb) hkl
 have C4 : Hid (∀ va level : Nat, level ≤ 3 → ∀ u, Below w.heap.size w u → Calls Tryz.prog 58 #[.pointer (some ⟨x, 0, none⟩), .agg #[.int .u64 root, .int .i64 asid], .int .u64 va, .int .i64 level] u fun e w' => e = .returned (.tuple #[.int .u64 (tableM s root va level).1, .bool (tableM s root va level).2]) ∧ Below u.heap.size u w') := fun va level hl u hb => mtable_nat (h.below hb) root asid va level ht hl
 have HKV : Hid (∀ k ∈ s.ks, k.level ≤ 3) := fun k hk => (h.ok.kok k hk).2.2.1
 obtain ⟨R, hR⟩ : ∃ R, soundM s = R := ⟨_, rfl⟩
 rw [hR]
 unfold soundM at hR
 rw [hr] at hR
 dsimp only at hR
 have HBE : Hid (∀ e, badE s root asid e = (decide (e.asid = asid) && (!decide ((fromP s.sz s.rd 0 root e.va).f = (0, 0)) || !decide ((fromP s.sz s.rd 0 root e.va).level = e.level ∧ (fromP s.sz s.rd 0 root e.va).d = e.d)))) := fun e => by
  unfold badE
  rw [decide_not, decide_not]
 have HBK : Hid (∀ k, badK s root asid k = (decide (k.asid = asid) && (!(tableM s root k.va k.level).2 || !decide ((tableM s root k.va k.level).1 = k.table)))) := fun k => by
  unfold badK
  rw [decide_not]
 generalize badE s root asid = BE at *
 generalize badK s root asid = BK at *
 generalize tableM s root = TM at *
 have HBadE : Hid (∀ i (hi : i < s.es.length), BE s.es[i] = true → false = R) := fun i hi h => by
  rw [← hR, show s.es.any BE = true from List.any_eq_true.2 ⟨_, List.getElem_mem hi, h⟩]; rfl
 have HBadK : Hid (∀ i (hi : i < s.ks.length), BK s.ks[i] = true → false = R) := fun i hi h => by
  rw [← hR, show s.ks.any BK = true from List.any_eq_true.2 ⟨_, List.getElem_mem hi, h⟩]; simp
 have HGood : Hid ((∀ i (hi : i < s.es.length), BE s.es[i] = false) → (∀ i (hi : i < s.ks.length), BK s.ks[i] = false) → true = R) := fun h4 h5 => by
  have a1 : s.es.any BE = false := List.any_eq_false.2 fun y hy => by obtain ⟨j, hj, e⟩ := List.getElem_of_mem hy; rw [← e, h4 j hj]; simp
  have a2 : s.ks.any BK = false := List.any_eq_false.2 fun y hy => by obtain ⟨j, hj, e⟩ := List.getElem_of_mem hy; rw [← e, h5 j hj]; simp
  rw [← hR, a1, a2]; rfl
 have HKL := Lib.hid hkl
 clear h hr ht hsz hR hkl
 go_enter Tryz.func17, Tryz.ntmps17
 go_upto_region 2 with (go_at_call 55; refine C1.out.mono ?_; rintro e w1 ⟨rfl, hb1⟩; have HBW1 := Lib.hid hb1; clear hb1)
 have HRB : Hid (Box (w1.alloc (.cells #[.int .u64 root, .int .i64 asid] 92)) w1.heap.size [.int .u64 root, .int .i64 asid]) := Box.new w1 [.int .u64 root, .int .i64 asid] 92
 have HB0 : Hid (Below w.heap.size w (w1.alloc (.cells #[.int .u64 root, .int .i64 asid] 92))) := HBW1.out.alloc HBW1.out.size _
 generalize World.alloc w1 _ = W at *
 generalize w1.heap.size = rb at *
 have x1 := keep_cell HB0.out c1
 have hxW : x < W.heap.size := by have := HB0.out.size; omega
 clear HBW1 C1
 go_upto_region 5 with (go_at_call 56; refine (C5.out _ HB0.out).mono ?_; rintro e w2 ⟨A, c, rfl, hrow, hb2⟩; have HBW2 := Lib.hid hb2; have HROW := Lib.hid hrow; clear hrow hb2)
 have HEL := Lib.hid hel
 clear x1 hel
 go_loopw [26] (fun iv wr => ∃ i : Nat, iv = .int .i64 i ∧ i ≤ s.es.length ∧ Hid (∀ j (hj : j < s.es.length), j < i → BE s.es[j] = false) ∧ Hid (Below w2.heap.size w2 wr)) (fun iv _ => s.es.length - (RowKit.intOf iv).toNat)
 case atStart => exact ⟨0, rfl, by omega, fun j hj h => by omega, Below.refl _ _⟩
 case round =>
  obtain ⟨i, rfl, hi, HALL, HB⟩ := hrel
  have hel2 : s.es.length ≤ 1000 := HEL.out
  have HBW : Hid (Below W.heap.size W wr) := HBW2.out.trans (HB.out.mono HBW2.out.size)
  have HWR : Hid (Below w.heap.size w wr) := HB0.out.trans (HBW.out.mono HB0.out.size)
  by_cases hlt : i < s.es.length
  ·obtain ⟨A', c', e, hrr⟩ := HROW.out
   obtain ⟨rfl, -, rfl⟩ := Value.slice.inj e
   obtain ⟨g, o, rfl, hr⟩ := hrr (by omega)
   have hrng : wr.rangeAt g o (rowL eL s.es) := fun j v hj => keep_cell HB.out (hr j v hj)
   have k0 := row_at0 eL_len hrng i hlt _ rfl
   have k1 := row_at eL_len hrng i hlt 1 _ rfl
   have k2 := row_at eL_len hrng i hlt 2 _ rfl
   have k3 := row_at eL_len hrng i hlt 3 _ rfl
   have k4 := row_at eL_len hrng i hlt 4 _ rfl
   have k5 := row_at eL_len hrng i hlt 5 _ rfl
   have k6 := row_at eL_len hrng i hlt 6 _ rfl
   have k7 := row_at eL_len hrng i hlt 7 _ rfl
   have k8 := row_at eL_len hrng i hlt 8 _ rfl
   have k9 := row_at eL_len hrng i hlt 9 _ rfl
   have i1 : (0 : Int) ≤ (i : Int) := by omega
   have i2 : (i : Int) < (s.es.length : Int) := by omega
   clear hrng hr hrr e
   have HBad := Lib.hid (HBadE.out i hlt)
   generalize hy : s.es[i] = y at *
   have HX2 := Lib.hid hy
   clear hy
   obtain ⟨ya, yv, yl, ⟨yk, yo, y1, y2, y3, y4, yt⟩⟩ := y
   dsimp only at k0 k1 k2 k3 k4 k5 k6 k7 k8 k9
   have D3 := Lib.hid (C3.out yv)
   generalize hF : fromP s.sz s.rd 0 root yv = F at *
   have HF := Lib.hid hF
   clear hF
   obtain ⟨Fl, ⟨Fk0, Fo, F1, F2, F3, F4, Ft0⟩, ⟨f1, f2⟩, Fs⟩ := F
   dsimp only [leafV, fV] at D3
   go_upto_region 7 with fail
   have HEB : Hid (Box (wr.alloc (.cells #[.int .i64 ya, .int .u64 yv, .int .i64 yl, .int .i64 yk, .int .u64 yo, .bool y1, .bool y2, .bool y3, .bool y4, .int .i64 yt] 119)) wr.heap.size (eL ⟨ya, yv, yl, ⟨yk, yo, y1, y2, y3, y4, yt⟩⟩)) := Box.new wr (eL ⟨ya, yv, yl, ⟨yk, yo, y1, y2, y3, y4, yt⟩⟩) 119
   have HBV : Hid (Below wr.heap.size wr (wr.alloc (.cells #[.int .i64 ya, .int .u64 yv, .int .i64 yl, .int .i64 yk, .int .u64 yo, .bool y1, .bool y2, .bool y3, .bool y4, .int .i64 yt] 119))) := below1 _ _
   generalize World.alloc wr _ = V at *
   have HWV : Hid (Below w.heap.size w V) := HWR.out.trans (HBV.out.mono HWR.out.size)
   have HWV2 : Hid (Below W.heap.size W V) := HBW.out.trans (HBV.out.mono HBW.out.size)
   have HBW9 : Hid (Below w2.heap.size w2 V) := HB.out.trans (HBV.out.mono HB.out.size)
   generalize wr.heap.size = G at *
   clear k0 k1 k2 k3 k4 k5 k6 k7 k8 k9
   have m0 := keep_cell HWV.out c0
   have r0 := ((HRB.out.below HWV2.out)).at 0 _ rfl
   have e1 := HEB.out.at 1 _ rfl
   go_cut [7, 8] (fun s7 s8 wx => ∃ g7 g8 : Nat, s7 = .pointer (some ⟨g7, 0, none⟩) ∧ s8 = .pointer (some ⟨g8, 0, none⟩) ∧ Hid (Box wx g7 [.int .i64 Fl, .int .i64 Fk0, .int .u64 Fo, .bool F1, .bool F2, .bool F3, .bool F4, .int .i64 Ft0]) ∧ Hid (Box wx g8 [.int .i64 f1, .int .i64 f2]) ∧ Hid (Below V.heap.size V wx))
   case first =>
    have SK : ∀ u, Below V.heap.size V u → u.cell? ⟨x, 0, none⟩ = some (.pointer (some ⟨m, 0, none⟩)) ∧ u.cell? ⟨rb, 0, none⟩ = some (.int .u64 root) ∧ u.cell? ⟨G, 1, none⟩ = some (.int .u64 yv) := fun u h => ⟨keep_cell h m0, keep_cell h r0, keep_cell h e1⟩
    obtain ⟨S, hSdef⟩ : ∃ S : World → Prop, S = fun u => Below V.heap.size V u := ⟨_, rfl⟩
    have hSu : ∀ u, S u → u.cell? ⟨x, 0, none⟩ = some (.pointer (some ⟨m, 0, none⟩)) ∧ u.cell? ⟨rb, 0, none⟩ = some (.int .u64 root) ∧ u.cell? ⟨G, 1, none⟩ = some (.int .u64 yv) := fun u h => by rw [hSdef] at h; exact SK u h
    have hSi : ∀ u, Below V.heap.size V u → S u := fun u h => by rw [hSdef]; exact h
    clear hSdef SK m0 r0 e1
    refine wp_region_held_drew (S := S) (by kernel_rfl) (hSi _ (Below.refl _ _).drew) (fun hHeld => ?_)
    refine wpAnyH_take (i := 0) (v := ?_) rfl (by kernel_rfl) (by kernel_rfl) (by kernel_rfl) (fun _ _ _ h => h) (Or.inl ⟨by rfl, ?_⟩) (by assumption) ?_
    rotate_left
    ·intro w hSw
     have hSw := hSu _ hSw
     try dsimp only at hSw
     go_simp
     try with_reducible rfl
    try simp only [Act.put, List.setIfInBounds_toArray, List.set_cons_zero, List.set_cons_succ]
    refine wpAnyH_take (i := 1) (v := ?_) rfl (by kernel_rfl) (by kernel_rfl) (by kernel_rfl) (fun _ _ _ h => h) (Or.inl ⟨by rfl, ?_⟩) (by assumption) ?_
    rotate_left
    ·intro w hSw
     have hSw := hSu _ hSw
     try dsimp only at hSw
     go_simp
     try with_reducible rfl
    try simp only [Act.put, List.setIfInBounds_toArray, List.set_cons_zero, List.set_cons_succ]
    refine wpAnyH_take (i := 2) (v := ?_) rfl (by kernel_rfl) (by kernel_rfl) (by kernel_rfl) (fun _ _ _ h => h) (Or.inl ⟨by rfl, ?_⟩) (by assumption) ?_
    rotate_left
    ·intro w hSw
     have hSw := hSu _ hSw
     try dsimp only at hSw
     go_simp
     try with_reducible rfl
    try simp only [Act.put, List.setIfInBounds_toArray, List.set_cons_zero, List.set_cons_succ]
    refine wpAnyH_take (i := 3) (v := ?_) rfl (by kernel_rfl) (by kernel_rfl) (by kernel_rfl) (fun _ _ _ h => h) (Or.inl ⟨by rfl, ?_⟩) (by assumption) ?_
    rotate_left
    ·intro w hSw
     have hSw := hSu _ hSw
     try dsimp only at hSw
     go_simp
     try with_reducible rfl
    try simp only [Act.put, List.setIfInBounds_toArray, List.set_cons_zero, List.set_cons_succ]
    refine wpAnyH_take (i := 4) (v := ?_) rfl (by kernel_rfl) (by kernel_rfl) (by kernel_rfl) (fun _ _ _ h => h) (Or.inl ⟨by rfl, ?_⟩) (by assumption) ?_
    rotate_left
    ·intro w hSw
     have hSw := hSu _ hSw
     try dsimp only at hSw
     go_simp
     try with_reducible rfl
    try simp only [Act.put, List.setIfInBounds_toArray, List.set_cons_zero, List.set_cons_succ]
    refine wpAnyH_take (i := 5) (v := ?_) rfl (by kernel_rfl) (by kernel_rfl) (by kernel_rfl) (fun _ _ _ h => h) (Or.inl ⟨by rfl, ?_⟩) (by assumption) ?_
    rotate_left
    ·intro w hSw
     have hSw := hSu _ hSw
     try dsimp only at hSw
     go_simp
     try with_reducible rfl
    try simp only [Act.put, List.setIfInBounds_toArray, List.set_cons_zero, List.set_cons_succ]
    refine wpAnyH_take (i := 6) (v := ?_) rfl (by kernel_rfl) (by kernel_rfl) (by kernel_rfl) (fun _ _ _ h => h) (Or.inl ⟨by rfl, ?_⟩) (by assumption) ?_
    rotate_left
    ·intro w hSw
     have hSw := hSu _ hSw
     try dsimp only at hSw
     go_simp
     try with_reducible rfl
    try simp only [Act.put, List.setIfInBounds_toArray, List.set_cons_zero, List.set_cons_succ]
    refine wpAnyH_take (i := 7) (v := ?_) rfl (by kernel_rfl) (by kernel_rfl) (by kernel_rfl) (fun _ _ _ h => h) (Or.inl ⟨by rfl, ?_⟩) (by assumption) ?_
    rotate_left
    ·intro w hSw
     have hSw := hSu _ hSw
     try dsimp only at hSw
     go_simp
     try with_reducible rfl
    try simp only [Act.put, List.setIfInBounds_toArray, List.set_cons_zero, List.set_cons_succ]
    have O7 : Hid ((#[.int .i64 Fl, .int .i64 Fk0, .int .u64 Fo, .bool F1, .bool F2, .bool F3, .bool F4, .int .i64 Ft0] : Array Value).all (·.oneCell') = true) := all_oneCell_toArray (cs := [.int .i64 Fl, .int .i64 Fk0, .int .u64 Fo, .bool F1, .bool F2, .bool F3, .bool F4, .int .i64 Ft0]) (by intro u hu; simp only [List.mem_cons, List.not_mem_nil, or_false] at hu; rcases hu with rfl | rfl | rfl | rfl | rfl | rfl | rfl | rfl <;> rfl)
    have O8 : Hid ((#[.int .i64 f1, .int .i64 f2] : Array Value).all (·.oneCell') = true) := all_oneCell_toArray (cs := [.int .i64 f1, .int .i64 f2]) (by intro u hu; simp only [List.mem_cons, List.not_mem_nil, or_false] at hu; rcases hu with rfl | rfl <;> rfl)
    have HU : Hid (Below V.heap.size V V.drew) := (Below.refl _ _).drew
    generalize World.drew V = u0 at *
    refine wpAnyH_ready (rs := [8, 12, 13]) (by kernel_rfl) (by simp) ?_
    refine AllReadyH.cons rfl (fun K hK => ?_) (AllReadyH.cons rfl (fun K hK => ?_) (AllReadyH.cons rfl (fun K hK => ?_) (AllReadyH.nil)))
    ·skip
     go_simp
     refine (D3.out _ (HWV.out.trans (HU.out.mono HWV.out.size))).mono ?_
     rintro e u1 ⟨rfl, hb5⟩
     go_wp2_with fail
     have HU1 : Hid (Below V.heap.size V u1) := HU.out.trans (hb5.mono HU.out.size)
     refine hK.out _ _ (hSi _ HU1.out) (fun hHeld => ?_)
     clear hK K
     try simp only [Act.put, List.setIfInBounds_toArray, List.set_cons_zero, List.set_cons_succ]
     clear HU hb5
     have HU := HU1
     clear HU1
     refine wpAnyH_take (i := 9) (v := ?_) rfl (by kernel_rfl) (by kernel_rfl) (by kernel_rfl) (fun _ _ _ h => h) (Or.inl ⟨by rfl, ?_⟩) (by assumption) ?_
     rotate_left
     ·intro w hSw
      have hSw := hSu _ hSw
      try dsimp only at hSw
      go_simp
      try with_reducible rfl
     try simp only [Act.put, List.setIfInBounds_toArray, List.set_cons_zero, List.set_cons_succ]
     refine wpAnyH_take (i := 10) (v := ?_) rfl (by kernel_rfl) (by kernel_rfl) (by kernel_rfl) (fun _ _ _ h => h) (Or.inl ⟨by rfl, ?_⟩) (by assumption) ?_
     rotate_left
     ·intro w hSw
      have hSw := hSu _ hSw
      try dsimp only at hSw
      go_simp
      try with_reducible rfl
     try simp only [Act.put, List.setIfInBounds_toArray, List.set_cons_zero, List.set_cons_succ]
     refine wpAnyH_take (i := 11) (v := ?_) rfl (by kernel_rfl) (by kernel_rfl) (by kernel_rfl) (fun _ _ _ h => h) (Or.inl ⟨by rfl, ?_⟩) (by assumption) ?_
     rotate_left
     ·intro w hSw
      have hSw := hSu _ hSw
      try dsimp only at hSw
      go_simp
      try with_reducible rfl
     try simp only [Act.put, List.setIfInBounds_toArray, List.set_cons_zero, List.set_cons_succ]
     refine wpAnyH_ready (rs := [12, 13]) (by kernel_rfl) (by simp) ?_
     refine AllReadyH.cons rfl (fun K hK => ?_) (AllReadyH.cons rfl (fun K hK => ?_) (AllReadyH.nil))
     ·skip
      go_simp
      have hb5 := below1 u1 (.cells #[.int .i64 0, .int .i64 0, .int .u64 0, .bool false, .bool false, .bool false, .bool false, .int .i64 0] 62)
      have H7 : Hid (Box (World.alloc u1 (.cells #[.int .i64 0, .int .i64 0, .int .u64 0, .bool false, .bool false, .bool false, .bool false, .int .i64 0] 62)) u1.heap.size [.int .i64 0, .int .i64 0, .int .u64 0, .bool false, .bool false, .bool false, .bool false, .int .i64 0]) := Box.new u1 [.int .i64 0, .int .i64 0, .int .u64 0, .bool false, .bool false, .bool false, .bool false, .int .i64 0] 62
      have HU1 : Hid (Below V.heap.size V (World.alloc u1 (.cells #[.int .i64 0, .int .i64 0, .int .u64 0, .bool false, .bool false, .bool false, .bool false, .int .i64 0] 62))) := HU.out.trans (hb5.mono HU.out.size)
      refine hK.out _ _ (hSi _ HU1.out) (fun hHeld => ?_)
      clear hK K
      try simp only [Act.put, List.setIfInBounds_toArray, List.set_cons_zero, List.set_cons_succ]
      have HG7 : Hid (V.heap.size ≤ u1.heap.size) := HU.out.size
      clear HU hb5
      have HU := HU1
      clear HU1
      generalize World.alloc u1 _ = u2 at *
      generalize u1.heap.size = g7 at *
      refine wpAnyH_ready (rs := [13]) (by kernel_rfl) (by simp) ?_
      refine AllReadyH.cons rfl (fun K hK => ?_) (AllReadyH.nil)
      ·skip
       go_simp
       have hb5 := below1 u2 (.cells #[.int .i64 0, .int .i64 0] 43)
       have H8 : Hid (Box (World.alloc u2 (.cells #[.int .i64 0, .int .i64 0] 43)) u2.heap.size [.int .i64 0, .int .i64 0]) := Box.new u2 [.int .i64 0, .int .i64 0] 43
       have HU1 : Hid (Below V.heap.size V (World.alloc u2 (.cells #[.int .i64 0, .int .i64 0] 43))) := HU.out.trans (hb5.mono HU.out.size)
       have HNE : Hid (g7 ≠ u2.heap.size) := Nat.ne_of_lt H7.out.2.2
       replace H7 := Lib.hid (H7.out.below hb5)
       refine hK.out _ _ (hSi _ HU1.out) (fun hHeld => ?_)
       clear hK K
       try simp only [Act.put, List.setIfInBounds_toArray, List.set_cons_zero, List.set_cons_succ]
       have HG8 : Hid (V.heap.size ≤ u2.heap.size) := HU.out.size
       clear HU hb5
       have HU := HU1
       clear HU1
       generalize World.alloc u2 _ = u3 at *
       generalize u2.heap.size = g8 at *
       refine wpAnyH_ready (rs := [14]) (by kernel_rfl) (by simp) ?_
       refine AllReadyH.cons rfl (fun K hK => ?_) (AllReadyH.nil)
       ·skip
        rw [if_pos (by rfl)]
        try simp only [List.getElem_toArray, List.getElem_cons_succ, List.getElem_cons_zero]
        refine wp_store_mid 62 _ _ (by rfl) g7 0 #[.int .i64 Fl, .int .i64 Fk0, .int .u64 Fo, .bool F1, .bool F2, .bool F3, .bool F4, .int .i64 Ft0] (by rfl) (by rfl) (H7.out.there rfl) sizeLeaf O7.out ?_
        have hks := (Kp.refl (fun i => i = g7) u3).setCells (.inl rfl) 0 [.int .i64 Fl, .int .i64 Fk0, .int .u64 Fo, .bool F1, .bool F2, .bool F3, .bool F4, .int .i64 Ft0]
        have HU1 : Hid (Below V.heap.size V (World.setCells u3 g7 0 [.int .i64 Fl, .int .i64 Fk0, .int .u64 Fo, .bool F1, .bool F2, .bool F3, .bool F4, .int .i64 Ft0])) := hks.toBelow HU.out HU.out.size (fun i e => by rw [e]; exact HG7.out)
        replace H7 := Lib.hid (H7.out.put (news := [.int .i64 Fl, .int .i64 Fk0, .int .u64 Fo, .bool F1, .bool F2, .bool F3, .bool F4, .int .i64 Ft0]) rfl)
        replace H8 := Lib.hid (H8.out.kept hks (fun e => by first | exact HNE.out e | exact HNE.out e.symm))
        refine hK.out _ _ (hSi _ HU1.out) (fun hHeld => ?_)
        clear hK K
        try simp only [Act.put, List.setIfInBounds_toArray, List.set_cons_zero, List.set_cons_succ]
        clear HU hks
        have HU := HU1
        clear HU1
        try simp only [List.toList_toArray] at *
        generalize World.setCells u3 _ _ _ = u4 at *
        refine wpAnyH_ready (rs := [15]) (by kernel_rfl) (by simp) ?_
        refine AllReadyH.cons rfl (fun K hK => ?_) (AllReadyH.nil)
        ·skip
         rw [if_pos (by rfl)]
         try simp only [List.getElem_toArray, List.getElem_cons_succ, List.getElem_cons_zero]
         refine wp_store_mid 43 _ _ (by rfl) g8 0 #[.int .i64 f1, .int .i64 f2] (by rfl) (by rfl) (H8.out.there rfl) sizeFault O8.out ?_
         have hks := (Kp.refl (fun i => i = g8) u4).setCells (.inl rfl) 0 [.int .i64 f1, .int .i64 f2]
         have HU1 : Hid (Below V.heap.size V (World.setCells u4 g8 0 [.int .i64 f1, .int .i64 f2])) := hks.toBelow HU.out HU.out.size (fun i e => by rw [e]; exact HG8.out)
         replace H8 := Lib.hid (H8.out.put (news := [.int .i64 f1, .int .i64 f2]) rfl)
         replace H7 := Lib.hid (H7.out.kept hks (fun e => by first | exact HNE.out e | exact HNE.out e.symm))
         refine hK.out _ _ (hSi _ HU1.out) (fun hHeld => ?_)
         clear hK K
         try simp only [Act.put, List.setIfInBounds_toArray, List.set_cons_zero, List.set_cons_succ]
         clear HU hks
         have HU := HU1
         clear HU1
         try simp only [List.toList_toArray] at *
         generalize World.setCells u4 _ _ _ = u5 at *
         refine wpAnyH_done (by kernel_rfl) ?_ _
         try simp only [List.getElem_toArray, List.getElem_cons_succ, List.getElem_cons_zero, Act.put, List.setIfInBounds_toArray, List.set_cons_zero, List.set_cons_succ]
         go_wp2_with fail
         go_meet
         exact ⟨g7, g8, rfl, rfl, H7, H8, HU.out⟩
     ·skip
      go_simp
      have hb5 := below1 u1 (.cells #[.int .i64 0, .int .i64 0] 43)
      have H8 : Hid (Box (World.alloc u1 (.cells #[.int .i64 0, .int .i64 0] 43)) u1.heap.size [.int .i64 0, .int .i64 0]) := Box.new u1 [.int .i64 0, .int .i64 0] 43
      have HU1 : Hid (Below V.heap.size V (World.alloc u1 (.cells #[.int .i64 0, .int .i64 0] 43))) := HU.out.trans (hb5.mono HU.out.size)
      refine hK.out _ _ (hSi _ HU1.out) (fun hHeld => ?_)
      clear hK K
      try simp only [Act.put, List.setIfInBounds_toArray, List.set_cons_zero, List.set_cons_succ]
      have HG8 : Hid (V.heap.size ≤ u1.heap.size) := HU.out.size
      clear HU hb5
      have HU := HU1
      clear HU1
      generalize World.alloc u1 _ = u2 at *
      generalize u1.heap.size = g8 at *
      refine wpAnyH_ready (rs := [12]) (by kernel_rfl) (by simp) ?_
      refine AllReadyH.cons rfl (fun K hK => ?_) (AllReadyH.nil)
      ·skip
       go_simp
       have hb5 := below1 u2 (.cells #[.int .i64 0, .int .i64 0, .int .u64 0, .bool false, .bool false, .bool false, .bool false, .int .i64 0] 62)
       have H7 : Hid (Box (World.alloc u2 (.cells #[.int .i64 0, .int .i64 0, .int .u64 0, .bool false, .bool false, .bool false, .bool false, .int .i64 0] 62)) u2.heap.size [.int .i64 0, .int .i64 0, .int .u64 0, .bool false, .bool false, .bool false, .bool false, .int .i64 0]) := Box.new u2 [.int .i64 0, .int .i64 0, .int .u64 0, .bool false, .bool false, .bool false, .bool false, .int .i64 0] 62
       have HU1 : Hid (Below V.heap.size V (World.alloc u2 (.cells #[.int .i64 0, .int .i64 0, .int .u64 0, .bool false, .bool false, .bool false, .bool false, .int .i64 0] 62))) := HU.out.trans (hb5.mono HU.out.size)
       have HNE : Hid (g8 ≠ u2.heap.size) := Nat.ne_of_lt H8.out.2.2
       replace H8 := Lib.hid (H8.out.below hb5)
       refine hK.out _ _ (hSi _ HU1.out) (fun hHeld => ?_)
       clear hK K
       try simp only [Act.put, List.setIfInBounds_toArray, List.set_cons_zero, List.set_cons_succ]
       have HG7 : Hid (V.heap.size ≤ u2.heap.size) := HU.out.size
       clear HU hb5
       have HU := HU1
       clear HU1
       generalize World.alloc u2 _ = u3 at *
       generalize u2.heap.size = g7 at *
       refine wpAnyH_ready (rs := [14]) (by kernel_rfl) (by simp) ?_
       refine AllReadyH.cons rfl (fun K hK => ?_) (AllReadyH.nil)
       ·skip
        rw [if_pos (by rfl)]
        try simp only [List.getElem_toArray, List.getElem_cons_succ, List.getElem_cons_zero]
        refine wp_store_mid 62 _ _ (by rfl) g7 0 #[.int .i64 Fl, .int .i64 Fk0, .int .u64 Fo, .bool F1, .bool F2, .bool F3, .bool F4, .int .i64 Ft0] (by rfl) (by rfl) (H7.out.there rfl) sizeLeaf O7.out ?_
        have hks := (Kp.refl (fun i => i = g7) u3).setCells (.inl rfl) 0 [.int .i64 Fl, .int .i64 Fk0, .int .u64 Fo, .bool F1, .bool F2, .bool F3, .bool F4, .int .i64 Ft0]
        have HU1 : Hid (Below V.heap.size V (World.setCells u3 g7 0 [.int .i64 Fl, .int .i64 Fk0, .int .u64 Fo, .bool F1, .bool F2, .bool F3, .bool F4, .int .i64 Ft0])) := hks.toBelow HU.out HU.out.size (fun i e => by rw [e]; exact HG7.out)
        replace H7 := Lib.hid (H7.out.put (news := [.int .i64 Fl, .int .i64 Fk0, .int .u64 Fo, .bool F1, .bool F2, .bool F3, .bool F4, .int .i64 Ft0]) rfl)
        replace H8 := Lib.hid (H8.out.kept hks (fun e => by first | exact HNE.out e | exact HNE.out e.symm))
        refine hK.out _ _ (hSi _ HU1.out) (fun hHeld => ?_)
        clear hK K
        try simp only [Act.put, List.setIfInBounds_toArray, List.set_cons_zero, List.set_cons_succ]
        clear HU hks
        have HU := HU1
        clear HU1
        try simp only [List.toList_toArray] at *
        generalize World.setCells u3 _ _ _ = u4 at *
        refine wpAnyH_ready (rs := [15]) (by kernel_rfl) (by simp) ?_
        refine AllReadyH.cons rfl (fun K hK => ?_) (AllReadyH.nil)
        ·skip
         rw [if_pos (by rfl)]
         try simp only [List.getElem_toArray, List.getElem_cons_succ, List.getElem_cons_zero]
         refine wp_store_mid 43 _ _ (by rfl) g8 0 #[.int .i64 f1, .int .i64 f2] (by rfl) (by rfl) (H8.out.there rfl) sizeFault O8.out ?_
         have hks := (Kp.refl (fun i => i = g8) u4).setCells (.inl rfl) 0 [.int .i64 f1, .int .i64 f2]
         have HU1 : Hid (Below V.heap.size V (World.setCells u4 g8 0 [.int .i64 f1, .int .i64 f2])) := hks.toBelow HU.out HU.out.size (fun i e => by rw [e]; exact HG8.out)
         replace H8 := Lib.hid (H8.out.put (news := [.int .i64 f1, .int .i64 f2]) rfl)
         replace H7 := Lib.hid (H7.out.kept hks (fun e => by first | exact HNE.out e | exact HNE.out e.symm))
         refine hK.out _ _ (hSi _ HU1.out) (fun hHeld => ?_)
         clear hK K
         try simp only [Act.put, List.setIfInBounds_toArray, List.set_cons_zero, List.set_cons_succ]
         clear HU hks
         have HU := HU1
         clear HU1
         try simp only [List.toList_toArray] at *
         generalize World.setCells u4 _ _ _ = u5 at *
         refine wpAnyH_done (by kernel_rfl) ?_ _
         try simp only [List.getElem_toArray, List.getElem_cons_succ, List.getElem_cons_zero, Act.put, List.setIfInBounds_toArray, List.set_cons_zero, List.set_cons_succ]
         go_wp2_with fail
         go_meet
         exact ⟨g7, g8, rfl, rfl, H7, H8, HU.out⟩
    ·skip
     go_simp
     have hb5 := below1 u0 (.cells #[.int .i64 0, .int .i64 0, .int .u64 0, .bool false, .bool false, .bool false, .bool false, .int .i64 0] 62)
     have H7 : Hid (Box (World.alloc u0 (.cells #[.int .i64 0, .int .i64 0, .int .u64 0, .bool false, .bool false, .bool false, .bool false, .int .i64 0] 62)) u0.heap.size [.int .i64 0, .int .i64 0, .int .u64 0, .bool false, .bool false, .bool false, .bool false, .int .i64 0]) := Box.new u0 [.int .i64 0, .int .i64 0, .int .u64 0, .bool false, .bool false, .bool false, .bool false, .int .i64 0] 62
     have HU1 : Hid (Below V.heap.size V (World.alloc u0 (.cells #[.int .i64 0, .int .i64 0, .int .u64 0, .bool false, .bool false, .bool false, .bool false, .int .i64 0] 62))) := HU.out.trans (hb5.mono HU.out.size)
     refine hK.out _ _ (hSi _ HU1.out) (fun hHeld => ?_)
     clear hK K
     try simp only [Act.put, List.setIfInBounds_toArray, List.set_cons_zero, List.set_cons_succ]
     have HG7 : Hid (V.heap.size ≤ u0.heap.size) := HU.out.size
     clear HU hb5
     have HU := HU1
     clear HU1
     generalize World.alloc u0 _ = u1 at *
     generalize u0.heap.size = g7 at *
     refine wpAnyH_ready (rs := [8, 13]) (by kernel_rfl) (by simp) ?_
     refine AllReadyH.cons rfl (fun K hK => ?_) (AllReadyH.cons rfl (fun K hK => ?_) (AllReadyH.nil))
     ·skip
      go_simp
      refine (D3.out _ (HWV.out.trans (HU.out.mono HWV.out.size))).mono ?_
      rintro e u2 ⟨rfl, hb5⟩
      go_wp2_with fail
      have HU1 : Hid (Below V.heap.size V u2) := HU.out.trans (hb5.mono HU.out.size)
      refine hK.out _ _ (hSi _ HU1.out) (fun hHeld => ?_)
      clear hK K
      try simp only [Act.put, List.setIfInBounds_toArray, List.set_cons_zero, List.set_cons_succ]
      replace H7 := Lib.hid (H7.out.below hb5)
      clear HU hb5
      have HU := HU1
      clear HU1
      refine wpAnyH_take (i := 9) (v := ?_) rfl (by kernel_rfl) (by kernel_rfl) (by kernel_rfl) (fun _ _ _ h => h) (Or.inl ⟨by rfl, ?_⟩) (by assumption) ?_
      rotate_left
      ·intro w hSw
       have hSw := hSu _ hSw
       try dsimp only at hSw
       go_simp
       try with_reducible rfl
      try simp only [Act.put, List.setIfInBounds_toArray, List.set_cons_zero, List.set_cons_succ]
      refine wpAnyH_take (i := 10) (v := ?_) rfl (by kernel_rfl) (by kernel_rfl) (by kernel_rfl) (fun _ _ _ h => h) (Or.inl ⟨by rfl, ?_⟩) (by assumption) ?_
      rotate_left
      ·intro w hSw
       have hSw := hSu _ hSw
       try dsimp only at hSw
       go_simp
       try with_reducible rfl
      try simp only [Act.put, List.setIfInBounds_toArray, List.set_cons_zero, List.set_cons_succ]
      refine wpAnyH_take (i := 11) (v := ?_) rfl (by kernel_rfl) (by kernel_rfl) (by kernel_rfl) (fun _ _ _ h => h) (Or.inl ⟨by rfl, ?_⟩) (by assumption) ?_
      rotate_left
      ·intro w hSw
       have hSw := hSu _ hSw
       try dsimp only at hSw
       go_simp
       try with_reducible rfl
      try simp only [Act.put, List.setIfInBounds_toArray, List.set_cons_zero, List.set_cons_succ]
      refine wpAnyH_ready (rs := [13]) (by kernel_rfl) (by simp) ?_
      refine AllReadyH.cons rfl (fun K hK => ?_) (AllReadyH.nil)
      ·skip
       go_simp
       have hb5 := below1 u2 (.cells #[.int .i64 0, .int .i64 0] 43)
       have H8 : Hid (Box (World.alloc u2 (.cells #[.int .i64 0, .int .i64 0] 43)) u2.heap.size [.int .i64 0, .int .i64 0]) := Box.new u2 [.int .i64 0, .int .i64 0] 43
       have HU1 : Hid (Below V.heap.size V (World.alloc u2 (.cells #[.int .i64 0, .int .i64 0] 43))) := HU.out.trans (hb5.mono HU.out.size)
       have HNE : Hid (g7 ≠ u2.heap.size) := Nat.ne_of_lt H7.out.2.2
       replace H7 := Lib.hid (H7.out.below hb5)
       refine hK.out _ _ (hSi _ HU1.out) (fun hHeld => ?_)
       clear hK K
       try simp only [Act.put, List.setIfInBounds_toArray, List.set_cons_zero, List.set_cons_succ]
       have HG8 : Hid (V.heap.size ≤ u2.heap.size) := HU.out.size
       clear HU hb5
       have HU := HU1
       clear HU1
       generalize World.alloc u2 _ = u3 at *
       generalize u2.heap.size = g8 at *
       refine wpAnyH_ready (rs := [14]) (by kernel_rfl) (by simp) ?_
       refine AllReadyH.cons rfl (fun K hK => ?_) (AllReadyH.nil)
       ·skip
        rw [if_pos (by rfl)]
        try simp only [List.getElem_toArray, List.getElem_cons_succ, List.getElem_cons_zero]
        refine wp_store_mid 62 _ _ (by rfl) g7 0 #[.int .i64 Fl, .int .i64 Fk0, .int .u64 Fo, .bool F1, .bool F2, .bool F3, .bool F4, .int .i64 Ft0] (by rfl) (by rfl) (H7.out.there rfl) sizeLeaf O7.out ?_
        have hks := (Kp.refl (fun i => i = g7) u3).setCells (.inl rfl) 0 [.int .i64 Fl, .int .i64 Fk0, .int .u64 Fo, .bool F1, .bool F2, .bool F3, .bool F4, .int .i64 Ft0]
        have HU1 : Hid (Below V.heap.size V (World.setCells u3 g7 0 [.int .i64 Fl, .int .i64 Fk0, .int .u64 Fo, .bool F1, .bool F2, .bool F3, .bool F4, .int .i64 Ft0])) := hks.toBelow HU.out HU.out.size (fun i e => by rw [e]; exact HG7.out)
        replace H7 := Lib.hid (H7.out.put (news := [.int .i64 Fl, .int .i64 Fk0, .int .u64 Fo, .bool F1, .bool F2, .bool F3, .bool F4, .int .i64 Ft0]) rfl)
        replace H8 := Lib.hid (H8.out.kept hks (fun e => by first | exact HNE.out e | exact HNE.out e.symm))
        refine hK.out _ _ (hSi _ HU1.out) (fun hHeld => ?_)
        clear hK K
        try simp only [Act.put, List.setIfInBounds_toArray, List.set_cons_zero, List.set_cons_succ]
        clear HU hks
        have HU := HU1
        clear HU1
        try simp only [List.toList_toArray] at *
        generalize World.setCells u3 _ _ _ = u4 at *
        refine wpAnyH_ready (rs := [15]) (by kernel_rfl) (by simp) ?_
        refine AllReadyH.cons rfl (fun K hK => ?_) (AllReadyH.nil)
        ·skip
         rw [if_pos (by rfl)]
         try simp only [List.getElem_toArray, List.getElem_cons_succ, List.getElem_cons_zero]
         refine wp_store_mid 43 _ _ (by rfl) g8 0 #[.int .i64 f1, .int .i64 f2] (by rfl) (by rfl) (H8.out.there rfl) sizeFault O8.out ?_
         have hks := (Kp.refl (fun i => i = g8) u4).setCells (.inl rfl) 0 [.int .i64 f1, .int .i64 f2]
         have HU1 : Hid (Below V.heap.size V (World.setCells u4 g8 0 [.int .i64 f1, .int .i64 f2])) := hks.toBelow HU.out HU.out.size (fun i e => by rw [e]; exact HG8.out)
         replace H8 := Lib.hid (H8.out.put (news := [.int .i64 f1, .int .i64 f2]) rfl)
         replace H7 := Lib.hid (H7.out.kept hks (fun e => by first | exact HNE.out e | exact HNE.out e.symm))
         refine hK.out _ _ (hSi _ HU1.out) (fun hHeld => ?_)
         clear hK K
         try simp only [Act.put, List.setIfInBounds_toArray, List.set_cons_zero, List.set_cons_succ]
         clear HU hks
         have HU := HU1
         clear HU1
         try simp only [List.toList_toArray] at *
         generalize World.setCells u4 _ _ _ = u5 at *
         refine wpAnyH_done (by kernel_rfl) ?_ _
         try simp only [List.getElem_toArray, List.getElem_cons_succ, List.getElem_cons_zero, Act.put, List.setIfInBounds_toArray, List.set_cons_zero, List.set_cons_succ]
         go_wp2_with fail
         go_meet
         exact ⟨g7, g8, rfl, rfl, H7, H8, HU.out⟩
     ·skip
      go_simp
      have hb5 := below1 u1 (.cells #[.int .i64 0, .int .i64 0] 43)
      have H8 : Hid (Box (World.alloc u1 (.cells #[.int .i64 0, .int .i64 0] 43)) u1.heap.size [.int .i64 0, .int .i64 0]) := Box.new u1 [.int .i64 0, .int .i64 0] 43
      have HU1 : Hid (Below V.heap.size V (World.alloc u1 (.cells #[.int .i64 0, .int .i64 0] 43))) := HU.out.trans (hb5.mono HU.out.size)
      have HNE : Hid (g7 ≠ u1.heap.size) := Nat.ne_of_lt H7.out.2.2
      replace H7 := Lib.hid (H7.out.below hb5)
      refine hK.out _ _ (hSi _ HU1.out) (fun hHeld => ?_)
      clear hK K
      try simp only [Act.put, List.setIfInBounds_toArray, List.set_cons_zero, List.set_cons_succ]
      have HG8 : Hid (V.heap.size ≤ u1.heap.size) := HU.out.size
      clear HU hb5
      have HU := HU1
      clear HU1
      generalize World.alloc u1 _ = u2 at *
      generalize u1.heap.size = g8 at *
      refine wpAnyH_ready (rs := [8]) (by kernel_rfl) (by simp) ?_
      refine AllReadyH.cons rfl (fun K hK => ?_) (AllReadyH.nil)
      ·skip
       go_simp
       refine (D3.out _ (HWV.out.trans (HU.out.mono HWV.out.size))).mono ?_
       rintro e u3 ⟨rfl, hb5⟩
       go_wp2_with fail
       have HU1 : Hid (Below V.heap.size V u3) := HU.out.trans (hb5.mono HU.out.size)
       refine hK.out _ _ (hSi _ HU1.out) (fun hHeld => ?_)
       clear hK K
       try simp only [Act.put, List.setIfInBounds_toArray, List.set_cons_zero, List.set_cons_succ]
       replace H7 := Lib.hid (H7.out.below hb5)
       replace H8 := Lib.hid (H8.out.below hb5)
       clear HU hb5
       have HU := HU1
       clear HU1
       refine wpAnyH_take (i := 9) (v := ?_) rfl (by kernel_rfl) (by kernel_rfl) (by kernel_rfl) (fun _ _ _ h => h) (Or.inl ⟨by rfl, ?_⟩) (by assumption) ?_
       rotate_left
       ·intro w hSw
        have hSw := hSu _ hSw
        try dsimp only at hSw
        go_simp
        try with_reducible rfl
       try simp only [Act.put, List.setIfInBounds_toArray, List.set_cons_zero, List.set_cons_succ]
       refine wpAnyH_take (i := 10) (v := ?_) rfl (by kernel_rfl) (by kernel_rfl) (by kernel_rfl) (fun _ _ _ h => h) (Or.inl ⟨by rfl, ?_⟩) (by assumption) ?_
       rotate_left
       ·intro w hSw
        have hSw := hSu _ hSw
        try dsimp only at hSw
        go_simp
        try with_reducible rfl
       try simp only [Act.put, List.setIfInBounds_toArray, List.set_cons_zero, List.set_cons_succ]
       refine wpAnyH_take (i := 11) (v := ?_) rfl (by kernel_rfl) (by kernel_rfl) (by kernel_rfl) (fun _ _ _ h => h) (Or.inl ⟨by rfl, ?_⟩) (by assumption) ?_
       rotate_left
       ·intro w hSw
        have hSw := hSu _ hSw
        try dsimp only at hSw
        go_simp
        try with_reducible rfl
       try simp only [Act.put, List.setIfInBounds_toArray, List.set_cons_zero, List.set_cons_succ]
       refine wpAnyH_ready (rs := [14]) (by kernel_rfl) (by simp) ?_
       refine AllReadyH.cons rfl (fun K hK => ?_) (AllReadyH.nil)
       ·skip
        rw [if_pos (by rfl)]
        try simp only [List.getElem_toArray, List.getElem_cons_succ, List.getElem_cons_zero]
        refine wp_store_mid 62 _ _ (by rfl) g7 0 #[.int .i64 Fl, .int .i64 Fk0, .int .u64 Fo, .bool F1, .bool F2, .bool F3, .bool F4, .int .i64 Ft0] (by rfl) (by rfl) (H7.out.there rfl) sizeLeaf O7.out ?_
        have hks := (Kp.refl (fun i => i = g7) u3).setCells (.inl rfl) 0 [.int .i64 Fl, .int .i64 Fk0, .int .u64 Fo, .bool F1, .bool F2, .bool F3, .bool F4, .int .i64 Ft0]
        have HU1 : Hid (Below V.heap.size V (World.setCells u3 g7 0 [.int .i64 Fl, .int .i64 Fk0, .int .u64 Fo, .bool F1, .bool F2, .bool F3, .bool F4, .int .i64 Ft0])) := hks.toBelow HU.out HU.out.size (fun i e => by rw [e]; exact HG7.out)
        replace H7 := Lib.hid (H7.out.put (news := [.int .i64 Fl, .int .i64 Fk0, .int .u64 Fo, .bool F1, .bool F2, .bool F3, .bool F4, .int .i64 Ft0]) rfl)
        replace H8 := Lib.hid (H8.out.kept hks (fun e => by first | exact HNE.out e | exact HNE.out e.symm))
        refine hK.out _ _ (hSi _ HU1.out) (fun hHeld => ?_)
        clear hK K
        try simp only [Act.put, List.setIfInBounds_toArray, List.set_cons_zero, List.set_cons_succ]
        clear HU hks
        have HU := HU1
        clear HU1
        try simp only [List.toList_toArray] at *
        generalize World.setCells u3 _ _ _ = u4 at *
        refine wpAnyH_ready (rs := [15]) (by kernel_rfl) (by simp) ?_
        refine AllReadyH.cons rfl (fun K hK => ?_) (AllReadyH.nil)
        ·skip
         rw [if_pos (by rfl)]
         try simp only [List.getElem_toArray, List.getElem_cons_succ, List.getElem_cons_zero]
         refine wp_store_mid 43 _ _ (by rfl) g8 0 #[.int .i64 f1, .int .i64 f2] (by rfl) (by rfl) (H8.out.there rfl) sizeFault O8.out ?_
         have hks := (Kp.refl (fun i => i = g8) u4).setCells (.inl rfl) 0 [.int .i64 f1, .int .i64 f2]
         have HU1 : Hid (Below V.heap.size V (World.setCells u4 g8 0 [.int .i64 f1, .int .i64 f2])) := hks.toBelow HU.out HU.out.size (fun i e => by rw [e]; exact HG8.out)
         replace H8 := Lib.hid (H8.out.put (news := [.int .i64 f1, .int .i64 f2]) rfl)
         replace H7 := Lib.hid (H7.out.kept hks (fun e => by first | exact HNE.out e | exact HNE.out e.symm))
         refine hK.out _ _ (hSi _ HU1.out) (fun hHeld => ?_)
         clear hK K
         try simp only [Act.put, List.setIfInBounds_toArray, List.set_cons_zero, List.set_cons_succ]
         clear HU hks
         have HU := HU1
         clear HU1
         try simp only [List.toList_toArray] at *
         generalize World.setCells u4 _ _ _ = u5 at *
         refine wpAnyH_done (by kernel_rfl) ?_ _
         try simp only [List.getElem_toArray, List.getElem_cons_succ, List.getElem_cons_zero, Act.put, List.setIfInBounds_toArray, List.set_cons_zero, List.set_cons_succ]
         go_wp2_with fail
         go_meet
         exact ⟨g7, g8, rfl, rfl, H7, H8, HU.out⟩
    ·skip
     go_simp
     have hb5 := below1 u0 (.cells #[.int .i64 0, .int .i64 0] 43)
     have H8 : Hid (Box (World.alloc u0 (.cells #[.int .i64 0, .int .i64 0] 43)) u0.heap.size [.int .i64 0, .int .i64 0]) := Box.new u0 [.int .i64 0, .int .i64 0] 43
     have HU1 : Hid (Below V.heap.size V (World.alloc u0 (.cells #[.int .i64 0, .int .i64 0] 43))) := HU.out.trans (hb5.mono HU.out.size)
     refine hK.out _ _ (hSi _ HU1.out) (fun hHeld => ?_)
     clear hK K
     try simp only [Act.put, List.setIfInBounds_toArray, List.set_cons_zero, List.set_cons_succ]
     have HG8 : Hid (V.heap.size ≤ u0.heap.size) := HU.out.size
     clear HU hb5
     have HU := HU1
     clear HU1
     generalize World.alloc u0 _ = u1 at *
     generalize u0.heap.size = g8 at *
     refine wpAnyH_ready (rs := [8, 12]) (by kernel_rfl) (by simp) ?_
     refine AllReadyH.cons rfl (fun K hK => ?_) (AllReadyH.cons rfl (fun K hK => ?_) (AllReadyH.nil))
     ·skip
      go_simp
      refine (D3.out _ (HWV.out.trans (HU.out.mono HWV.out.size))).mono ?_
      rintro e u2 ⟨rfl, hb5⟩
      go_wp2_with fail
      have HU1 : Hid (Below V.heap.size V u2) := HU.out.trans (hb5.mono HU.out.size)
      refine hK.out _ _ (hSi _ HU1.out) (fun hHeld => ?_)
      clear hK K
      try simp only [Act.put, List.setIfInBounds_toArray, List.set_cons_zero, List.set_cons_succ]
      replace H8 := Lib.hid (H8.out.below hb5)
      clear HU hb5
      have HU := HU1
      clear HU1
      refine wpAnyH_take (i := 9) (v := ?_) rfl (by kernel_rfl) (by kernel_rfl) (by kernel_rfl) (fun _ _ _ h => h) (Or.inl ⟨by rfl, ?_⟩) (by assumption) ?_
      rotate_left
      ·intro w hSw
       have hSw := hSu _ hSw
       try dsimp only at hSw
       go_simp
       try with_reducible rfl
      try simp only [Act.put, List.setIfInBounds_toArray, List.set_cons_zero, List.set_cons_succ]
      refine wpAnyH_take (i := 10) (v := ?_) rfl (by kernel_rfl) (by kernel_rfl) (by kernel_rfl) (fun _ _ _ h => h) (Or.inl ⟨by rfl, ?_⟩) (by assumption) ?_
      rotate_left
      ·intro w hSw
       have hSw := hSu _ hSw
       try dsimp only at hSw
       go_simp
       try with_reducible rfl
      try simp only [Act.put, List.setIfInBounds_toArray, List.set_cons_zero, List.set_cons_succ]
      refine wpAnyH_take (i := 11) (v := ?_) rfl (by kernel_rfl) (by kernel_rfl) (by kernel_rfl) (fun _ _ _ h => h) (Or.inl ⟨by rfl, ?_⟩) (by assumption) ?_
      rotate_left
      ·intro w hSw
       have hSw := hSu _ hSw
       try dsimp only at hSw
       go_simp
       try with_reducible rfl
      try simp only [Act.put, List.setIfInBounds_toArray, List.set_cons_zero, List.set_cons_succ]
      refine wpAnyH_ready (rs := [12]) (by kernel_rfl) (by simp) ?_
      refine AllReadyH.cons rfl (fun K hK => ?_) (AllReadyH.nil)
      ·skip
       go_simp
       have hb5 := below1 u2 (.cells #[.int .i64 0, .int .i64 0, .int .u64 0, .bool false, .bool false, .bool false, .bool false, .int .i64 0] 62)
       have H7 : Hid (Box (World.alloc u2 (.cells #[.int .i64 0, .int .i64 0, .int .u64 0, .bool false, .bool false, .bool false, .bool false, .int .i64 0] 62)) u2.heap.size [.int .i64 0, .int .i64 0, .int .u64 0, .bool false, .bool false, .bool false, .bool false, .int .i64 0]) := Box.new u2 [.int .i64 0, .int .i64 0, .int .u64 0, .bool false, .bool false, .bool false, .bool false, .int .i64 0] 62
       have HU1 : Hid (Below V.heap.size V (World.alloc u2 (.cells #[.int .i64 0, .int .i64 0, .int .u64 0, .bool false, .bool false, .bool false, .bool false, .int .i64 0] 62))) := HU.out.trans (hb5.mono HU.out.size)
       have HNE : Hid (g8 ≠ u2.heap.size) := Nat.ne_of_lt H8.out.2.2
       replace H8 := Lib.hid (H8.out.below hb5)
       refine hK.out _ _ (hSi _ HU1.out) (fun hHeld => ?_)
       clear hK K
       try simp only [Act.put, List.setIfInBounds_toArray, List.set_cons_zero, List.set_cons_succ]
       have HG7 : Hid (V.heap.size ≤ u2.heap.size) := HU.out.size
       clear HU hb5
       have HU := HU1
       clear HU1
       generalize World.alloc u2 _ = u3 at *
       generalize u2.heap.size = g7 at *
       refine wpAnyH_ready (rs := [14]) (by kernel_rfl) (by simp) ?_
       refine AllReadyH.cons rfl (fun K hK => ?_) (AllReadyH.nil)
       ·skip
        rw [if_pos (by rfl)]
        try simp only [List.getElem_toArray, List.getElem_cons_succ, List.getElem_cons_zero]
        refine wp_store_mid 62 _ _ (by rfl) g7 0 #[.int .i64 Fl, .int .i64 Fk0, .int .u64 Fo, .bool F1, .bool F2, .bool F3, .bool F4, .int .i64 Ft0] (by rfl) (by rfl) (H7.out.there rfl) sizeLeaf O7.out ?_
        have hks := (Kp.refl (fun i => i = g7) u3).setCells (.inl rfl) 0 [.int .i64 Fl, .int .i64 Fk0, .int .u64 Fo, .bool F1, .bool F2, .bool F3, .bool F4, .int .i64 Ft0]
        have HU1 : Hid (Below V.heap.size V (World.setCells u3 g7 0 [.int .i64 Fl, .int .i64 Fk0, .int .u64 Fo, .bool F1, .bool F2, .bool F3, .bool F4, .int .i64 Ft0])) := hks.toBelow HU.out HU.out.size (fun i e => by rw [e]; exact HG7.out)
        replace H7 := Lib.hid (H7.out.put (news := [.int .i64 Fl, .int .i64 Fk0, .int .u64 Fo, .bool F1, .bool F2, .bool F3, .bool F4, .int .i64 Ft0]) rfl)
        replace H8 := Lib.hid (H8.out.kept hks (fun e => by first | exact HNE.out e | exact HNE.out e.symm))
        refine hK.out _ _ (hSi _ HU1.out) (fun hHeld => ?_)
        clear hK K
        try simp only [Act.put, List.setIfInBounds_toArray, List.set_cons_zero, List.set_cons_succ]
        clear HU hks
        have HU := HU1
        clear HU1
        try simp only [List.toList_toArray] at *
        generalize World.setCells u3 _ _ _ = u4 at *
        refine wpAnyH_ready (rs := [15]) (by kernel_rfl) (by simp) ?_
        refine AllReadyH.cons rfl (fun K hK => ?_) (AllReadyH.nil)
        ·skip
         rw [if_pos (by rfl)]
         try simp only [List.getElem_toArray, List.getElem_cons_succ, List.getElem_cons_zero]
         refine wp_store_mid 43 _ _ (by rfl) g8 0 #[.int .i64 f1, .int .i64 f2] (by rfl) (by rfl) (H8.out.there rfl) sizeFault O8.out ?_
         have hks := (Kp.refl (fun i => i = g8) u4).setCells (.inl rfl) 0 [.int .i64 f1, .int .i64 f2]
         have HU1 : Hid (Below V.heap.size V (World.setCells u4 g8 0 [.int .i64 f1, .int .i64 f2])) := hks.toBelow HU.out HU.out.size (fun i e => by rw [e]; exact HG8.out)
         replace H8 := Lib.hid (H8.out.put (news := [.int .i64 f1, .int .i64 f2]) rfl)
         replace H7 := Lib.hid (H7.out.kept hks (fun e => by first | exact HNE.out e | exact HNE.out e.symm))
         refine hK.out _ _ (hSi _ HU1.out) (fun hHeld => ?_)
         clear hK K
         try simp only [Act.put, List.setIfInBounds_toArray, List.set_cons_zero, List.set_cons_succ]
         clear HU hks
         have HU := HU1
         clear HU1
         try simp only [List.toList_toArray] at *
         generalize World.setCells u4 _ _ _ = u5 at *
         refine wpAnyH_done (by kernel_rfl) ?_ _
         try simp only [List.getElem_toArray, List.getElem_cons_succ, List.getElem_cons_zero, Act.put, List.setIfInBounds_toArray, List.set_cons_zero, List.set_cons_succ]
         go_wp2_with fail
         go_meet
         exact ⟨g7, g8, rfl, rfl, H7, H8, HU.out⟩
     ·skip
      go_simp
      have hb5 := below1 u1 (.cells #[.int .i64 0, .int .i64 0, .int .u64 0, .bool false, .bool false, .bool false, .bool false, .int .i64 0] 62)
      have H7 : Hid (Box (World.alloc u1 (.cells #[.int .i64 0, .int .i64 0, .int .u64 0, .bool false, .bool false, .bool false, .bool false, .int .i64 0] 62)) u1.heap.size [.int .i64 0, .int .i64 0, .int .u64 0, .bool false, .bool false, .bool false, .bool false, .int .i64 0]) := Box.new u1 [.int .i64 0, .int .i64 0, .int .u64 0, .bool false, .bool false, .bool false, .bool false, .int .i64 0] 62
      have HU1 : Hid (Below V.heap.size V (World.alloc u1 (.cells #[.int .i64 0, .int .i64 0, .int .u64 0, .bool false, .bool false, .bool false, .bool false, .int .i64 0] 62))) := HU.out.trans (hb5.mono HU.out.size)
      have HNE : Hid (g8 ≠ u1.heap.size) := Nat.ne_of_lt H8.out.2.2
      replace H8 := Lib.hid (H8.out.below hb5)
      refine hK.out _ _ (hSi _ HU1.out) (fun hHeld => ?_)
      clear hK K
      try simp only [Act.put, List.setIfInBounds_toArray, List.set_cons_zero, List.set_cons_succ]
      have HG7 : Hid (V.heap.size ≤ u1.heap.size) := HU.out.size
      clear HU hb5
      have HU := HU1
      clear HU1
      generalize World.alloc u1 _ = u2 at *
      generalize u1.heap.size = g7 at *
      refine wpAnyH_ready (rs := [8]) (by kernel_rfl) (by simp) ?_
      refine AllReadyH.cons rfl (fun K hK => ?_) (AllReadyH.nil)
      ·skip
       go_simp
       refine (D3.out _ (HWV.out.trans (HU.out.mono HWV.out.size))).mono ?_
       rintro e u3 ⟨rfl, hb5⟩
       go_wp2_with fail
       have HU1 : Hid (Below V.heap.size V u3) := HU.out.trans (hb5.mono HU.out.size)
       refine hK.out _ _ (hSi _ HU1.out) (fun hHeld => ?_)
       clear hK K
       try simp only [Act.put, List.setIfInBounds_toArray, List.set_cons_zero, List.set_cons_succ]
       replace H7 := Lib.hid (H7.out.below hb5)
       replace H8 := Lib.hid (H8.out.below hb5)
       clear HU hb5
       have HU := HU1
       clear HU1
       refine wpAnyH_take (i := 9) (v := ?_) rfl (by kernel_rfl) (by kernel_rfl) (by kernel_rfl) (fun _ _ _ h => h) (Or.inl ⟨by rfl, ?_⟩) (by assumption) ?_
       rotate_left
       ·intro w hSw
        have hSw := hSu _ hSw
        try dsimp only at hSw
        go_simp
        try with_reducible rfl
       try simp only [Act.put, List.setIfInBounds_toArray, List.set_cons_zero, List.set_cons_succ]
       refine wpAnyH_take (i := 10) (v := ?_) rfl (by kernel_rfl) (by kernel_rfl) (by kernel_rfl) (fun _ _ _ h => h) (Or.inl ⟨by rfl, ?_⟩) (by assumption) ?_
       rotate_left
       ·intro w hSw
        have hSw := hSu _ hSw
        try dsimp only at hSw
        go_simp
        try with_reducible rfl
       try simp only [Act.put, List.setIfInBounds_toArray, List.set_cons_zero, List.set_cons_succ]
       refine wpAnyH_take (i := 11) (v := ?_) rfl (by kernel_rfl) (by kernel_rfl) (by kernel_rfl) (fun _ _ _ h => h) (Or.inl ⟨by rfl, ?_⟩) (by assumption) ?_
       rotate_left
       ·intro w hSw
        have hSw := hSu _ hSw
        try dsimp only at hSw
        go_simp
        try with_reducible rfl
       try simp only [Act.put, List.setIfInBounds_toArray, List.set_cons_zero, List.set_cons_succ]
       refine wpAnyH_ready (rs := [14]) (by kernel_rfl) (by simp) ?_
       refine AllReadyH.cons rfl (fun K hK => ?_) (AllReadyH.nil)
       ·skip
        rw [if_pos (by rfl)]
        try simp only [List.getElem_toArray, List.getElem_cons_succ, List.getElem_cons_zero]
        refine wp_store_mid 62 _ _ (by rfl) g7 0 #[.int .i64 Fl, .int .i64 Fk0, .int .u64 Fo, .bool F1, .bool F2, .bool F3, .bool F4, .int .i64 Ft0] (by rfl) (by rfl) (H7.out.there rfl) sizeLeaf O7.out ?_
        have hks := (Kp.refl (fun i => i = g7) u3).setCells (.inl rfl) 0 [.int .i64 Fl, .int .i64 Fk0, .int .u64 Fo, .bool F1, .bool F2, .bool F3, .bool F4, .int .i64 Ft0]
        have HU1 : Hid (Below V.heap.size V (World.setCells u3 g7 0 [.int .i64 Fl, .int .i64 Fk0, .int .u64 Fo, .bool F1, .bool F2, .bool F3, .bool F4, .int .i64 Ft0])) := hks.toBelow HU.out HU.out.size (fun i e => by rw [e]; exact HG7.out)
        replace H7 := Lib.hid (H7.out.put (news := [.int .i64 Fl, .int .i64 Fk0, .int .u64 Fo, .bool F1, .bool F2, .bool F3, .bool F4, .int .i64 Ft0]) rfl)
        replace H8 := Lib.hid (H8.out.kept hks (fun e => by first | exact HNE.out e | exact HNE.out e.symm))
        refine hK.out _ _ (hSi _ HU1.out) (fun hHeld => ?_)
        clear hK K
        try simp only [Act.put, List.setIfInBounds_toArray, List.set_cons_zero, List.set_cons_succ]
        clear HU hks
        have HU := HU1
        clear HU1
        try simp only [List.toList_toArray] at *
        generalize World.setCells u3 _ _ _ = u4 at *
        refine wpAnyH_ready (rs := [15]) (by kernel_rfl) (by simp) ?_
        refine AllReadyH.cons rfl (fun K hK => ?_) (AllReadyH.nil)
        ·skip
         rw [if_pos (by rfl)]
         try simp only [List.getElem_toArray, List.getElem_cons_succ, List.getElem_cons_zero]
         refine wp_store_mid 43 _ _ (by rfl) g8 0 #[.int .i64 f1, .int .i64 f2] (by rfl) (by rfl) (H8.out.there rfl) sizeFault O8.out ?_
         have hks := (Kp.refl (fun i => i = g8) u4).setCells (.inl rfl) 0 [.int .i64 f1, .int .i64 f2]
         have HU1 : Hid (Below V.heap.size V (World.setCells u4 g8 0 [.int .i64 f1, .int .i64 f2])) := hks.toBelow HU.out HU.out.size (fun i e => by rw [e]; exact HG8.out)
         replace H8 := Lib.hid (H8.out.put (news := [.int .i64 f1, .int .i64 f2]) rfl)
         replace H7 := Lib.hid (H7.out.kept hks (fun e => by first | exact HNE.out e | exact HNE.out e.symm))
         refine hK.out _ _ (hSi _ HU1.out) (fun hHeld => ?_)
         clear hK K
         try simp only [Act.put, List.setIfInBounds_toArray, List.set_cons_zero, List.set_cons_succ]
         clear HU hks
         have HU := HU1
         clear HU1
         try simp only [List.toList_toArray] at *
         generalize World.setCells u4 _ _ _ = u5 at *
         refine wpAnyH_done (by kernel_rfl) ?_ _
         try simp only [List.getElem_toArray, List.getElem_cons_succ, List.getElem_cons_zero, Act.put, List.setIfInBounds_toArray, List.set_cons_zero, List.set_cons_succ]
         go_wp2_with fail
         go_meet
         exact ⟨g7, g8, rfl, rfl, H7, H8, HU.out⟩
   case rest =>
    obtain ⟨g7, g8, rfl, rfl, H7, H8, HVC⟩ := hcut
    have HBV2 : Hid (Below w2.heap.size w2 wc) := HBW9.out.trans (HVC.out.mono HBW9.out.size)
    have HWW : Hid (Below w.heap.size w wc) := HWV.out.trans (HVC.out.mono HWV.out.size)
    have BE1 := HEB.out.below HVC.out
    have e0 := BE1.at 0 _ rfl
    have e2 := BE1.at 2 _ rfl
    have e3 := BE1.at 3 _ rfl
    have e4 := BE1.at 4 _ rfl
    have e5 := BE1.at 5 _ rfl
    have e6 := BE1.at 6 _ rfl
    have e7 := BE1.at 7 _ rfl
    have e8 := BE1.at 8 _ rfl
    have e9 := BE1.at 9 _ rfl
    have r1 := (HRB.out.below (HWV2.out.trans (HVC.out.mono HWV2.out.size))).at 1 _ rfl
    have l0 := H7.out.at 0 _ rfl
    have l1 := H7.out.at 1 _ rfl
    have l2 := H7.out.at 2 _ rfl
    have l3 := H7.out.at 3 _ rfl
    have l4 := H7.out.at 4 _ rfl
    have l5 := H7.out.at 5 _ rfl
    have l6 := H7.out.at 6 _ rfl
    have l7 := H7.out.at 7 _ rfl
    have q0 := H8.out.at 0 _ rfl
    have q1 := H8.out.at 1 _ rfl
    have hbi := (HBE.out ⟨ya, yv, yl, ⟨yk, yo, y1, y2, y3, y4, yt⟩⟩)
    dsimp only at hbi
    rw [HF.out] at hbi
    dsimp only at hbi
    have hF := fz_eq f1 f2
    have hL := leaf_eq Fl yl Fk0 Fo Ft0 yk yo yt F1 F2 F3 F4 y1 y2 y3 y4
    clear m0 r0 e1 BE1 H7 H8 HVC D3 HF HEB HBV HWV HWV2 HBW
    generalize decide ((f1, f2) = ((0, 0) : Nat × Nat)) = bF at *
    generalize decide (Fl = yl ∧ (⟨Fk0, Fo, F1, F2, F3, F4, Ft0⟩ : Dd) = ⟨yk, yo, y1, y2, y3, y4, yt⟩) = bL at *
    by_cases a1 : ya = asid
    ·have d1 : ((ya : Int) == (asid : Int)) = true := by rw [beq_iff_eq]; omega
     rw [decide_eq_true a1] at hbi
     clear a1
     cases bF with
     | true =>
      cases bL with
      | true =>
       have HBI : Hid (BE ⟨ya, yv, yl, ⟨yk, yo, y1, y2, y3, y4, yt⟩⟩ = false) := by rw [Hid, hbi]; rfl
       clear hbi
       go_wp2
       go_roundw
       case rel => exact ⟨i + 1, by first | rfl | go_num, by omega, fun j hj h => by
        by_cases e : j = i
        ·subst e; rw [HX2.out]; exact HBI.out
        ·exact HALL.out j hj (by omega), HBV2⟩
       case measure => simp [RowKit.intOf]; omega
      | false =>
       have HQ := Lib.hid (HBad.out (by rw [hbi]; rfl))
       clear hbi
       go_wp2
       go_ret
       exact ⟨by rw [← HQ.out]; rfl, HWW.out⟩
     | false =>
      cases bL with
      | true =>
       have HQ := Lib.hid (HBad.out (by rw [hbi]; rfl))
       clear hbi
       go_wp2
       go_ret
       exact ⟨by rw [← HQ.out]; rfl, HWW.out⟩
      | false =>
       have HQ := Lib.hid (HBad.out (by rw [hbi]; rfl))
       clear hbi
       go_wp2
       go_ret
       exact ⟨by rw [← HQ.out]; rfl, HWW.out⟩
    ·have d1 : ((ya : Int) == (asid : Int)) = false := by rw [beq_eq_false_iff_ne]; omega
     rw [decide_eq_false a1] at hbi
     clear a1
     have HBI : Hid (BE ⟨ya, yv, yl, ⟨yk, yo, y1, y2, y3, y4, yt⟩⟩ = false) := by rw [Hid, hbi]; rfl
     clear hbi
     go_wp2
     go_roundw
     case rel => exact ⟨i + 1, by first | rfl | go_num, by omega, fun j hj h => by
      by_cases e : j = i
      ·subst e; rw [HX2.out]; exact HBI.out
      ·exact HALL.out j hj (by omega), HBV2⟩
     case measure => simp [RowKit.intOf]; omega
  ·have q2 := keep_cell HWR.out c2
   have hxr : x < wr.heap.size := by have := HWR.out.size; omega
   have HALLE : Hid (∀ j (hj : j < s.es.length), BE s.es[j] = false) := fun j hj => HALL.out j hj (by omega)
   clear HALL
   go_upto_region 12 with (go_at_call 57; refine (C6.out _ HWR.out).mono ?_; rintro e w3 ⟨A3, c3, rfl, hrow, hb3⟩; have HBW3 := Lib.hid hb3; have HROW3 := Lib.hid hrow; clear hrow hb3)
   clear q2
   have HW3 : Hid (Below w.heap.size w w3) := HWR.out.trans (HBW3.out.mono HWR.out.size)
   have HRB3 : Hid (Box w3 rb [.int .u64 root, .int .i64 asid]) := (HRB.out.below (HBW.out.trans (HBW3.out.mono HBW.out.size)))
   go_loopw [68] (fun iv wq => ∃ j : Nat, iv = .int .i64 j ∧ j ≤ s.ks.length ∧ Hid (∀ m (hj : m < s.ks.length), m < j → BK s.ks[m] = false) ∧ Hid (Below w3.heap.size w3 wq)) (fun iv _ => s.ks.length - (RowKit.intOf iv).toNat)
   case atStart => exact ⟨0, rfl, by omega, fun j hj h => by omega, Below.refl _ _⟩
   case round =>
    obtain ⟨j, rfl, hj, HALK, HBq⟩ := hrel
    have hkl2 : s.ks.length ≤ 1000 := HKL.out
    have HWq : Hid (Below w.heap.size w wr) := HW3.out.trans (HBq.out.mono HW3.out.size)
    by_cases hlt : j < s.ks.length
    ·obtain ⟨A', c', e, hrr⟩ := HROW3.out
     obtain ⟨rfl, -, rfl⟩ := Value.slice.inj e
     obtain ⟨g, o, rfl, hr⟩ := hrr (by omega)
     have hrng : wr.rangeAt g o (rowL mL s.ks) := fun j v hj => keep_cell HBq.out (hr j v hj)
     have k0 := row_at0 mL_len hrng j hlt _ rfl
     have k1 := row_at mL_len hrng j hlt 1 _ rfl
     have k2 := row_at mL_len hrng j hlt 2 _ rfl
     have k3 := row_at mL_len hrng j hlt 3 _ rfl
     have i1 : (0 : Int) ≤ (j : Int) := by omega
     have i2 : (j : Int) < (s.ks.length : Int) := by omega
     have D4 := Lib.hid (C4.out s.ks[j].va s.ks[j].level (HKV.out _ (List.getElem_mem hlt)))
     have hbi := HBK.out s.ks[j]
     have HBad := Lib.hid (HBadK.out j hlt)
     have RB := HRB3.out.below HBq.out
     have r0 := RB.at 0 _ rfl
     have r1 := RB.at 1 _ rfl
     have rz := RB.2.2
     clear hrng hr hrr e RB
     generalize hy : s.ks[j] = y at *
     have HX2 := Lib.hid hy
     clear hy
     obtain ⟨ya, yv, yl, yt⟩ := y
     dsimp only at k0 k1 k2 k3 D4 hbi
     generalize TM yv yl = T at *
     obtain ⟨Ta, Tb2⟩ := T
     dsimp only at D4 hbi
     have hbv : Below wr.heap.size wr (wr.alloc (.cells #[.int .i64 ya, .int .u64 yv, .int .i64 yl, .int .u64 yt] 121)) := below1 _ _
     have HWV : Hid (Below w.heap.size w (wr.alloc (.cells #[.int .i64 ya, .int .u64 yv, .int .i64 yl, .int .u64 yt] 121))) := HWq.out.trans (hbv.mono HWq.out.size)
     have D5 := Lib.hid (D4.out _ HWV.out)
     clear D4 hbv HWV
     have hd : decide (Ta = yt) = ((Ta : Int) == (yt : Int)) := by rw [Bool.eq_iff_iff]; simp [Int.ofNat_inj]
     rw [hd] at hbi
     generalize hbT : ((Ta : Int) == (yt : Int)) = bT at *
     clear hd
     by_cases a1 : ya = asid
     ·have d1 : ((ya : Int) == (asid : Int)) = true := by rw [beq_iff_eq]; omega
      rw [decide_eq_true a1] at hbi
      clear a1
      cases Tb2 with
      | true =>
       cases bT with
       | true =>
        go_wp2_with (go_at_call 58; refine D5.out.mono ?_; rintro e w5 ⟨rfl, hb5⟩; have BK5 := (Box.new wr [.int .i64 ya, .int .u64 yv, .int .i64 yl, .int .u64 yt] 121).below hb5; have t0 := BK5.at 0 _ rfl; have t3 := BK5.at 3 _ rfl; have r1b := keep_cell hb5 (keep_cell (below1 wr (.cells #[.int .i64 ya, .int .u64 yv, .int .i64 yl, .int .u64 yt] 121)) r1); have HB5 := Lib.hid ((below1 wr (.cells #[.int .i64 ya, .int .u64 yv, .int .i64 yl, .int .u64 yt] 121)).trans (hb5.mono (below1 _ _).size)); clear BK5 hb5)
        have HBI : Hid (BK ⟨ya, yv, yl, yt⟩ = false) := by rw [Hid, hbi]; rfl
        clear hbi
        go_roundw
        case rel => exact ⟨j + 1, by first | rfl | go_num, by omega, fun j2 hj h => by
         by_cases e : j2 = j
         ·subst e; rw [HX2.out]; exact HBI.out
         ·exact HALK.out j2 hj (by omega), HBq.out.trans (HB5.out.mono HBq.out.size)⟩
        case measure => simp [RowKit.intOf]; omega
       | false =>
        go_wp2_with (go_at_call 58; refine D5.out.mono ?_; rintro e w5 ⟨rfl, hb5⟩; have BK5 := (Box.new wr [.int .i64 ya, .int .u64 yv, .int .i64 yl, .int .u64 yt] 121).below hb5; have t0 := BK5.at 0 _ rfl; have t3 := BK5.at 3 _ rfl; have r1b := keep_cell hb5 (keep_cell (below1 wr (.cells #[.int .i64 ya, .int .u64 yv, .int .i64 yl, .int .u64 yt] 121)) r1); have HB5 := Lib.hid ((below1 wr (.cells #[.int .i64 ya, .int .u64 yv, .int .i64 yl, .int .u64 yt] 121)).trans (hb5.mono (below1 _ _).size)); clear BK5 hb5)
        have HQ := Lib.hid (HBad.out (by rw [hbi]; rfl))
        clear hbi
        go_ret
        exact ⟨by rw [← HQ.out]; rfl, HWq.out.trans (HB5.out.mono HWq.out.size)⟩
      | false =>
       go_wp2_with (go_at_call 58; refine D5.out.mono ?_; rintro e w5 ⟨rfl, hb5⟩; have BK5 := (Box.new wr [.int .i64 ya, .int .u64 yv, .int .i64 yl, .int .u64 yt] 121).below hb5; have t0 := BK5.at 0 _ rfl; have t3 := BK5.at 3 _ rfl; have r1b := keep_cell hb5 (keep_cell (below1 wr (.cells #[.int .i64 ya, .int .u64 yv, .int .i64 yl, .int .u64 yt] 121)) r1); have HB5 := Lib.hid ((below1 wr (.cells #[.int .i64 ya, .int .u64 yv, .int .i64 yl, .int .u64 yt] 121)).trans (hb5.mono (below1 _ _).size)); clear BK5 hb5)
       have HQ := Lib.hid (HBad.out (by rw [hbi]; rfl))
       clear hbi
       go_ret
       exact ⟨by rw [← HQ.out]; rfl, HWq.out.trans (HB5.out.mono HWq.out.size)⟩
     ·have d1 : ((ya : Int) == (asid : Int)) = false := by rw [beq_eq_false_iff_ne]; omega
      rw [decide_eq_false a1] at hbi
      clear a1
      go_wp2_with (go_at_call 58; refine D5.out.mono ?_; rintro e w5 ⟨rfl, hb5⟩; have BK5 := (Box.new wr [.int .i64 ya, .int .u64 yv, .int .i64 yl, .int .u64 yt] 121).below hb5; have t0 := BK5.at 0 _ rfl; have t3 := BK5.at 3 _ rfl; have r1b := keep_cell hb5 (keep_cell (below1 wr (.cells #[.int .i64 ya, .int .u64 yv, .int .i64 yl, .int .u64 yt] 121)) r1); have HB5 := Lib.hid ((below1 wr (.cells #[.int .i64 ya, .int .u64 yv, .int .i64 yl, .int .u64 yt] 121)).trans (hb5.mono (below1 _ _).size)); clear BK5 hb5)
      have HBI : Hid (BK ⟨ya, yv, yl, yt⟩ = false) := by rw [Hid, hbi]; rfl
      clear hbi
      go_roundw
      case rel => exact ⟨j + 1, by first | rfl | go_num, by omega, fun j2 hj h => by
       by_cases e : j2 = j
       ·subst e; rw [HX2.out]; exact HBI.out
       ·exact HALK.out j2 hj (by omega), HBq.out.trans (HB5.out.mono HBq.out.size)⟩
      case measure => simp [RowKit.intOf]; omega
    ·have HQ := Lib.hid (HGood.out HALLE.out (fun m hm => HALK.out m hm (by omega)))
     go_wp2
     go_ret
     exact ⟨by rw [← HQ.out]; rfl, HWq.out⟩
theorem msound_nat {x m pt pk : Nat} {pv : Value} {Fm Ft Fk : Nat → Prop} {s : St} {w : World} (h : MmuD x m pt pk pv Fm Ft Fk s w) :
  Calls Tryz.prog 17 #[.pointer (some ⟨x, 0, none⟩)] w fun e w' => e = .returned (.bool (soundM s)) ∧ Below w.heap.size w w' := by
 cases hr : s.reg with
 | none => exact sound_none h hr
 | some r => exact msound_some h r.1 r.2 hr
end Go.Proofs.YtbapgngngaaojaaGreat
