/- The walk of (*Mmu).Guess. slices.Clone of plans, and (*Mmu).Plan. (*Mmu).Write: a word of the kernel's, and the planned guesses. More of a machine among the blocks of its caller: what MmuPlays calls. The law's step: kind 10 (Off), and the kinds that do nothing. The law's step: the kinds that do nothing. -/
import Derived.Test.YtbapgngngaaojaaGreatG28
import Derived.Test.YtbapgngngaaojaaGreatG26
import Derived.Test.YtbapgngngaaojaaGreatG09
import Derived.Test.YtbapgngngaaojaaGreatG27
set_option linter.unusedSimpArgs false
set_option linter.unusedVariables false
namespace Go.Proofs.YtbapgngngaaojaaGreat
open Go.RowKit Go.Lib
set_option maxRecDepth 100000
def guessM (s : St) (va : Nat) (fill led keep : Bool) : St := match s.reg with
 | none => s
 | some (r, a) => if (findP s.es a va).2 = 0 then (walkM s r a va fill led keep).2 else s
theorem sizeEntry : (Tryz.prog.info? 119).map (·.size) = some 10 := by kernel_rfl
section
variable {x m pt pk : Nat} {pv : Value} {Fm Ft Fk : Nat → Prop} {s : St} {w : World}
theorem guess_none (h : MmuD x m pt pk pv Fm Ft Fk s w) (va : Nat) (fill led keep : Bool) (hr : s.reg = none) :
  Calls Tryz.prog 24 #[.pointer (some ⟨x, 0, none⟩), .int .u64 va, .agg #[.bool fill, .bool led, .bool keep]] w fun e w' => e = .returned (.tuple #[]) ∧ MmuPost x m pt pk pv Fm Ft Fk s w w' := by
 have C1 : Hid (∀ u, Below w.heap.size w u → Calls Tryz.prog 55 #[.pointer (some ⟨x, 0, none⟩)] u (HeldPost s.reg u)) := fun u hb => held_nat (h.below hb)
 rw [hr] at C1
 have HD := Lib.hid h
 clear h hr
 go_enter Tryz.func24, Tryz.ntmps24
 go_upto_region 1 with fail
 have HB0 : Hid (Below w.heap.size w (w.alloc (.cells #[.bool fill, .bool led, .bool keep] 26))) := below1 _ _
 generalize World.alloc w _ = W at *
 go_wp2_with (go_at_call 55; refine (C1.out _ HB0.out).mono ?_; rintro e w1 ⟨rfl, hb1⟩; have HB1 := Lib.hid (HB0.out.trans (hb1.mono HB0.out.size)); clear hb1)
 (try simp only [Exit.inBlock, Exit.then]); refine bodyPost_ret (results_none rfl _ _ _) rfl ?_
 exact ⟨rfl, MmuPost.ofBelow HD.out (HB1.out.alloc HB1.out.size _)⟩
set_option maxHeartbeats 2000000 in
theorem guess_reg (h : MmuD x m pt pk pv Fm Ft Fk s w) (va : Nat) (hv : va < 18446744073709551616) (fill led keep : Bool) (r a : Nat) (hr : s.reg = some (r, a)) :
  Calls Tryz.prog 24 #[.pointer (some ⟨x, 0, none⟩), .int .u64 va, .agg #[.bool fill, .bool led, .bool keep]] w fun e w' => e = .returned (.tuple #[]) ∧ MmuPost x m pt pk pv Fm Ft Fk (if (findP s.es a va).2 = 0 then (walkM s r a va fill led keep).2 else s) w w' := by
 have C1 : Hid (∀ u, Below w.heap.size w u → Calls Tryz.prog 55 #[.pointer (some ⟨x, 0, none⟩)] u (HeldPost s.reg u)) := fun u hb => held_nat (h.below hb)
 rw [hr] at C1
 have hra := h.ok.rok r a hr
 have C3 : Hid (∀ u, Below w.heap.size w u → Calls Tryz.prog 64 #[.pointer (some ⟨pt, 0, none⟩), .int .i64 a, .int .u64 va] u (FindPost (findP s.es a va) u)) := fun u hb =>
  find_nat (h.tlb.below hb) (by have := h.ok.el; have := h.ok.m64; omega) (fun e he => (h.ok.eok e he).2.2.1) a va hv
 have C4 : Hid (∀ u, Below w.heap.size w u → Calls Tryz.prog 65 #[.pointer (some ⟨x, 0, none⟩), .agg #[.int .u64 r, .int .i64 a], .int .u64 va, .agg #[.bool fill, .bool led, .bool keep]] u fun e w' => (∃ R : Value, e = .returned R) ∧ MmuPost x m pt pk pv Fm Ft Fk (walkM s r a va fill led keep).2 u w') := fun u hb =>
  (mwalk_nat (h.below hb) r a va hra.2 hra.1 hv fill led keep).mono (fun e w' h => ⟨⟨_, h.1⟩, h.2⟩)
 have c1 := h.c1
 have hx := h.bx
 have HD := Lib.hid h
 generalize findP s.es a va = E at *
 obtain ⟨⟨ea, ev, el, ⟨K0, out, b1, b2, b3, b4, attr⟩⟩, n⟩ := E
 generalize walkM s r a va fill led keep = M at *
 obtain ⟨R0, s'⟩ := M
 dsimp only at C4 ⊢
 replace C3 : Hid (∀ u, Below w.heap.size w u → Calls Tryz.prog 64 #[.pointer (some ⟨pt, 0, none⟩), .int .i64 a, .int .u64 va] u fun e u' => e = .returned (.tuple #[.agg #[.int .i64 ea, .int .u64 ev, .int .i64 el, .int .i64 K0, .int .u64 out, .bool b1, .bool b2, .bool b3, .bool b4, .int .i64 attr], .int .i64 n]) ∧ Below u.heap.size u u') := C3.out
 obtain ⟨T, hT⟩ : ∃ T : St, (if n = 0 then s' else s) = T := ⟨_, rfl⟩
 rw [hT]
 have HT := Lib.hid hT
 clear h hr hra hT
 go_enter Tryz.func24, Tryz.ntmps24
 go_upto_region 1 with fail
 have HB0 : Hid (Below w.heap.size w (w.alloc (.cells #[.bool fill, .bool led, .bool keep] 26))) := below1 _ _
 have HH0 : Hid (Box (w.alloc (.cells #[.bool fill, .bool led, .bool keep] 26)) w.heap.size [.bool fill, .bool led, .bool keep]) := Box.new w [.bool fill, .bool led, .bool keep] 26
 generalize World.alloc w _ = W at *
 go_upto_region 3 with (go_at_call 55; refine (C1.out _ HB0.out).mono ?_; rintro e w1 ⟨rfl, hb1⟩; have HB1 := Lib.hid (HB0.out.trans (hb1.mono HB0.out.size)); have HH1 := Lib.hid (HH0.out.below hb1); clear hb1)
 have HR0 : Hid (Box (w1.alloc (.cells #[.int .u64 r, .int .i64 a] 92)) w1.heap.size [.int .u64 r, .int .i64 a]) := Box.new w1 [.int .u64 r, .int .i64 a] 92
 have HWX : Hid (Below w.heap.size w (w1.alloc (.cells #[.int .u64 r, .int .i64 a] 92))) := HB1.out.alloc HB1.out.size _
 have HHX := Lib.hid (HH1.out.below (below1 w1 (.cells #[.int .u64 r, .int .i64 a] 92)))
 generalize World.alloc w1 _ = X at *
 generalize w1.heap.size = g6 at *
 have p1 := keep_cell HWX.out c1
 have r1 := HR0.out.at 1 _ rfl
 have hxX : x < X.heap.size := by have := HWX.out.size; omega
 go_cut [9] (fun nv wx => nv = .int .i64 n ∧ Hid (Below X.heap.size X wx))
 case first =>
  have SK : ∀ u, Below X.heap.size X u → u.cell? ⟨x, 1, none⟩ = some (.pointer (some ⟨pt, 0, none⟩)) ∧ u.cell? ⟨g6, 1, none⟩ = some (.int .i64 a) := fun u h => ⟨keep_cell h p1, keep_cell h r1⟩
  obtain ⟨S, hSdef⟩ : ∃ S : World → Prop, S = fun u => Below X.heap.size X u := ⟨_, rfl⟩
  have hSu : ∀ u, S u → u.cell? ⟨x, 1, none⟩ = some (.pointer (some ⟨pt, 0, none⟩)) ∧ u.cell? ⟨g6, 1, none⟩ = some (.int .i64 a) := fun u h => by rw [hSdef] at h; exact SK u h
  have hSi : ∀ u, Below X.heap.size X u → S u := fun u h => by rw [hSdef]; exact h
  have O8 : Hid ((#[.int .i64 ea, .int .u64 ev, .int .i64 el, .int .i64 K0, .int .u64 out, .bool b1, .bool b2, .bool b3, .bool b4, .int .i64 attr] : Array Value).all (·.oneCell') = true) := all_oneCell_toArray (cs := [.int .i64 ea, .int .u64 ev, .int .i64 el, .int .i64 K0, .int .u64 out, .bool b1, .bool b2, .bool b3, .bool b4, .int .i64 attr]) (by intro u hu; simp only [List.mem_cons, List.not_mem_nil, or_false] at hu; rcases hu with rfl | rfl | rfl | rfl | rfl | rfl | rfl | rfl | rfl | rfl <;> rfl)
  clear hSdef SK p1 r1
  refine wp_region_held_drew (S := S) (by kernel_rfl) (hSi _ (Below.refl _ _).drew) (fun hHeld => ?_)
  refine wpAnyH_take (i := 0) (v := ?_) rfl (by kernel_rfl) (by kernel_rfl) (by kernel_rfl) (fun _ _ _ h => h) (Or.inl ⟨by rfl, ?_⟩) (by assumption) ?_
  rotate_left
  ·intro w hSw
   have hSw := hSu _ hSw
   try dsimp only at hSw
   go_simp
   try with_reducible rfl
  try simp only [Act.put, List.setIfInBounds_toArray, List.set_cons_zero, List.set_cons_succ]
  refine wpAnyH_take (i := 1) (v := ?_) rfl (by kernel_rfl) (by kernel_rfl) (by kernel_rfl) (fun _ _ _ h => h) (Or.inl ⟨by rfl, ?_⟩) (by assumption) ?_
  rotate_left
  ·intro w hSw
   have hSw := hSu _ hSw
   try dsimp only at hSw
   go_simp
   try with_reducible rfl
  try simp only [Act.put, List.setIfInBounds_toArray, List.set_cons_zero, List.set_cons_succ]
  refine wpAnyH_take (i := 2) (v := ?_) rfl (by kernel_rfl) (by kernel_rfl) (by kernel_rfl) (fun _ _ _ h => h) (Or.inl ⟨by rfl, ?_⟩) (by assumption) ?_
  rotate_left
  ·intro w hSw
   have hSw := hSu _ hSw
   try dsimp only at hSw
   go_simp
   try with_reducible rfl
  try simp only [Act.put, List.setIfInBounds_toArray, List.set_cons_zero, List.set_cons_succ]
  refine wpAnyH_take (i := 3) (v := ?_) rfl (by kernel_rfl) (by kernel_rfl) (by kernel_rfl) (fun _ _ _ h => h) (Or.inl ⟨by rfl, ?_⟩) (by assumption) ?_
  rotate_left
  ·intro w hSw
   have hSw := hSu _ hSw
   try dsimp only at hSw
   go_simp
   try with_reducible rfl
  try simp only [Act.put, List.setIfInBounds_toArray, List.set_cons_zero, List.set_cons_succ]
  refine wpAnyH_take (i := 4) (v := ?_) rfl (by kernel_rfl) (by kernel_rfl) (by kernel_rfl) (fun _ _ _ h => h) (Or.inl ⟨by rfl, ?_⟩) (by assumption) ?_
  rotate_left
  ·intro w hSw
   have hSw := hSu _ hSw
   try dsimp only at hSw
   go_simp
   try with_reducible rfl
  try simp only [Act.put, List.setIfInBounds_toArray, List.set_cons_zero, List.set_cons_succ]
  refine wpAnyH_take (i := 5) (v := ?_) rfl (by kernel_rfl) (by kernel_rfl) (by kernel_rfl) (fun _ _ _ h => h) (Or.inl ⟨by rfl, ?_⟩) (by assumption) ?_
  rotate_left
  ·intro w hSw
   have hSw := hSu _ hSw
   try dsimp only at hSw
   go_simp
   try with_reducible rfl
  try simp only [Act.put, List.setIfInBounds_toArray, List.set_cons_zero, List.set_cons_succ]
  refine wpAnyH_take (i := 6) (v := ?_) rfl (by kernel_rfl) (by kernel_rfl) (by kernel_rfl) (fun _ _ _ h => h) (Or.inl ⟨by rfl, ?_⟩) (by assumption) ?_
  rotate_left
  ·intro w hSw
   have hSw := hSu _ hSw
   try dsimp only at hSw
   go_simp
   try with_reducible rfl
  try simp only [Act.put, List.setIfInBounds_toArray, List.set_cons_zero, List.set_cons_succ]
  have HU : Hid (Below X.heap.size X X.drew) := (Below.refl _ _).drew
  generalize World.drew X = u0 at *
  refine wpAnyH_ready (rs := [7, 11]) (by kernel_rfl) (by simp) ?_
  refine AllReadyH.cons rfl (fun K hK => ?_) (AllReadyH.cons rfl (fun K hK => ?_) AllReadyH.nil)
  ·skip
   go_simp
   refine (C3.out _ (HWX.out.trans (HU.out.mono HWX.out.size))).mono ?_
   rintro e u1 ⟨rfl, hb5⟩
   go_wp2_with fail
   have HU1 : Hid (Below X.heap.size X u1) := HU.out.trans (hb5.mono HU.out.size)
   refine hK.out _ _ (hSi _ HU1.out) (fun hHeld => ?_)
   clear hK K
   try simp only [Act.put, List.setIfInBounds_toArray, List.set_cons_zero, List.set_cons_succ]
   clear HU hb5
   have HU := HU1
   clear HU1
   refine wpAnyH_take (i := 8) (v := ?_) rfl (by kernel_rfl) (by kernel_rfl) (by kernel_rfl) (fun _ _ _ h => h) (Or.inl ⟨by rfl, ?_⟩) (by assumption) ?_
   rotate_left
   ·intro w hSw
    have hSw := hSu _ hSw
    try dsimp only at hSw
    go_simp
    try with_reducible rfl
   try simp only [Act.put, List.setIfInBounds_toArray, List.set_cons_zero, List.set_cons_succ]
   refine wpAnyH_take (i := 9) (v := ?_) rfl (by kernel_rfl) (by kernel_rfl) (by kernel_rfl) (fun _ _ _ h => h) (Or.inl ⟨by rfl, ?_⟩) (by assumption) ?_
   rotate_left
   ·intro w hSw
    have hSw := hSu _ hSw
    try dsimp only at hSw
    go_simp
    try with_reducible rfl
   try simp only [Act.put, List.setIfInBounds_toArray, List.set_cons_zero, List.set_cons_succ]
   refine wpAnyH_take (i := 10) (v := ?_) rfl (by kernel_rfl) (by kernel_rfl) (by kernel_rfl) (fun _ _ _ h => h) (Or.inl ⟨by rfl, ?_⟩) (by assumption) ?_
   rotate_left
   ·intro w hSw
    have hSw := hSu _ hSw
    try dsimp only at hSw
    go_simp
    try with_reducible rfl
   try simp only [Act.put, List.setIfInBounds_toArray, List.set_cons_zero, List.set_cons_succ]
   refine wpAnyH_ready (rs := [11]) (by kernel_rfl) (by simp) ?_
   refine AllReadyH.cons rfl (fun K hK => ?_) AllReadyH.nil
   go_simp
   have hb5 := below1 u1 (.cells #[.int .i64 0, .int .u64 0, .int .i64 0, .int .i64 0, .int .u64 0, .bool false, .bool false, .bool false, .bool false, .int .i64 0] 119)
   have H8 : Hid (Box (World.alloc u1 (.cells #[.int .i64 0, .int .u64 0, .int .i64 0, .int .i64 0, .int .u64 0, .bool false, .bool false, .bool false, .bool false, .int .i64 0] 119)) u1.heap.size [.int .i64 0, .int .u64 0, .int .i64 0, .int .i64 0, .int .u64 0, .bool false, .bool false, .bool false, .bool false, .int .i64 0]) := Box.new u1 [.int .i64 0, .int .u64 0, .int .i64 0, .int .i64 0, .int .u64 0, .bool false, .bool false, .bool false, .bool false, .int .i64 0] 119
   have HU1 : Hid (Below X.heap.size X (World.alloc u1 (.cells #[.int .i64 0, .int .u64 0, .int .i64 0, .int .i64 0, .int .u64 0, .bool false, .bool false, .bool false, .bool false, .int .i64 0] 119))) := HU.out.trans (hb5.mono HU.out.size)
   refine hK.out _ _ (hSi _ HU1.out) (fun hHeld => ?_)
   clear hK K
   try simp only [Act.put, List.setIfInBounds_toArray, List.set_cons_zero, List.set_cons_succ]
   have HG8 : Hid (X.heap.size ≤ u1.heap.size) := HU.out.size
   clear HU hb5
   have HU := HU1
   clear HU1
   generalize World.alloc u1 _ = u2 at *
   generalize u1.heap.size = g8 at *
   refine wpAnyH_ready (rs := [12]) (by kernel_rfl) (by simp) ?_
   refine AllReadyH.cons rfl (fun K hK => ?_) AllReadyH.nil
   rw [if_pos (by rfl)]
   try simp only [List.getElem_toArray, List.getElem_cons_succ, List.getElem_cons_zero]
   refine wp_store_mid 119 _ _ (by rfl) g8 0 #[.int .i64 ea, .int .u64 ev, .int .i64 el, .int .i64 K0, .int .u64 out, .bool b1, .bool b2, .bool b3, .bool b4, .int .i64 attr] (by rfl) (by rfl) (H8.out.there rfl) sizeEntry O8.out ?_
   have HU1 := Lib.hid (((Kp.refl (fun i => i = g8) u2).setCells (.inl rfl) 0 [.int .i64 ea, .int .u64 ev, .int .i64 el, .int .i64 K0, .int .u64 out, .bool b1, .bool b2, .bool b3, .bool b4, .int .i64 attr]).toBelow HU.out HU.out.size (fun i e => by rw [e]; exact HG8.out))
   refine hK.out _ _ (hSi _ HU1.out) (fun hHeld => ?_)
   clear hK K
   try simp only [List.getElem_toArray, List.getElem_cons_succ, List.getElem_cons_zero, Act.put, List.setIfInBounds_toArray, List.set_cons_zero, List.set_cons_succ]
   refine wpAnyH_take (i := 13) (v := ?_) rfl (by kernel_rfl) (by kernel_rfl) (by kernel_rfl) (fun _ _ _ h => h) (Or.inl ⟨by rfl, ?_⟩) (by assumption) ?_
   rotate_left
   ·intro w hSw
    have hSw := hSu _ hSw
    try dsimp only at hSw
    go_simp
    try with_reducible rfl
   try simp only [Act.put, List.setIfInBounds_toArray, List.set_cons_zero, List.set_cons_succ]
   refine wpAnyH_done (by kernel_rfl) ?_ _
   try simp only [List.getElem_toArray, List.getElem_cons_succ, List.getElem_cons_zero, Act.put, List.setIfInBounds_toArray, List.set_cons_zero, List.set_cons_succ]
   go_wp2_with fail
   go_meet
   exact ⟨rfl, HU1⟩
  ·skip
   go_simp
   have hb5 := below1 u0 (.cells #[.int .i64 0, .int .u64 0, .int .i64 0, .int .i64 0, .int .u64 0, .bool false, .bool false, .bool false, .bool false, .int .i64 0] 119)
   have H8 : Hid (Box (World.alloc u0 (.cells #[.int .i64 0, .int .u64 0, .int .i64 0, .int .i64 0, .int .u64 0, .bool false, .bool false, .bool false, .bool false, .int .i64 0] 119)) u0.heap.size [.int .i64 0, .int .u64 0, .int .i64 0, .int .i64 0, .int .u64 0, .bool false, .bool false, .bool false, .bool false, .int .i64 0]) := Box.new u0 [.int .i64 0, .int .u64 0, .int .i64 0, .int .i64 0, .int .u64 0, .bool false, .bool false, .bool false, .bool false, .int .i64 0] 119
   have HU1 : Hid (Below X.heap.size X (World.alloc u0 (.cells #[.int .i64 0, .int .u64 0, .int .i64 0, .int .i64 0, .int .u64 0, .bool false, .bool false, .bool false, .bool false, .int .i64 0] 119))) := HU.out.trans (hb5.mono HU.out.size)
   refine hK.out _ _ (hSi _ HU1.out) (fun hHeld => ?_)
   clear hK K
   try simp only [Act.put, List.setIfInBounds_toArray, List.set_cons_zero, List.set_cons_succ]
   have HG8 : Hid (X.heap.size ≤ u0.heap.size) := HU.out.size
   clear HU hb5
   have HU := HU1
   clear HU1
   generalize World.alloc u0 _ = u1 at *
   generalize u0.heap.size = g8 at *
   refine wpAnyH_ready (rs := [7]) (by kernel_rfl) (by simp) ?_
   refine AllReadyH.cons rfl (fun K hK => ?_) AllReadyH.nil
   go_simp
   refine (C3.out _ (HWX.out.trans (HU.out.mono HWX.out.size))).mono ?_
   rintro e u2 ⟨rfl, hb5⟩
   go_wp2_with fail
   have HU1 : Hid (Below X.heap.size X u2) := HU.out.trans (hb5.mono HU.out.size)
   refine hK.out _ _ (hSi _ HU1.out) (fun hHeld => ?_)
   clear hK K
   try simp only [Act.put, List.setIfInBounds_toArray, List.set_cons_zero, List.set_cons_succ]
   replace H8 := Lib.hid (H8.out.below hb5)
   clear HU hb5
   have HU := HU1
   clear HU1
   refine wpAnyH_take (i := 8) (v := ?_) rfl (by kernel_rfl) (by kernel_rfl) (by kernel_rfl) (fun _ _ _ h => h) (Or.inl ⟨by rfl, ?_⟩) (by assumption) ?_
   rotate_left
   ·intro w hSw
    have hSw := hSu _ hSw
    try dsimp only at hSw
    go_simp
    try with_reducible rfl
   try simp only [Act.put, List.setIfInBounds_toArray, List.set_cons_zero, List.set_cons_succ]
   refine wpAnyH_take (i := 9) (v := ?_) rfl (by kernel_rfl) (by kernel_rfl) (by kernel_rfl) (fun _ _ _ h => h) (Or.inl ⟨by rfl, ?_⟩) (by assumption) ?_
   rotate_left
   ·intro w hSw
    have hSw := hSu _ hSw
    try dsimp only at hSw
    go_simp
    try with_reducible rfl
   try simp only [Act.put, List.setIfInBounds_toArray, List.set_cons_zero, List.set_cons_succ]
   refine wpAnyH_take (i := 10) (v := ?_) rfl (by kernel_rfl) (by kernel_rfl) (by kernel_rfl) (fun _ _ _ h => h) (Or.inl ⟨by rfl, ?_⟩) (by assumption) ?_
   rotate_left
   ·intro w hSw
    have hSw := hSu _ hSw
    try dsimp only at hSw
    go_simp
    try with_reducible rfl
   try simp only [Act.put, List.setIfInBounds_toArray, List.set_cons_zero, List.set_cons_succ]
   refine wpAnyH_ready (rs := [12]) (by kernel_rfl) (by simp) ?_
   refine AllReadyH.cons rfl (fun K hK => ?_) AllReadyH.nil
   rw [if_pos (by rfl)]
   try simp only [List.getElem_toArray, List.getElem_cons_succ, List.getElem_cons_zero]
   refine wp_store_mid 119 _ _ (by rfl) g8 0 #[.int .i64 ea, .int .u64 ev, .int .i64 el, .int .i64 K0, .int .u64 out, .bool b1, .bool b2, .bool b3, .bool b4, .int .i64 attr] (by rfl) (by rfl) (H8.out.there rfl) sizeEntry O8.out ?_
   have HU1 := Lib.hid (((Kp.refl (fun i => i = g8) u2).setCells (.inl rfl) 0 [.int .i64 ea, .int .u64 ev, .int .i64 el, .int .i64 K0, .int .u64 out, .bool b1, .bool b2, .bool b3, .bool b4, .int .i64 attr]).toBelow HU.out HU.out.size (fun i e => by rw [e]; exact HG8.out))
   refine hK.out _ _ (hSi _ HU1.out) (fun hHeld => ?_)
   clear hK K
   try simp only [List.getElem_toArray, List.getElem_cons_succ, List.getElem_cons_zero, Act.put, List.setIfInBounds_toArray, List.set_cons_zero, List.set_cons_succ]
   refine wpAnyH_take (i := 13) (v := ?_) rfl (by kernel_rfl) (by kernel_rfl) (by kernel_rfl) (fun _ _ _ h => h) (Or.inl ⟨by rfl, ?_⟩) (by assumption) ?_
   rotate_left
   ·intro w hSw
    have hSw := hSu _ hSw
    try dsimp only at hSw
    go_simp
    try with_reducible rfl
   try simp only [Act.put, List.setIfInBounds_toArray, List.set_cons_zero, List.set_cons_succ]
   refine wpAnyH_done (by kernel_rfl) ?_ _
   try simp only [List.getElem_toArray, List.getElem_cons_succ, List.getElem_cons_zero, Act.put, List.setIfInBounds_toArray, List.set_cons_zero, List.set_cons_succ]
   go_wp2_with fail
   go_meet
   exact ⟨rfl, HU1⟩
 case rest =>
  obtain ⟨rfl, HBC⟩ := hcut
  have HWC : Hid (Below w.heap.size w wc) := HWX.out.trans (HBC.out.mono HWX.out.size)
  have BH := HHX.out.below HBC.out
  have BR := HR0.out.below HBC.out
  have e0 := BH.at 0 _ rfl
  have e1 := BH.at 1 _ rfl
  have e2 := BH.at 2 _ rfl
  have r0 := BR.at 0 _ rfl
  have r1 := BR.at 1 _ rfl
  clear BH BR p1 HHX HR0
  by_cases hn : n = 0
  ·subst hn
   have HT2 : Hid (s' = T) := by have := HT.out; rw [if_pos rfl] at this; exact this
   go_wp2_with (go_at_call 65; refine (C4.out _ HWC.out).mono ?_; rintro e w9 ⟨⟨R, rfl⟩, hp⟩; have HP := Lib.hid hp; clear hp)
   go_end0
   rw [← HT2.out]
   exact ⟨rfl, MmuPost.pre HWC.out HP.out⟩
  ·have HT2 : Hid (s = T) := by have := HT.out; rw [if_neg hn] at this; exact this
   have hnb : ((n : Int) == 0) = false := by rw [beq_eq_false_iff_ne]; omega
   clear hn
   go_wp2
   go_end0
   rw [← HT2.out]
   exact ⟨rfl, MmuPost.ofBelow HD.out HWC.out⟩
theorem mguess_nat (h : MmuD x m pt pk pv Fm Ft Fk s w) (va : Nat) (hv : va < 18446744073709551616) (fill led keep : Bool) :
  Calls Tryz.prog 24 #[.pointer (some ⟨x, 0, none⟩), .int .u64 va, .agg #[.bool fill, .bool led, .bool keep]] w fun e w' => e = .returned (.tuple #[]) ∧ MmuPost x m pt pk pv Fm Ft Fk (guessM s va fill led keep) w w' := by
 unfold guessM
 split
 ·rename_i hr; exact guess_none h va fill led keep hr
 ·rename_i r a hr; exact guess_reg h va hv fill led keep r a hr
end
end Go.Proofs.YtbapgngngaaojaaGreat
namespace Go.Proofs.YtbapgngngaaojaaGreat
open Go.RowKit Go.Lib
set_option maxRecDepth 100000
abbrev Pl := Nat × Bool × Bool × Bool
def pL (p : Pl) : List Value := [.int .u64 p.1, .bool p.2.1, .bool p.2.2.1, .bool p.2.2.2]
theorem pL_len (p : Pl) : (pL p).length = 4 := rfl
theorem infoP : (Tryz.prog.info? 130).map (fun i => (i.zero, i.size, i.bytes)) = some (some (.agg #[.int .u64 0, .bool false, .bool false, .bool false]), 4, 16) := by kernel_rfl
theorem pL_one (k : Pl) : ∀ u ∈ pL k, u.oneCell' = true := by
 intro u hu
 simp only [pL, List.mem_cons, List.not_mem_nil, or_false] at hu
 rcases hu with rfl | rfl | rfl | rfl <;> rfl
def PClonePost (l : List Pl) (w : World) (e : Ending) (w' : World) : Prop :=
 ∃ A c, e = .returned (.slice A l.length c) ∧ RowAt w' (fun k => w.heap.size ≤ k) 4 (.slice A l.length c) l.length (rowL pL l) ∧ Below w.heap.size w w'
set_option maxHeartbeats 400000 in
theorem pclone_nat {ok : Nat → Prop} {v : Value} (l : List Pl) (w : World) (hn : l.length ≤ 1000) (h : RowAt w ok 4 v l.length (rowL pL l)) :
  Calls Tryz.prog 93 #[v] w (PClonePost l w) := by
 obtain ⟨i0, hi0, hz0, hz1, hz2⟩ := info_parts infoP
 have I0 := Lib.hid hi0
 have I1 := Lib.hid hz0
 have I2 := Lib.hid hz1
 have I3 := Lib.hid hz2
 have HN := Lib.hid hn
 clear hi0 hz0 hz1 hz2 hn
 have hnil := fun (w : World) (a : Option Addr) (n c : Nat) => Lib.run_eql_slice_nil (P := Tryz.prog) w 95 130 a n c 0 0 Tryz.underlying95
 rcases h.2 with ⟨rfl, h0⟩ | ⟨g, o, cap, rfl, _, hg, hle, hcm, hr, _⟩
 ·obtain rfl : l = [] := List.eq_nil_of_length_eq_zero h0
  go_enter Tryz.func93, Tryz.ntmps93
  go_wp2
  go_ret
  exact ⟨none, 0, rfl, RowAt.nil _ _ _, Below.refl _ _⟩
 ·have HR := Lib.hid hr
  have HL : Hid ((rowL pL l).length = l.length * 4) := rowL_len pL 4 pL_len l
  clear hr h hle hcm
  go_enter Tryz.func93, Tryz.ntmps93
  go_wp2_with (at_builtin; refine wpList_append_row (by rfl) _ _ 95 (by rfl) 130 i0 (.agg #[.int .u64 0, .bool false, .bool false, .bool false]) 4 16 Tryz.underlying95 I0.out I1.out I2.out I3.out rfl (by omega) (fun k => w.heap.size ≤ k) (.slice (some ⟨w.heap.size, 0, none⟩) 0 0) 0 [] (by rfl) (empty_row w _ _ _ (Nat.le_refl _)) ⟨g, o, none⟩ l.length cap (rowL pL l) (by rfl) (by omega) HL.out (by intro j u hu; rw [Addr.add_mid]; exact keep_cell (below1 w _) (HR.out j u hu)) (row_one pL_one l) (by have := HN.out; unfold maxLen; omega) (by have := HN.out; omega) ?_; intro A1 c1 W hrow hkp)
  go_ret
  have hb : Below w.heap.size w W := hkp.toBelow (below1 w _) (below1 w _).size (fun k h => h)
  simp only [Nat.zero_add, List.nil_append] at hrow ⊢
  exact ⟨A1, c1, rfl, hrow.mono (fun k _ y => y.elim id (fun z => Nat.le_trans (below1 w _).size z)), hb⟩
section
variable {x m pt pk : Nat} {pv : Value} {Fm Ft Fk : Nat → Prop} {s : St} {w : World}
/-- New plans are laid. -/
theorem MmuD.setP {w' : World} (h : MmuD x m pt pk pv Fm Ft Fk s w) (v : Value) (hb : Below w.heap.size w w') : MmuD x m pt pk v Fm Ft Fk s (w'.setCell ⟨x, 4, none⟩ v) := by
 have h1 := h.below hb
 have hx := h1.bx
 have hne : ∀ i, i ≠ 4 → (⟨x, 4, none⟩ : Addr) ≠ ⟨x, i, none⟩ := fun i hi e => hi (by injection e with _ e2 _; exact e2.symm)
 have hk : Kp (fun k => k = x) w' (w'.setCell ⟨x, 4, none⟩ v) := (Kp.refl (fun k => k = x) w').setCell (p := ⟨x, 4, none⟩) (.inl rfl) _
 have hnm : ∀ k, Fm k → ¬ k = x := fun k y e => h1.dx.1 (e ▸ y)
 have hnt : ∀ k, WkF Ft pt k → ¬ k = x := fun k y e => h1.dx.2.1 (e ▸ y)
 have hnk : ∀ k, WkF Fk pk k → ¬ k = x := fun k y e => h1.dx.2.2 (e ▸ y)
 exact ⟨by rw [World.cell?_setCell_other _ _ _ _ (hne 0 (by omega))]; exact h1.c0, by rw [World.cell?_setCell_other _ _ _ _ (hne 1 (by omega))]; exact h1.c1,
  by rw [World.cell?_setCell_other _ _ _ _ (hne 2 (by omega))]; exact h1.c2, by rw [World.cell?_setCell_other _ _ _ _ (hne 3 (by omega))]; exact h1.c3,
  by rw [World.frozen?_setCell]; exact h1.f3, World.cell?_setCell_same _ _ _ h1.c4, by rw [World.frozen?_setCell]; exact h1.f4,
  h1.mem.kept hk hnm, h1.tlb.kept hk (hnt _ (.inl rfl)) (fun k y => hnt k (.inr y)), h1.trail.kept hk (hnk _ (.inl rfl)) (fun k y => hnk k (.inr y)), h1.dx, h1.dm, h1.dt, fun k y => by rw [World.size_setCell]; exact h1.bm k y, h1.ok⟩
def planE (n : Nat) : Nat := if 8 < n then 11 else 0
/-- What a plan leaves: the plans' row in a new block. -/
def PlanPost (x m pt pk : Nat) (Fm Ft Fk : Nat → Prop) (s : St) (ps : List Pl) (w w' : World) : Prop :=
 ∃ pv, MmuD x m pt pk pv Fm Ft Fk s w' ∧ Kp (fun k => k = x) w w' ∧ RowAt w' (fun k => w.heap.size ≤ k) 4 pv ps.length (rowL pL ps)
theorem plan_many {g : Option Addr} {n c : Nat} (w : World) (hn : 8 < n) (x : Nat) :
  Calls Tryz.prog 48 #[.pointer (some ⟨x, 0, none⟩), .slice g n c] w fun e w' => e = .returned (.int .i64 11) ∧ w' = w := by
 have d : decide ((8 : Int) < (n : Int)) = true := by simp; omega
 go_enter Tryz.func48, Tryz.ntmps48
 go_wp2
 go_ret
 exact ⟨rfl, rfl⟩
theorem plan_nat {ok : Nat → Prop} {v : Value} {ps : List Pl} (h : MmuD x m pt pk pv Fm Ft Fk s w) (hr : RowAt w ok 4 v ps.length (rowL pL ps)) (hn : ps.length ≤ 8) :
  Calls Tryz.prog 48 #[.pointer (some ⟨x, 0, none⟩), v] w fun e w' => e = .returned (.int .i64 0) ∧ PlanPost x m pt pk Fm Ft Fk s ps w w' := by
 have C1 := Lib.hid (pclone_nat ps w (by omega) hr)
 obtain ⟨A0, c0, rfl⟩ := hr.form
 have d : decide ((8 : Int) < (ps.length : Int)) = false := by simp; omega
 have k4 := h.c4
 have l4 := h.f4
 have hx := h.bx
 have HD := Lib.hid h
 clear h hr
 go_enter Tryz.func48, Tryz.ntmps48
 go_wp2_with (go_at_call 93; refine C1.out.mono ?_; rintro e w1 ⟨A1, c1, rfl, hrow, hb⟩; have HB := Lib.hid hb; have HROW := Lib.hid hrow; have k4' := keep_cell hb k4; have l4' : w1.frozen? ⟨x, 4, none⟩ = false := keep_frozen hb hx l4; clear hrow hb)
 go_ret
 exact ⟨rfl, _, HD.out.setP _ HB.out, (Kp.setCell (F := fun k => k = x) (Kp.ofBelow HB.out) (p := ⟨x, 4, none⟩) (.inl rfl) _), HROW.out.kept (F := fun k => k = x) ((Kp.refl (fun k => k = x) w1).setCell (p := ⟨x, 4, none⟩) (.inl rfl) _) (fun k y e => by omega)⟩
end
end Go.Proofs.YtbapgngngaaojaaGreat
namespace Go.Proofs.YtbapgngngaaojaaGreat
open Go.RowKit Go.Lib
set_option maxRecDepth 100000
def guessAll : List Pl → St → St
 | [], s => s
 | p :: ps, s => guessAll ps (guessM s p.1 p.2.1 p.2.2.1 p.2.2.2)
def writeG (s : St) (ps : List Pl) (at_ v : Nat) : St × Nat := (if mayP s.sz at_ = 0 then guessAll ps { s with rd := writeP s.sz s.rd at_ v } else { s with rd := writeP s.sz s.rd at_ v }, mayP s.sz at_)
section
variable {x m pt pk : Nat} {pv : Value} {Fm Ft Fk : Nat → Prop} {s : St} {w : World}
set_option maxHeartbeats 1000000 in
theorem mwrite_nat {ok : Nat → Prop} {ps : List Pl} (h : MmuD x m pt pk pv Fm Ft Fk s w) (hr : RowAt w ok 4 pv ps.length (rowL pL ps)) (hok : ∀ k, ok k → ¬ MmuF x pt pk Fm Ft Fk k) (hp : ∀ p ∈ ps, p.1 < 18446744073709551616) (hn : ps.length ≤ 8)
  (at_ v : Nat) (ha : at_ < 18446744073709551616) (hv : v < 18446744073709551616) :
  Calls Tryz.prog 49 #[.pointer (some ⟨x, 0, none⟩), .int .u64 at_, .int .u64 v] w fun e w' => e = .returned (.int .i64 (writeG s ps at_ v).2) ∧ MmuPost x m pt pk pv Fm Ft Fk (writeG s ps at_ v).1 w w' := by
 have C1 : Hid (Calls Tryz.prog 29 #[.pointer (some ⟨m, 0, none⟩), .int .u64 at_, .int .u64 v] w fun e w' => e = .returned (.int .i64 (mayP s.sz at_)) ∧ MmuPost x m pt pk pv Fm Ft Fk { s with rd := writeP s.sz s.rd at_ v } w w') :=
  (write_nat h.mem at_ v h.ok.szle h.ok.szal ha hv).mono fun e w' hp => ⟨hp.1, (h.wrote (Below.refl _ _) hp).1⟩
 unfold writeG
 dsimp only
 generalize ({ s with rd := writeP s.sz s.rd at_ v } : St) = s1 at *
 generalize mayP s.sz at_ = e0 at *
 have k0 := h.c0
 by_cases he : e0 = 0
 ·subst he
  rw [if_pos rfl]
  obtain ⟨R, hR⟩ : ∃ R, guessAll ps s1 = R := ⟨_, rfl⟩
  rw [hR]
  have HR := Lib.hid hR
  have HROW := Lib.hid hr
  have HOK := Lib.hid hok
  have HP := Lib.hid hp
  have HD := Lib.hid h
  obtain ⟨A0, cp, rfl⟩ := hr.form
  clear h hr hR hok hp
  go_enter Tryz.func49, Tryz.ntmps49
  go_wp2_with (go_at_call 29; refine C1.out.mono ?_; rintro e w1 ⟨rfl, hp1⟩; have HP1 := Lib.hid hp1; have k4 : w1.cell? ⟨x, 4, none⟩ = some (.slice A0 ps.length cp) := (by obtain ⟨_, _, _, g1, _⟩ := hp1; exact g1.c4); clear hp1)
  clear k4 C1 k0
  go_loopw [25] (fun iv wr => ∃ (i : Nat) (si : St), iv = .int .i64 i ∧ i ≤ ps.length ∧ Hid (guessAll (ps.drop i) si = R) ∧ Hid (MmuPost x m pt pk (.slice A0 ps.length cp) Fm Ft Fk si w wr)) (fun iv _ => ps.length - (RowKit.intOf iv).toNat)
  case atStart => exact ⟨0, s1, rfl, by omega, HR, HP1⟩
  case round =>
   obtain ⟨i, si, rfl, hi, HS, HQ⟩ := hrel
   by_cases hlt : i < ps.length
   ·have hrow : RowAt wr ok 4 (.slice A0 ps.length cp) ps.length (rowL pL ps) := by
     obtain ⟨_, _, _, _, g2, _⟩ := HQ.out
     exact HROW.out.kept g2 (fun k y => HOK.out k y)
    obtain ⟨g, o, rfl, _⟩ := row_some hrow (by omega)
    have hrng := hrow.range
    have q0 := row_at0 pL_len hrng i hlt _ rfl
    have q1 := row_at pL_len hrng i hlt 1 _ rfl
    have q2 := row_at pL_len hrng i hlt 2 _ rfl
    have q3 := row_at pL_len hrng i hlt 3 _ rfl
    have HV := Lib.hid (HP.out ps[i] (List.getElem_mem hlt))
    have HS1 : Hid (guessAll (ps[i] :: ps.drop (i + 1)) si = R) := by have := HS.out; rw [List.drop_eq_getElem_cons hlt] at this; exact this
    clear HS hrow hrng
    generalize ps[i] = p at *
    obtain ⟨va, b1, b2, b3⟩ := p
    dsimp only at q0 q1 q2 q3 HV
    have CC : Hid (∀ u, Below wr.heap.size wr u → Calls Tryz.prog 24 #[.pointer (some ⟨x, 0, none⟩), .int .u64 va, .agg #[.bool b1, .bool b2, .bool b3]] u fun e w' => e = .returned (.tuple #[]) ∧ MmuPost x m pt pk (.slice (some ⟨g, o, none⟩) ps.length cp) Fm Ft Fk (guessM si va b1 b2 b3) w w') := fun u hb => by
     obtain ⟨Fm', Ft', Fk', g1, g2, g3⟩ := HQ.out
     exact (mguess_nat (g1.below hb) va HV.out b1 b2 b3).mono (fun e w' hh => ⟨hh.1, MmuPost.join (g2.below hb) g3 hh.2⟩)
    go_wp2_with (go_at_call 24; refine (CC.out _ (below1 wr _)).mono ?_; rintro e w5 ⟨rfl, hp5⟩; have HP5 := Lib.hid hp5; clear hp5)
    go_roundw
    case rel => exact ⟨i + 1, _, by first | rfl | go_num, by omega, HS1, HP5⟩
    case measure => simp [RowKit.intOf]; omega
   ·obtain rfl : i = ps.length := by omega
    have HS1 : Hid (si = R) := by have := HS.out; rw [List.drop_eq_nil_of_le (Nat.le_refl _)] at this; exact this
    clear HS
    go_wp2
    go_ret
    rw [← HS1.out]
    exact ⟨rfl, HQ.out⟩
 ·rw [if_neg he]
  have hnb : ((e0 : Int) == 0) = false := by rw [beq_eq_false_iff_ne]; omega
  have hnb2 : decide ((e0 : Int) = 0) = false := by simp [he]
  clear he h hr hok
  go_enter Tryz.func49, Tryz.ntmps49
  go_wp2_with (go_at_call 29; refine C1.out.mono ?_; rintro e w1 ⟨rfl, hp1⟩; have HP1 := Lib.hid hp1; clear hp1)
  go_ret
  exact ⟨rfl, HP1.out⟩
end
end Go.Proofs.YtbapgngngaaojaaGreat
namespace Go.Proofs.YtbapgngngaaojaaGreat
open Go.RowKit Go.Lib
set_option maxRecDepth 100000
section
variable {x m pt pk : Nat} {pv : Value} {s s' : St} {B : Nat → Prop} {w0 w w' : World}
theorem MB.guess (h : MB x m pt pk pv s B w0 w) (va : Nat) (hv : va < 18446744073709551616) (fill led keep : Bool) :
  Calls Tryz.prog 24 #[.pointer (some ⟨x, 0, none⟩), .int .u64 va, .agg #[.bool fill, .bool led, .bool keep]] w fun e w' => e = .returned (.tuple #[]) ∧ MB x m pt pk pv (guessM s va fill led keep) B w0 w' ∧ Kp (KB B w0) w w' :=
 h.calls fun _ _ _ hd => mguess_nat hd va hv fill led keep
theorem MB.evict (h : MB x m pt pk pv s B w0 w) (n : Int) :
  Calls Tryz.prog 25 #[.pointer (some ⟨x, 0, none⟩), .int .i64 n] w fun e w' => e = .returned (.bool (dropB s.es n)) ∧ MB x m pt pk pv { s with es := dropL s.es n } B w0 w' ∧ Kp (KB B w0) w w' :=
 h.calls fun _ _ _ hd => mevict_nat hd n
theorem MB.lose (h : MB x m pt pk pv s B w0 w) (n : Int) :
  Calls Tryz.prog 26 #[.pointer (some ⟨x, 0, none⟩), .int .i64 n] w fun e w' => e = .returned (.bool (dropB s.ks n)) ∧ MB x m pt pk pv { s with ks := dropL s.ks n } B w0 w' ∧ Kp (KB B w0) w w' :=
 h.calls fun _ _ _ hd => mlose_nat hd n
theorem MB.flushAs (h : MB x m pt pk pv s B w0 w) (n : Int) :
  Calls Tryz.prog 16 #[.pointer (some ⟨x, 0, none⟩), .int .i64 n] w fun e w' => e = .returned (.tuple #[]) ∧ MB x m pt pk pv (flushAsM s n) B w0 w' ∧ Kp (KB B w0) w w' :=
 h.calls fun _ _ _ hd => mflushas_nat hd n
theorem MB.flushAll (h : MB x m pt pk pv s B w0 w) :
  Calls Tryz.prog 15 #[.pointer (some ⟨x, 0, none⟩)] w fun e w' => e = .returned (.tuple #[]) ∧ MB x m pt pk pv (flushAllM s) B w0 w' ∧ Kp (KB B w0) w w' :=
 h.calls fun _ _ _ hd => mflushall_nat hd
theorem MB.off (h : MB x m pt pk pv s B w0 w) :
  Calls Tryz.prog 47 #[.pointer (some ⟨x, 0, none⟩)] w fun e w' => e = .returned (.tuple #[]) ∧ MB x m pt pk pv { s with reg := none } B w0 w' ∧ Kp (KB B w0) w w' :=
 h.calls fun _ _ _ hd => moff_nat hd
/-- The kernel writes a word: the plans' row lies among the caller's blocks. -/
theorem MB.writeG (h : MB x m pt pk pv s B w0 w) {ps : List Pl} (hr : RowAt w B 4 pv ps.length (rowL pL ps)) (hp : ∀ p ∈ ps, p.1 < 18446744073709551616) (hn : ps.length ≤ 8) (at_ v : Nat) (ha : at_ < 18446744073709551616) (hv : v < 18446744073709551616) :
  Calls Tryz.prog 49 #[.pointer (some ⟨x, 0, none⟩), .int .u64 at_, .int .u64 v] w fun e w' => e = .returned (.int .i64 (writeG s ps at_ v).2) ∧ MB x m pt pk pv (writeG s ps at_ v).1 B w0 w' ∧ Kp (KB B w0) w w' := by
 obtain ⟨Fm, Ft, Fk, h1, h2, h3, h4⟩ := h
 refine (mwrite_nat h1 hr (fun k y z => (h2 k z).1 y) hp hn at_ v ha hv).mono ?_
 rintro e w' ⟨rfl, g⟩
 obtain ⟨Fm', Ft', Fk', g1, g2, g3⟩ := g
 have hk : Kp (KB B w0) w w' := g2.mono h2
 refine ⟨rfl, ⟨Fm', Ft', Fk', g1, fun k y => ?_, fun k y => ⟨Nat.lt_of_lt_of_le (h3 k y).1 hk.size, (h3 k y).2⟩, hk.toBelow h4 h4.size (fun k y => y.2)⟩, hk⟩
 rcases g3 k y with z | z
 ·exact h2 k z
 ·exact ⟨fun b => by have := (h3 k b).1; omega, by have := h4.size; omega⟩
/-- Plans are laid: their row joins the caller's blocks. -/
theorem MB.plan {ok : Nat → Prop} {v : Value} {ps : List Pl} (h : MB x m pt pk pv s B w0 w) (hr : RowAt w ok 4 v ps.length (rowL pL ps)) (hn : ps.length ≤ 8) :
  Calls Tryz.prog 48 #[.pointer (some ⟨x, 0, none⟩), v] w fun e w' => e = .returned (.int .i64 0) ∧ ∃ pv' B', MB x m pt pk pv' s B' w0 w' ∧ RowAt w' B' 4 pv' ps.length (rowL pL ps) ∧ (∀ k, B k → B' k) ∧ (∀ k, B' k → B k ∨ w.heap.size ≤ k) ∧ Kp (KB B w0) w w' := by
 obtain ⟨Fm, Ft, Fk, h1, h2, h3, h4⟩ := h
 refine (plan_nat h1 hr hn).mono ?_
 rintro e w' ⟨rfl, pv', g1, g2, g3⟩
 have hx : KB B w0 x := h2 x (.inl rfl)
 have hk : Kp (KB B w0) w w' := g2.mono (fun k y => by rw [y]; exact hx)
 have hs := h4.size
 refine ⟨rfl, pv', fun k => B k ∨ (w.heap.size ≤ k ∧ k < w'.heap.size), ⟨Fm, Ft, Fk, g1, fun k y => ⟨fun z => ?_, (h2 k y).2⟩, fun k y => ?_, hk.toBelow h4 hs (fun k y => y.2)⟩, g3.mono (fun k hk y => .inr ⟨y, hk⟩), fun k y => .inl y, fun k y => y.imp id (fun z => z.1), hk⟩
 ·rcases z with z | z
  ·exact (h2 k y).1 z
  ·have := h1.bF k y; omega
 ·rcases y with y | y
  ·exact ⟨Nat.lt_of_lt_of_le (h3 k y).1 hk.size, (h3 k y).2⟩
  ·exact ⟨y.2, by omega⟩
end
end Go.Proofs.YtbapgngngaaojaaGreat
namespace Go.Proofs.YtbapgngngaaojaaGreat
open Go.RowKit Go.Lib
set_option maxRecDepth 100000
def oC (kind sort n : Int) (va wd : Nat) (f l k : Bool) : List Value := [.int .i64 kind, .int .i64 sort, .int .i64 n, .int .u64 va, .int .u64 wd, .bool f, .bool l, .bool k]
/-- The caller gives blocks of its own back. -/
theorem MB.less {x m pt pk : Nat} {pv : Value} {s : St} {B B2 : Nat → Prop} {w0 w : World} (h : MB x m pt pk pv s B2 w0 w) (hs : ∀ k, B k → B2 k) : MB x m pt pk pv s B w0 w := by
 obtain ⟨Fm, Ft, Fk, h1, h2, h3, h4⟩ := h
 exact ⟨Fm, Ft, Fk, h1, fun k y => ⟨fun z => (h2 k y).1 (hs k z), (h2 k y).2⟩, fun k y => h3 k (hs k y), h4⟩
/-- The caller makes blocks. -/
theorem MB.adds {x m pt pk : Nat} {pv : Value} {s : St} {B : Nat → Prop} {w0 w w' : World} (h : MB x m pt pk pv s B w0 w) (hb : Below w.heap.size w w') : MB x m pt pk pv s (fun k => B k ∨ (w.heap.size ≤ k ∧ k < w'.heap.size)) w0 w' := by
 obtain ⟨Fm, Ft, Fk, h1, h2, h3, h4⟩ := h
 have hs := h4.size
 refine ⟨Fm, Ft, Fk, h1.below hb, fun k y => ⟨fun z => ?_, (h2 k y).2⟩, fun k y => ?_, h4.trans (hb.mono hs)⟩
 ·rcases z with z | z
  ·exact (h2 k y).1 z
  ·have := h1.bF k y; omega
 ·rcases y with y | y
  ·exact ⟨Nat.lt_of_lt_of_le (h3 k y).1 hb.size, (h3 k y).2⟩
  ·exact ⟨y.2, by omega⟩
set_option maxHeartbeats 2000000 in
theorem step_off {x m pt pk : Nat} {pv : Value} {s : St} {B : Nat → Prop} {w0 w : World} (h : MB x m pt pk pv s B w0 w) (sz most root asid : Nat) (on : Bool) (A1 A2 A3 A4 : Option Addr) (n1 n2 n3 n4 c1 c2 c3 c4 : Nat) (sort n : Int) (va wd : Nat) (f l k : Bool) :
  Calls Tryz.prog 14 #[.pointer (some ⟨x, 0, none⟩), xV sz most root asid on (.slice A1 n1 c1) (.slice A2 n2 c2) (.slice A3 n3 c3) (.slice A4 n4 c4), .agg #[.int .i64 10, .int .i64 sort, .int .i64 n, .int .u64 va, .int .u64 wd, .bool f, .bool l, .bool k]] w fun e w' => e = .returned (.tuple #[xV sz most root asid false (.slice A1 n1 c1) (.slice A2 n2 c2) (.slice A3 n3 c3) (.slice A4 n4 c4), .bool true]) ∧ MB x m pt pk pv { s with reg := none } B w0 w' ∧ Kp (KB B w0) w w' := by
 have HM := Lib.hid h
 clear h
 unfold xV
 go_enter Tryz.func14, Tryz.ntmps14
 go_upto_region 2 with fail
 generalize hW : World.alloc (World.alloc (World.alloc (World.alloc w _) _) _) _ = W
 have HX : Hid (Box W w.heap.size (xC sz most root asid on (.slice A1 n1 c1) (.slice A2 n2 c2) (.slice A3 n3 c3) (.slice A4 n4 c4))) := by
  rw [← hW]
  exact (((Box.new w (xC sz most root asid on (.slice A1 n1 c1) (.slice A2 n2 c2) (.slice A3 n3 c3) (.slice A4 n4 c4)) 36).below (below1 _ _)).below (below1 _ _)).below (below1 _ _)
 have HO : Hid (Box W (w.heap.size + 1) (oC 10 sort n va wd f l k)) := by
  rw [← hW]
  exact ((Box.new' (w.alloc (.cells (xC sz most root asid on (.slice A1 n1 c1) (.slice A2 n2 c2) (.slice A3 n3 c3) (.slice A4 n4 c4)).toArray 36)) _ (by simp) (oC 10 sort n va wd f l k) 55).below (below1 _ _)).below (below1 _ _)
 have HZ : Hid (Box W (w.heap.size + 2) (xC 0 0 0 0 false (.slice none 0 0) (.slice none 0 0) (.slice none 0 0) (.slice none 0 0))) := by
  rw [← hW]
  exact (Box.new' ((w.alloc (.cells (xC sz most root asid on (.slice A1 n1 c1) (.slice A2 n2 c2) (.slice A3 n3 c3) (.slice A4 n4 c4)).toArray 36)).alloc (.cells (oC 10 sort n va wd f l k).toArray 55)) _ (by simp) (xC 0 0 0 0 false (.slice none 0 0) (.slice none 0 0) (.slice none 0 0) (.slice none 0 0)) 36).below (below1 _ _)
 have HB0 : Hid (Below w.heap.size w W) := by rw [← hW]; exact (((below1 w _).alloc (by simp) _).alloc (by simp; omega) _).alloc (by simp; omega) _
 clear hW
 have HM2 := Lib.hid (HM.out.adds HB0.out)
 have o0 := HO.out.at 0 _ rfl
 have hzz : w.heap.size + 2 < W.heap.size := HZ.out.2.2
 have C1 := Lib.hid HM2.out.off
 go_wp2_with (go_at_call 47; refine C1.out.mono ?_; rintro e w1 ⟨rfl, hm, hk⟩; have HM3 := Lib.hid hm; have HK3 := Lib.hid hk; have HX3 := Lib.hid (HX.out.mb hk (.inr (by omega))); have HZ3 := Lib.hid (HZ.out.mb hk (.inr (by omega))); clear hm hk; have BX := HX3.out; have x0 := BX.at 0 _ rfl; have x1 := BX.at 1 _ rfl; have x2 := BX.at 2 _ rfl; have x3 := BX.at 3 _ rfl; have x4 := BX.at 4 _ rfl; have x5 := BX.at 5 _ rfl; have x6 := BX.at 6 _ rfl; have x7 := BX.at 7 _ rfl; have x8 := BX.at 8 _ rfl; have fx := BX.2.1; have zx := BX.2.2; have BP := HZ3.out; have p0 := BP.at 0 _ rfl; have p1 := BP.at 1 _ rfl; have p2 := BP.at 2 _ rfl; have p3 := BP.at 3 _ rfl; have p4 := BP.at 4 _ rfl; have p5 := BP.at 5 _ rfl; have p6 := BP.at 6 _ rfl; have p7 := BP.at 7 _ rfl; have p8 := BP.at 8 _ rfl; have fp := BP.2.1; have zp := BP.2.2; clear BX BP)
 refine bodyPost_ret (v := .tuple #[xV sz most root asid false (.slice A1 n1 c1) (.slice A2 n2 c2) (.slice A3 n3 c3) (.slice A4 n4 c4), .bool true]) (by simp [results, Tryz.results14, go_sem, zx, zp, p0, p1, p2, p3, p4, p5, p6, p7, p8, xV]) rfl ?_
 rw [set9_eq]
 have hk : Kp (fun k => k = w.heap.size ∨ k = w.heap.size + 1 + 1) w1 ((w1.setCell ⟨w.heap.size, 5, none⟩ (.bool false)).setCells (w.heap.size + 1 + 1) 0 (xC sz most root asid false (.slice A1 n1 c1) (.slice A2 n2 c2) (.slice A3 n3 c3) (.slice A4 n4 c4))) := ((Kp.refl (fun k => k = w.heap.size ∨ k = w.heap.size + 1 + 1) w1).setCell (p := ⟨w.heap.size, 5, none⟩) (.inl (.inl rfl)) _).setCells (.inl (.inr rfl)) 0 _
 have hk2 : Kp (KB B w0) w w1 := (Kp.ofBelow HB0.out).trans HK3.out (fun i y => .inl ⟨fun z => y.1 (.inl z), y.2⟩)
 exact ⟨rfl, (HM3.out.own (hk.mono (fun k y => .inr (by omega)))).less (fun k y => .inl y), hk2.trans hk (fun i y => .inr (by omega))⟩
end Go.Proofs.YtbapgngngaaojaaGreat
namespace Go.Proofs.YtbapgngngaaojaaGreat
open Go.RowKit Go.Lib
set_option maxRecDepth 100000
set_option maxHeartbeats 2000000 in
theorem step_none {x m pt pk : Nat} {pv : Value} {s : St} {B : Nat → Prop} {w0 w : World} (h : MB x m pt pk pv s B w0 w) (sz most root asid : Nat) (on : Bool) (A1 A2 A3 A4 : Option Addr) (n1 n2 n3 n4 c1 c2 c3 c4 : Nat) (kd sort n : Int) (hkd : kd < 1 ∨ 12 < kd) (va wd : Nat) (f l k : Bool) :
  Calls Tryz.prog 14 #[.pointer (some ⟨x, 0, none⟩), xV sz most root asid on (.slice A1 n1 c1) (.slice A2 n2 c2) (.slice A3 n3 c3) (.slice A4 n4 c4), .agg #[.int .i64 kd, .int .i64 sort, .int .i64 n, .int .u64 va, .int .u64 wd, .bool f, .bool l, .bool k]] w fun e w' => e = .returned (.tuple #[xV sz most root asid on (.slice A1 n1 c1) (.slice A2 n2 c2) (.slice A3 n3 c3) (.slice A4 n4 c4), .bool true]) ∧ MB x m pt pk pv s B w0 w' ∧ Kp (KB B w0) w w' := by
 have HM := Lib.hid h
 clear h
 unfold xV
 go_enter Tryz.func14, Tryz.ntmps14
 go_upto_region 2 with fail
 generalize hW : World.alloc (World.alloc (World.alloc (World.alloc w _) _) _) _ = W
 have HX : Hid (Box W w.heap.size (xC sz most root asid on (.slice A1 n1 c1) (.slice A2 n2 c2) (.slice A3 n3 c3) (.slice A4 n4 c4))) := by
  rw [← hW]
  exact (((Box.new w (xC sz most root asid on (.slice A1 n1 c1) (.slice A2 n2 c2) (.slice A3 n3 c3) (.slice A4 n4 c4)) 36).below (below1 _ _)).below (below1 _ _)).below (below1 _ _)
 have HO : Hid (Box W (w.heap.size + 1) (oC kd sort n va wd f l k)) := by
  rw [← hW]
  exact ((Box.new' (w.alloc (.cells (xC sz most root asid on (.slice A1 n1 c1) (.slice A2 n2 c2) (.slice A3 n3 c3) (.slice A4 n4 c4)).toArray 36)) _ (by simp) (oC kd sort n va wd f l k) 55).below (below1 _ _)).below (below1 _ _)
 have HZ : Hid (Box W (w.heap.size + 2) (xC 0 0 0 0 false (.slice none 0 0) (.slice none 0 0) (.slice none 0 0) (.slice none 0 0))) := by
  rw [← hW]
  exact (Box.new' ((w.alloc (.cells (xC sz most root asid on (.slice A1 n1 c1) (.slice A2 n2 c2) (.slice A3 n3 c3) (.slice A4 n4 c4)).toArray 36)).alloc (.cells (oC kd sort n va wd f l k).toArray 55)) _ (by simp) (xC 0 0 0 0 false (.slice none 0 0) (.slice none 0 0) (.slice none 0 0) (.slice none 0 0)) 36).below (below1 _ _)
 have HB0 : Hid (Below w.heap.size w W) := by rw [← hW]; exact (((below1 w _).alloc (by simp) _).alloc (by simp; omega) _).alloc (by simp; omega) _
 clear hW
 have HM2 := Lib.hid (HM.out.adds HB0.out)
 have o0 := HO.out.at 0 _ rfl
 have hzz : w.heap.size + 2 < W.heap.size := HZ.out.2.2
 have t1 : (kd == 1) = false := by rw [beq_eq_false_iff_ne]; omega
 have t2 : (kd == 2) = false := by rw [beq_eq_false_iff_ne]; omega
 have t3 : (kd == 3) = false := by rw [beq_eq_false_iff_ne]; omega
 have t4 : (kd == 4) = false := by rw [beq_eq_false_iff_ne]; omega
 have t5 : (kd == 5) = false := by rw [beq_eq_false_iff_ne]; omega
 have t6 : (kd == 6) = false := by rw [beq_eq_false_iff_ne]; omega
 have t7 : (kd == 7) = false := by rw [beq_eq_false_iff_ne]; omega
 have t8 : (kd == 8) = false := by rw [beq_eq_false_iff_ne]; omega
 have t9 : (kd == 9) = false := by rw [beq_eq_false_iff_ne]; omega
 have t10 : (kd == 10) = false := by rw [beq_eq_false_iff_ne]; omega
 have t11 : (kd == 11) = false := by rw [beq_eq_false_iff_ne]; omega
 have t12 : (kd == 12) = false := by rw [beq_eq_false_iff_ne]; omega
 clear hkd
 have BX := HX.out
 have x0 := BX.at 0 _ rfl
 have x1 := BX.at 1 _ rfl
 have x2 := BX.at 2 _ rfl
 have x3 := BX.at 3 _ rfl
 have x4 := BX.at 4 _ rfl
 have x5 := BX.at 5 _ rfl
 have x6 := BX.at 6 _ rfl
 have x7 := BX.at 7 _ rfl
 have x8 := BX.at 8 _ rfl
 have fx := BX.2.1
 have zx := BX.2.2
 have BP := HZ.out
 have p0 := BP.at 0 _ rfl
 have p1 := BP.at 1 _ rfl
 have p2 := BP.at 2 _ rfl
 have p3 := BP.at 3 _ rfl
 have p4 := BP.at 4 _ rfl
 have p5 := BP.at 5 _ rfl
 have p6 := BP.at 6 _ rfl
 have p7 := BP.at 7 _ rfl
 have p8 := BP.at 8 _ rfl
 have fp := BP.2.1
 have zp := BP.2.2
 clear BX BP fx
 go_wp2
 refine bodyPost_ret (v := .tuple #[xV sz most root asid on (.slice A1 n1 c1) (.slice A2 n2 c2) (.slice A3 n3 c3) (.slice A4 n4 c4), .bool true]) (by simp [results, Tryz.results14, go_sem, zx, zp, p0, p1, p2, p3, p4, p5, p6, p7, p8, xV]) rfl ?_
 rw [set9_eq]
 have hk : Kp (fun k => k = w.heap.size + 1 + 1) W (W.setCells (w.heap.size + 1 + 1) 0 (xC sz most root asid on (.slice A1 n1 c1) (.slice A2 n2 c2) (.slice A3 n3 c3) (.slice A4 n4 c4))) := (Kp.refl (fun k => k = w.heap.size + 1 + 1) W).setCells (.inl rfl) 0 _
 exact ⟨rfl, (HM2.out.own (hk.mono (fun k y => .inr (by omega)))).less (fun k y => .inl y), (Kp.ofBelow HB0.out).trans hk (fun i y => .inr (by omega))⟩
end Go.Proofs.YtbapgngngaaojaaGreat
