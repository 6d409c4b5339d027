/- The walk of (*Mmu).leaf. -/
import Derived.Test.YtbapgngngaaojaaGreatG19
set_option linter.unusedSimpArgs false
set_option linter.unusedVariables false
namespace Go.Proofs.YtbapgngngaaojaaGreat
open Go.RowKit Go.Lib
set_option maxRecDepth 100000
attribute [local go_sem high] eqA_Fault
def leafM (s : St) (va : Nat) (fill led keep : Bool) : Lf × St :=
 if va % 8 = 0 then
  match s.reg with
  | none => (⟨0, zeroD, (1, 0), []⟩, s)
  | some (r, a) =>
   if (findP s.es a va).2 = 0 then walkM s r a va fill led keep
   else if (findP s.es a va).2 = 1 then (⟨(findP s.es a va).1.level, (findP s.es a va).1.d, (0, 0), []⟩, s)
   else (⟨0, zeroD, (6, 0), []⟩, s)
 else (⟨0, zeroD, (5, 0), []⟩, s)
theorem leaf_unal {x m pt pk : Nat} {pv : Value} {Fm Ft Fk : Nat → Prop} {s : St} {w : World} (h : MmuD x m pt pk pv Fm Ft Fk s w) (va : Nat) (hv : va < 18446744073709551616) (fill led keep : Bool) (h8 : ¬ va % 8 = 0) :
  Calls Tryz.prog 60 #[.pointer (some ⟨x, 0, none⟩), .int .u64 va, .agg #[.bool fill, .bool led, .bool keep]] w (WalkPost x m pt pk pv Fm Ft Fk ⟨0, zeroD, (5, 0), []⟩ s w) := by
 have C1 : Hid (∀ u, Below w.heap.size w u → Calls Tryz.prog 55 #[.pointer (some ⟨x, 0, none⟩)] u (HeldPost s.reg u)) := fun u hb => held_nat (h.below hb)
 have C2 : Hid (∀ u, Calls Tryz.prog 73 #[.int .u64 va, .int .i64 3] u fun e w' => e = .returned (.bool (va % 2 ^ 3 == 0)) ∧ w' = u) := fun u => aligned_nat va 3 u hv (by omega)
 have HD := Lib.hid h
 have hx := h.bx
 rw [show (va % 2 ^ 3 == 0) = false by simp; omega] at C2
 generalize s.reg = r at *
 clear h h8
 go_enter Tryz.func60, Tryz.ntmps60
 go_upto_region 1 with fail
 have HBH' : Hid (Box (((w.alloc (.cells #[.bool fill, .bool led, .bool keep] 26)).alloc (.cells z8.toArray 62)).alloc (.cells z2.toArray 43)) w.heap.size [.bool fill, .bool led, .bool keep]) :=
  ((Box.new w [.bool fill, .bool led, .bool keep] 26).below (below1 _ _)).below (below1 _ _)
 have HB8' : Hid (Box (((w.alloc (.cells #[.bool fill, .bool led, .bool keep] 26)).alloc (.cells z8.toArray 62)).alloc (.cells z2.toArray 43)) (w.heap.size + 1) z8) := by
  have h := Box.new (w.alloc (.cells #[.bool fill, .bool led, .bool keep] 26)) z8 62
  rw [World.size_alloc] at h
  exact h.below (below1 _ _)
 have HB2' : Hid (Box (((w.alloc (.cells #[.bool fill, .bool led, .bool keep] 26)).alloc (.cells z8.toArray 62)).alloc (.cells z2.toArray 43)) (w.heap.size + 1 + 1) z2) := by
  have h := Box.new ((w.alloc (.cells #[.bool fill, .bool led, .bool keep] 26)).alloc (.cells z8.toArray 62)) z2 43
  rw [World.size_alloc, World.size_alloc] at h
  exact h
 generalize hW : World.alloc (World.alloc (World.alloc w _) _) _ = W
 have hW' : ((w.alloc (.cells #[.bool fill, .bool led, .bool keep] 26)).alloc (.cells z8.toArray 62)).alloc (.cells z2.toArray 43) = W := hW
 rw [hW'] at HBH' HB8' HB2'
 have HB0 : Hid (Below w.heap.size w W) := by rw [← hW']; exact ((below1 w _).alloc (by simp) _).alloc (by simp; omega) _
 have HBH := HBH'
 have HB8 := HB8'
 have HB2 := HB2'
 clear hW hW' HBH' HB8' HB2'
 go_upto_region 2 with (go_at_call 55; refine (C1.out _ HB0.out).mono ?_; rintro e w1 ⟨rfl, hb1⟩)
 have A8 := HB8.out.below hb1
 have D2 := HB2.out.below hb1
 have a0 := A8.at 0 _ rfl
 have a1 := A8.at 1 _ rfl
 have a2 := A8.at 2 _ rfl
 have a3 := A8.at 3 _ rfl
 have a4 := A8.at 4 _ rfl
 have a5 := A8.at 5 _ rfl
 have a6 := A8.at 6 _ rfl
 have a7 := A8.at 7 _ rfl
 have fa := A8.2.1
 have d0 := D2.at 0 _ rfl
 have d1 := D2.at 1 _ rfl
 have fd := D2.2.1
 have z1 := A8.2.2
 have z2 := D2.2.2
 have HB1 : Hid (Below w.heap.size w w1) := HB0.out.trans (hb1.mono HB0.out.size)
 clear A8 D2 hb1
 go_wp2_with (go_at_call 73; refine (C2.out _).mono ?_; rintro e w' ⟨rfl, rfl⟩)
 refine bodyPost_ret (v := .tuple #[leafV 0 zeroD, .agg #[.int .i64 5, .int .i64 0]]) (by simp [results, Tryz.results60, go_sem, leafV, zeroD, a0, a1, a2, a3, a4, a5, a6, a7, d0, d1, z1, z2]) rfl ⟨rfl, ?_⟩
 refine MmuPost.ofBelow HD.out ?_
 have HF : Kp (fun k => w.heap.size ≤ k) w w1 := .ofBelow HB1.out
 exact (((HF.set8 (.inl (by omega)) _ _ _ _ _ _ _ _).set2 (.inl (by omega)) _ _).alloc _).below' (fun _ h => h)
theorem leaf_none {x m pt pk : Nat} {pv : Value} {Fm Ft Fk : Nat → Prop} {s : St} {w : World} (h : MmuD x m pt pk pv Fm Ft Fk s w) (va : Nat) (hv : va < 18446744073709551616) (fill led keep : Bool) (h8 : va % 8 = 0) (hr : s.reg = none) :
  Calls Tryz.prog 60 #[.pointer (some ⟨x, 0, none⟩), .int .u64 va, .agg #[.bool fill, .bool led, .bool keep]] w (WalkPost x m pt pk pv Fm Ft Fk ⟨0, zeroD, (1, 0), []⟩ s w) := by
 have C1 : Hid (∀ u, Below w.heap.size w u → Calls Tryz.prog 55 #[.pointer (some ⟨x, 0, none⟩)] u (HeldPost s.reg u)) := fun u hb => held_nat (h.below hb)
 have C2 : Hid (∀ u, Calls Tryz.prog 73 #[.int .u64 va, .int .i64 3] u fun e w' => e = .returned (.bool (va % 2 ^ 3 == 0)) ∧ w' = u) := fun u => aligned_nat va 3 u hv (by omega)
 have HD := Lib.hid h
 have hx := h.bx
 rw [show (va % 2 ^ 3 == 0) = true by simp; omega] at C2
 rw [hr] at C1
 clear h h8 hr
 go_enter Tryz.func60, Tryz.ntmps60
 go_upto_region 1 with fail
 have HBH' : Hid (Box (((w.alloc (.cells #[.bool fill, .bool led, .bool keep] 26)).alloc (.cells z8.toArray 62)).alloc (.cells z2.toArray 43)) w.heap.size [.bool fill, .bool led, .bool keep]) :=
  ((Box.new w [.bool fill, .bool led, .bool keep] 26).below (below1 _ _)).below (below1 _ _)
 have HB8' : Hid (Box (((w.alloc (.cells #[.bool fill, .bool led, .bool keep] 26)).alloc (.cells z8.toArray 62)).alloc (.cells z2.toArray 43)) (w.heap.size + 1) z8) := by
  have h := Box.new (w.alloc (.cells #[.bool fill, .bool led, .bool keep] 26)) z8 62
  rw [World.size_alloc] at h
  exact h.below (below1 _ _)
 have HB2' : Hid (Box (((w.alloc (.cells #[.bool fill, .bool led, .bool keep] 26)).alloc (.cells z8.toArray 62)).alloc (.cells z2.toArray 43)) (w.heap.size + 1 + 1) z2) := by
  have h := Box.new ((w.alloc (.cells #[.bool fill, .bool led, .bool keep] 26)).alloc (.cells z8.toArray 62)) z2 43
  rw [World.size_alloc, World.size_alloc] at h
  exact h
 generalize hW : World.alloc (World.alloc (World.alloc w _) _) _ = W
 have hW' : ((w.alloc (.cells #[.bool fill, .bool led, .bool keep] 26)).alloc (.cells z8.toArray 62)).alloc (.cells z2.toArray 43) = W := hW
 rw [hW'] at HBH' HB8' HB2'
 have HB0 : Hid (Below w.heap.size w W) := by rw [← hW']; exact ((below1 w _).alloc (by simp) _).alloc (by simp; omega) _
 have HBH := HBH'
 have HB8 := HB8'
 have HB2 := HB2'
 clear hW hW' HBH' HB8' HB2'
 go_upto_region 2 with (go_at_call 55; refine (C1.out _ HB0.out).mono ?_; rintro e w1 ⟨rfl, hb1⟩)
 have A8 := HB8.out.below hb1
 have D2 := HB2.out.below hb1
 have a0 := A8.at 0 _ rfl
 have a1 := A8.at 1 _ rfl
 have a2 := A8.at 2 _ rfl
 have a3 := A8.at 3 _ rfl
 have a4 := A8.at 4 _ rfl
 have a5 := A8.at 5 _ rfl
 have a6 := A8.at 6 _ rfl
 have a7 := A8.at 7 _ rfl
 have fa := A8.2.1
 have d0 := D2.at 0 _ rfl
 have d1 := D2.at 1 _ rfl
 have fd := D2.2.1
 have z1 := A8.2.2
 have z2 := D2.2.2
 have HB1 : Hid (Below w.heap.size w w1) := HB0.out.trans (hb1.mono HB0.out.size)
 clear A8 D2 hb1
 go_wp2_with (go_at_call 73; refine (C2.out _).mono ?_; rintro e w' ⟨rfl, rfl⟩)
 refine bodyPost_ret (v := .tuple #[leafV 0 zeroD, .agg #[.int .i64 1, .int .i64 0]]) (by simp [results, Tryz.results60, go_sem, leafV, zeroD, a0, a1, a2, a3, a4, a5, a6, a7, d0, d1, z1, z2]) rfl ⟨rfl, ?_⟩
 refine MmuPost.ofBelow HD.out ?_
 have HF : Kp (fun k => w.heap.size ≤ k) w w1 := .ofBelow HB1.out
 exact (((HF.set8 (.inl (by omega)) _ _ _ _ _ _ _ _).set2 (.inl (by omega)) _ _).alloc _).below' (fun _ h => h)
set_option maxHeartbeats 2000000 in
theorem leaf_reg {x m pt pk : Nat} {pv : Value} {Fm Ft Fk : Nat → Prop} {s : St} {w : World} (h : MmuD x m pt pk pv Fm Ft Fk s w) (va : Nat) (hv : va < 18446744073709551616) (fill led keep : Bool) (h8 : va % 8 = 0) (r a : Nat) (hr : s.reg = some (r, a)) :
  Calls Tryz.prog 60 #[.pointer (some ⟨x, 0, none⟩), .int .u64 va, .agg #[.bool fill, .bool led, .bool keep]] w (WalkPost x m pt pk pv Fm Ft Fk (leafM s va fill led keep).1 (leafM s va fill led keep).2 w) := by
 unfold leafM
 rw [if_pos h8, hr]
 dsimp only
 have C1 : Hid (∀ u, Below w.heap.size w u → Calls Tryz.prog 55 #[.pointer (some ⟨x, 0, none⟩)] u (HeldPost s.reg u)) := fun u hb => held_nat (h.below hb)
 have C2 : Hid (∀ u, Calls Tryz.prog 73 #[.int .u64 va, .int .i64 3] u fun e w' => e = .returned (.bool (va % 2 ^ 3 == 0)) ∧ w' = u) := fun u => aligned_nat va 3 u hv (by omega)
 have HD := Lib.hid h
 have hx := h.bx
 rw [show (va % 2 ^ 3 == 0) = true by simp; omega] at C2
 rw [hr] at C1
 have hra := h.ok.rok r a hr
 have C3 : Hid (∀ u, Below w.heap.size w u → Calls Tryz.prog 64 #[.pointer (some ⟨pt, 0, none⟩), .int .i64 a, .int .u64 va] u (FindPost (findP s.es a va) u)) := fun u hb =>
  find_nat (h.tlb.below hb) (by have := h.ok.el; have := h.ok.m64; omega) (fun e he => (h.ok.eok e he).2.2.1) a va hv
 have C4 : Hid (∀ u, Below w.heap.size w u → Calls Tryz.prog 65 #[.pointer (some ⟨x, 0, none⟩), .agg #[.int .u64 r, .int .i64 a], .int .u64 va, .agg #[.bool fill, .bool led, .bool keep]] u (WalkPost x m pt pk pv Fm Ft Fk (walkM s r a va fill led keep).1 (walkM s r a va fill led keep).2 u)) := fun u hb =>
  mwalk_nat (h.below hb) r a va hra.2 hra.1 hv fill led keep
 have c1 := h.c1
 generalize findP s.es a va = E at *
 obtain ⟨⟨ea, ev, el, ⟨K, out, b1, b2, b3, b4, attr⟩⟩, n⟩ := E
 generalize walkM s r a va fill led keep = M at *
 obtain ⟨⟨Rl, ⟨RK, Rout, R1, R2, R3, R4, Rattr⟩, ⟨f1, f2⟩, Rst⟩, s'⟩ := M
 have C5 : Hid (∀ u, Below w.heap.size w u → Calls Tryz.prog 64 #[.pointer (some ⟨pt, 0, none⟩), .int .i64 a, .int .u64 va] u fun e u' => e = .returned (.tuple #[.agg #[.int .i64 ea, .int .u64 ev, .int .i64 el, .int .i64 K, .int .u64 out, .bool b1, .bool b2, .bool b3, .bool b4, .int .i64 attr], .int .i64 n]) ∧ Below u.heap.size u u') := C3.out
 clear C3
 obtain ⟨T, hT⟩ : ∃ T : Lf × St, (if n = 0 then ((⟨Rl, ⟨RK, Rout, R1, R2, R3, R4, Rattr⟩, (f1, f2), Rst⟩ : Lf), s') else if n = 1 then ((⟨el, ⟨K, out, b1, b2, b3, b4, attr⟩, (0, 0), []⟩ : Lf), s) else ((⟨0, zeroD, (6, 0), []⟩ : Lf), s)) = T := ⟨_, rfl⟩
 dsimp only at C4 ⊢
 rw [hT]
 have HT := Lib.hid hT
 clear h h8 hr hra hT
 go_enter Tryz.func60, Tryz.ntmps60
 go_upto_region 1 with fail
 have HBH' : Hid (Box (((w.alloc (.cells #[.bool fill, .bool led, .bool keep] 26)).alloc (.cells z8.toArray 62)).alloc (.cells z2.toArray 43)) w.heap.size [.bool fill, .bool led, .bool keep]) :=
  ((Box.new w [.bool fill, .bool led, .bool keep] 26).below (below1 _ _)).below (below1 _ _)
 have HB8' : Hid (Box (((w.alloc (.cells #[.bool fill, .bool led, .bool keep] 26)).alloc (.cells z8.toArray 62)).alloc (.cells z2.toArray 43)) (w.heap.size + 1) z8) := by
  have h := Box.new (w.alloc (.cells #[.bool fill, .bool led, .bool keep] 26)) z8 62
  rw [World.size_alloc] at h
  exact h.below (below1 _ _)
 have HB2' : Hid (Box (((w.alloc (.cells #[.bool fill, .bool led, .bool keep] 26)).alloc (.cells z8.toArray 62)).alloc (.cells z2.toArray 43)) (w.heap.size + 1 + 1) z2) := by
  have h := Box.new ((w.alloc (.cells #[.bool fill, .bool led, .bool keep] 26)).alloc (.cells z8.toArray 62)) z2 43
  rw [World.size_alloc, World.size_alloc] at h
  exact h
 generalize hW : World.alloc (World.alloc (World.alloc w _) _) _ = W
 have hW' : ((w.alloc (.cells #[.bool fill, .bool led, .bool keep] 26)).alloc (.cells z8.toArray 62)).alloc (.cells z2.toArray 43) = W := hW
 rw [hW'] at HBH' HB8' HB2'
 have HB0 : Hid (Below w.heap.size w W) := by rw [← hW']; exact ((below1 w _).alloc (by simp) _).alloc (by simp; omega) _
 have HBH := HBH'
 have HB8 := HB8'
 have HB2 := HB2'
 clear hW hW' HBH' HB8' HB2'
 go_upto_region 2 with (go_at_call 55; refine (C1.out _ HB0.out).mono ?_; rintro e w1 ⟨rfl, hb1⟩)
 try dsimp only [Option.getD, Option.isSome]
 have HB1 : Hid (Below w.heap.size w w1) := HB0.out.trans (hb1.mono HB0.out.size)
 have HR0 : Hid (Box (w1.alloc (.cells #[.int .u64 r, .int .i64 a] 92)) w1.heap.size [.int .u64 r, .int .i64 a]) := Box.new w1 [.int .u64 r, .int .i64 a] 92
 have HX0 : Hid (Below w1.heap.size w1 (w1.alloc (.cells #[.int .u64 r, .int .i64 a] 92))) := below1 _ _
 generalize hX : World.alloc w1 _ = X at *
 have HWX : Hid (Below W.heap.size W X) := hb1.trans (HX0.out.mono hb1.size)
 have HBX : Hid (Below w.heap.size w X) := HB0.out.trans (HWX.out.mono HB0.out.size)
 have HZ1 : Hid (w.heap.size ≤ w1.heap.size) := HB1.out.size
 clear hX hb1 HX0
 have HHX := Lib.hid (HBH.out.below HWX.out)
 have H8X := Lib.hid (HB8.out.below HWX.out)
 have H2X := Lib.hid (HB2.out.below HWX.out)
 have x1 := keep_cell HBX.out c1
 have q1 := HR0.out.at 1 _ rfl
 have q0 := HR0.out.at 0 _ rfl
 go_upto_region 6 with (go_at_call 73; refine (C2.out _).mono ?_; rintro e X ⟨rfl, rfl⟩)
 go_cut [10, 11] (fun s10 s11 wx => ∃ g : Nat, s10 = .pointer (some ⟨g, 0, none⟩) ∧ s11 = .int .i64 n ∧ Hid (Below X.heap.size X wx) ∧ Hid (Box wx g [.int .i64 ea, .int .u64 ev, .int .i64 el, .int .i64 K, .int .u64 out, .bool b1, .bool b2, .bool b3, .bool b4, .int .i64 attr]))
 case first =>
  have hzr : w1.heap.size < X.heap.size := HR0.out.2.2
  have hzx : x < X.heap.size := by have := HBX.out.size; omega
  go_region_with (first | (go_at_call 64; refine (C5.out _ (by first | exact (HBX.out.alloc HBX.out.size _).drew | exact HBX.out.drew)).mono ?_; rintro e w5 ⟨rfl, hb5⟩; have HX5 : Hid (Below X.heap.size X w5) := (by first | exact ((below1 X _).drew).trans (hb5.mono ((below1 X _).drew).size) | exact ((Below.refl X.heap.size X).drew).trans (hb5.mono (Below.refl X.heap.size X).drew.size)); (try (have HZ5 : Hid (Box w5 X.heap.size [.int .i64 0, .int .u64 0, .int .i64 0, .int .i64 0, .int .u64 0, .bool false, .bool false, .bool false, .bool false, .int .i64 0]) := (Box.new X [.int .i64 0, .int .u64 0, .int .i64 0, .int .i64 0, .int .u64 0, .bool false, .bool false, .bool false, .bool false, .int .i64 0] 119).below (((Below.refl (X.alloc (.cells #[.int .i64 0, .int .u64 0, .int .i64 0, .int .i64 0, .int .u64 0, .bool false, .bool false, .bool false, .bool false, .int .i64 0] 119)).heap.size (X.alloc (.cells #[.int .i64 0, .int .u64 0, .int .i64 0, .int .i64 0, .int .u64 0, .bool false, .bool false, .bool false, .bool false, .int .i64 0] 119))).drew).trans hb5); have t0 := HZ5.out.at 0 _ rfl; have t1 := HZ5.out.at 1 _ rfl; have t2 := HZ5.out.at 2 _ rfl; have t3 := HZ5.out.at 3 _ rfl; have t4 := HZ5.out.at 4 _ rfl; have t5 := HZ5.out.at 5 _ rfl; have t6 := HZ5.out.at 6 _ rfl; have t7 := HZ5.out.at 7 _ rfl; have t8 := HZ5.out.at 8 _ rfl; have t9 := HZ5.out.at 9 _ rfl; have tf := HZ5.out.2.1; have tz := HZ5.out.2.2)); clear hb5))
  all_goals
   go_wp2_with fail
   go_meet
   refine ⟨_, rfl, rfl, ?_, ?_⟩
   ·first | (rw [set10_eq]; exact below_setCells HX5.out (Nat.le_refl _) 0 _) | exact HX5.out.alloc HX5.out.size _
   ·first | (rw [set10_eq]; exact HZ5.out.put rfl) | exact Box.new w5 [.int .i64 ea, .int .u64 ev, .int .i64 el, .int .i64 K, .int .u64 out, .bool b1, .bool b2, .bool b3, .bool b4, .int .i64 attr] _
 case rest =>
  obtain ⟨g, rfl, rfl, HXC, HE⟩ := hcut
  have A8 := H8X.out.below HXC.out
  have D2 := H2X.out.below HXC.out
  have HHC := HHX.out.below HXC.out
  have RRC := HR0.out.below HXC.out
  have a0 := A8.at 0 _ rfl
  have a1 := A8.at 1 _ rfl
  have a2 := A8.at 2 _ rfl
  have a3 := A8.at 3 _ rfl
  have a4 := A8.at 4 _ rfl
  have a5 := A8.at 5 _ rfl
  have a6 := A8.at 6 _ rfl
  have a7 := A8.at 7 _ rfl
  have fa := A8.2.1
  have d0 := D2.at 0 _ rfl
  have d1 := D2.at 1 _ rfl
  have fd := D2.2.1
  have z1 := A8.2.2
  have z2 := D2.2.2
  have y0 := RRC.at 0 _ rfl
  have y1 := RRC.at 1 _ rfl
  have h0 := HHC.at 0 _ rfl
  have h1 := HHC.at 1 _ rfl
  have h2 := HHC.at 2 _ rfl
  have hz := HHC.2.2
  have hy := RRC.2.2
  have e2 := HE.out.at 2 _ rfl
  have e3 := HE.out.at 3 _ rfl
  have e4 := HE.out.at 4 _ rfl
  have e5 := HE.out.at 5 _ rfl
  have e6 := HE.out.at 6 _ rfl
  have e7 := HE.out.at 7 _ rfl
  have e8 := HE.out.at 8 _ rfl
  have e9 := HE.out.at 9 _ rfl
  have ez := HE.out.2.2
  have HBC : Hid (Below w.heap.size w wc) := HBX.out.trans (HXC.out.mono HBX.out.size)
  have HA8 := Lib.hid A8
  have HD2 := Lib.hid D2
  clear A8 D2 HHC RRC x1 q1 q0
  by_cases n0 : n = 0
  ·subst n0
   have HT2 : Hid (((⟨Rl, ⟨RK, Rout, R1, R2, R3, R4, Rattr⟩, (f1, f2), Rst⟩ : Lf), s') = T) := by have := HT.out; rwa [if_pos rfl] at this
   clear HT
   go_wp2_with fail
   refine (C4.out _ HBC.out).mono ?_
   rintro e w6 ⟨rfl, hp⟩
   have HP := Lib.hid hp
   have A8 := MmuPost.box (w0 := w) HP.out (HD.out.below HBC.out) HA8.out (fun y => by have := HD.out.bF _ y; omega)
   have D2 := MmuPost.box (w0 := w) HP.out (HD.out.below HBC.out) HD2.out (fun y => by have := HD.out.bF _ y; omega)
   clear a0 a1 a2 a3 a4 a5 a6 a7 fa d0 d1 fd z1 z2 hp
   have a0 := A8.at 0 _ rfl
   have a1 := A8.at 1 _ rfl
   have a2 := A8.at 2 _ rfl
   have a3 := A8.at 3 _ rfl
   have a4 := A8.at 4 _ rfl
   have a5 := A8.at 5 _ rfl
   have a6 := A8.at 6 _ rfl
   have a7 := A8.at 7 _ rfl
   have fa := A8.2.1
   have d0 := D2.at 0 _ rfl
   have d1 := D2.at 1 _ rfl
   have fd := D2.2.1
   have z1 := A8.2.2
   have z2 := D2.2.2
   clear A8 D2
   dsimp only [leafV, fV]
   go_wp2
   refine bodyPost_ret (v := .tuple #[leafV Rl ⟨RK, Rout, R1, R2, R3, R4, Rattr⟩, fV (f1, f2)]) (by simp [results, Tryz.results60, go_sem, leafV, fV, zeroD, a0, a1, a2, a3, a4, a5, a6, a7, d0, d1, z1, z2]) rfl ?_
   rw [← HT2.out]
   refine ⟨rfl, ?_⟩
   refine MmuPost.fin HD.out HBC.out HP.out ?_
   exact (((Kp.refl (G2 w wc) _).set8 (.inl ⟨by omega, HA8.out.2.2⟩) _ _ _ _ _ _ _ _).set2 (.inl ⟨by omega, HD2.out.2.2⟩) _ _)
  ·have hn0 : ((n : Int) == 0) = false := by simp; omega
   by_cases n1 : n = 1
   ·subst n1
    have HT2 : Hid (((⟨el, ⟨K, out, b1, b2, b3, b4, attr⟩, (0, 0), []⟩ : Lf), s) = T) := by have := HT.out; rwa [if_neg (by omega), if_pos rfl] at this
    clear HT
    go_wp2
    refine bodyPost_ret (v := .tuple #[leafV el ⟨K, out, b1, b2, b3, b4, attr⟩, fV (0, 0)]) (by simp [results, Tryz.results60, go_sem, leafV, fV, zeroD, a0, a1, a2, a3, a4, a5, a6, a7, d0, d1, z1, z2]) rfl ?_
    rw [← HT2.out]
    refine ⟨rfl, ?_⟩
    refine MmuPost.ofBelow HD.out ?_
    have HF : Kp (fun k => w.heap.size ≤ k) w wc := .ofBelow HBC.out
    exact ((HF.set8 (.inl (by omega)) _ _ _ _ _ _ _ _).set2 (.inl (by omega)) _ _).below' (fun _ h => h)
   ·have hn1 : ((n : Int) == 1) = false := by simp; omega
    have HT2 : Hid (((⟨0, zeroD, (6, 0), []⟩ : Lf), s) = T) := by have := HT.out; rwa [if_neg n0, if_neg n1] at this
    clear HT
    have HN0 := Lib.hid n0
    have HN1 := Lib.hid n1
    clear n0 n1
    go_wp2
    refine bodyPost_ret (v := .tuple #[leafV 0 zeroD, fV (6, 0)]) (by simp [results, Tryz.results60, go_sem, leafV, fV, zeroD, a0, a1, a2, a3, a4, a5, a6, a7, d0, d1, z1, z2]) rfl ?_
    rw [← HT2.out]
    refine ⟨rfl, ?_⟩
    refine MmuPost.ofBelow HD.out ?_
    have HF : Kp (fun k => w.heap.size ≤ k) w wc := .ofBelow HBC.out
    exact ((HF.set8 (.inl (by omega)) _ _ _ _ _ _ _ _).set2 (.inl (by omega)) _ _).below' (fun _ h => h)
theorem mleaf_nat {x m pt pk : Nat} {pv : Value} {Fm Ft Fk : Nat → Prop} {s : St} {w : World} (h : MmuD x m pt pk pv Fm Ft Fk s w) (va : Nat) (hv : va < 18446744073709551616) (fill led keep : Bool) :
  Calls Tryz.prog 60 #[.pointer (some ⟨x, 0, none⟩), .int .u64 va, .agg #[.bool fill, .bool led, .bool keep]] w (WalkPost x m pt pk pv Fm Ft Fk (leafM s va fill led keep).1 (leafM s va fill led keep).2 w) := by
 by_cases h8 : va % 8 = 0
 ·cases hr : s.reg with
  | none =>
   have e : leafM s va fill led keep = (⟨0, zeroD, (1, 0), []⟩, s) := by unfold leafM; rw [if_pos h8, hr]
   rw [e]
   exact leaf_none h va hv fill led keep h8 hr
  | some p => exact leaf_reg h va hv fill led keep h8 p.1 p.2 hr
 ·have e : leafM s va fill led keep = (⟨0, zeroD, (5, 0), []⟩, s) := by unfold leafM; rw [if_neg h8]
  rw [e]
  exact leaf_unal h va hv fill led keep h8
end Go.Proofs.YtbapgngngaaojaaGreat
