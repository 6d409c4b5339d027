/- The walk of (*Mmu).walk. -/
import Derived.Test.YtbapgngngaaojaaGreatG18
import Derived.Deep.DeepCutAuto
import Derived.StillTailTactics
set_option linter.unusedSimpArgs false
set_option linter.unusedVariables false
namespace Go.Proofs.YtbapgngngaaojaaGreat
open Go.RowKit Go.Lib
set_option maxRecDepth 100000
theorem eqA_Fault (d : Nat) (w : World) (x0 y0 : Int) (x1 y1 : Int) :
  (Op.equalIn (d + 2) 43 (.agg #[.int .i64 x0, .int .i64 x1]) (.agg #[.int .i64 y0, .int .i64 y1])).run Tryz.prog w = .ok (x0 == y0 && (x1 == y1)) w := by
 refine eqA_of Tryz.underlying43 (by kernel_rfl) ?_
 refine eqf_cons (by rfl) (by go_simp; rfl) (by go_simp; rfl) (by go_simp) ?_
 exact eqf_last (by rfl) (by go_simp; rfl) (by go_simp; rfl) (by go_simp)
attribute [local go_sem high] eqA_Fault
def WalkPost (x m pt pk : Nat) (pv : Value) (Fm Ft Fk : Nat → Prop) (R : Lf) (s' : St) (w : World) (e : Ending) (w' : World) : Prop :=
 e = .returned (.tuple #[leafV R.level R.d, fV R.f]) ∧ MmuPost x m pt pk pv Fm Ft Fk s' w w'
theorem MmuPost.join {x m pt pk : Nat} {pv : Value} {Fm Ft Fk Fm' Ft' Fk' : Nat → Prop} {s2 : St} {u w v : World} (h1 : Kp (MmuF x pt pk Fm Ft Fk) u w) (h2 : ∀ k, MmuF x pt pk Fm' Ft' Fk' k → MmuF x pt pk Fm Ft Fk k ∨ u.heap.size ≤ k) (h : MmuPost x m pt pk pv Fm' Ft' Fk' s2 w v) : MmuPost x m pt pk pv Fm Ft Fk s2 u v := by
 obtain ⟨Fm2, Ft2, Fk2, g1, g2, g3⟩ := h
 refine ⟨Fm2, Ft2, Fk2, g1, h1.trans g2 h2, fun k y => ?_⟩
 rcases g3 k y with y | y
 ·exact h2 k y
 ·exact .inr (Nat.le_trans h1.size y)
set_option maxHeartbeats 6000000 in
theorem mwalk_nat {x m pt pk : Nat} {pv : Value} {Fm Ft Fk : Nat → Prop} {s : St} {w : World} (h : MmuD x m pt pk pv Fm Ft Fk s w) (root asid va : Nat) (ha : asid < 256) (hr : Tb root) (hv : va < 18446744073709551616) (fill led keep : Bool) :
  Calls Tryz.prog 65 #[.pointer (some ⟨x, 0, none⟩), .agg #[.int .u64 root, .int .i64 asid], .int .u64 va, .agg #[.bool fill, .bool led, .bool keep]] w (WalkPost x m pt pk pv Fm Ft Fk (walkM s root asid va fill led keep).1 (walkM s root asid va fill led keep).2 w) := by
 unfold walkM
 have C1 : Hid (∀ u, Below w.heap.size w u → Calls Tryz.prog 108 #[.pointer (some ⟨x, 0, none⟩), .agg #[.int .u64 root, .int .i64 asid], .int .u64 va, .agg #[.bool fill, .bool led, .bool keep]] u fun e w' => e = .returned (.tuple #[.int .i64 (beginP s root asid va led).1, .int .u64 (beginP s root asid va led).2]) ∧ Below u.heap.size u w') := fun u hb =>
  begin_nat (h.below hb) root asid va hv fill led keep
 have hbo := beginP_ok h.ok hr asid va led
 generalize beginP s root asid va led = B at *
 obtain ⟨bl, bt⟩ := B
 dsimp only at C1 hbo ⊢
 have hsz : s.sz < 9223372036854775808 := by have := h.ok.szle; omega
 have hRok := fromP_ok s.sz s.rd bl bt va
 have C2 : Hid (∀ u, Below w.heap.size w u → Calls Tryz.prog 59 #[.pointer (some ⟨m, 0, none⟩), .int .i64 bl, .int .u64 bt, .int .u64 va] u fun e w' =>
   e = .returned (.tuple #[leafV (fromP s.sz s.rd bl bt va).level (fromP s.sz s.rd bl bt va).d, fV (fromP s.sz s.rd bl bt va).f]) ∧ Below u.heap.size u w') := fun u hb =>
  from_nat (h.mem.below hb) (fun k hk => Nat.lt_of_lt_of_le (h.bm k hk) hb.size) hsz bl bt va hbo.1 hbo.2
 have C3 : Hid (∀ u, Below w.heap.size w u → Calls Tryz.prog 101 #[.pointer (some ⟨m, 0, none⟩), .int .i64 bl, .int .u64 bt, .int .u64 va] u (TracePost (fromP s.sz s.rd bl bt va).steps u)) := fun u hb =>
  trace_nat (h.mem.below hb) (fun k hk => Nat.lt_of_lt_of_le (h.bm k hk) hb.size) hsz bl bt va hbo.1 hbo.2
 generalize fromP s.sz s.rd bl bt va = R at *
 obtain ⟨Rl, ⟨K, out, b1, b2, b3, b4, attr⟩, ⟨f1, f2⟩, st⟩ := R
 obtain ⟨⟨hst, hR1, hR2⟩, hst4, -⟩ := hRok
 dsimp only at C2 C3 hst hR1 hR2 hst4
 have hwk := walkedP_ok (most := s.most) (va := va) ha st s.ks bl h.ok.kok h.ok.kl
 have C4 : Hid (∀ u, Below w.heap.size w u → ∀ A c, RowAt u (fun k => w.heap.size ≤ k) 2 (.slice A st.length c) st.length (stepCells st) → Calls Tryz.prog 109 #[.pointer (some ⟨pk, 0, none⟩), .int .i64 asid, .int .u64 va, .int .i64 bl, .slice A st.length c] u fun e u' => (∃ k : Nat, e = .returned (.int .i64 k)) ∧ MmuPost x m pt pk pv Fm Ft Fk (keepP s true (walkedP s.most asid va s.ks bl st)) u u' ∧ Kp (WkF Fk pk) u u') := fun u hb A c hrow => by
  have hd := h.below hb
  refine (walked_nat hd.trail h.ok.m1 h.ok.m64 h.ok.kl asid va bl ha hv hbo.1 st _ (by omega) (fun y hy => by rw [hst y hy]; exact h.mem.word _) hrow (fun k hk hx => ?_)).mono ?_
  ·have := h.bk k hx; omega
  ·rintro e u' hp
   have h2 := hd.walked (Below.refl _ _) hwk.2 hwk.1 hp
   exact ⟨hp.1, by unfold keepP; rw [if_pos rfl]; exact h2.1, h2.2⟩
 have c0 := h.c0
 have c1 := h.c1
 have c2 := h.c2
 have hx := h.bx
 have HD := Lib.hid h
 have HBL := Lib.hid hbo
 have HW := Lib.hid hwk
 have HST := Lib.hid hst
 have HR1 := Lib.hid hR1
 have HST4 := Lib.hid hst4
 have HA := Lib.hid ha
 have HT := Lib.hid hr
 clear h hbo hwk hst hR1 hR2 hsz hst4 ha hr
 go_enter Tryz.func65, Tryz.ntmps65
 go_upto_region 1 with fail
 have HBR' : Hid (Box ((((w.alloc (.cells #[.int .u64 root, .int .i64 asid] 92)).alloc (.cells #[.bool fill, .bool led, .bool keep] 26)).alloc (.cells z8.toArray 62)).alloc (.cells z2.toArray 43)) w.heap.size [.int .u64 root, .int .i64 asid]) :=
  (((Box.new w [.int .u64 root, .int .i64 asid] 92).below (below1 _ _)).below (below1 _ _)).below (below1 _ _)
 have HBH' : Hid (Box ((((w.alloc (.cells #[.int .u64 root, .int .i64 asid] 92)).alloc (.cells #[.bool fill, .bool led, .bool keep] 26)).alloc (.cells z8.toArray 62)).alloc (.cells z2.toArray 43)) (w.heap.size + 1) [.bool fill, .bool led, .bool keep]) := by
  have h := Box.new (w.alloc (.cells #[.int .u64 root, .int .i64 asid] 92)) [.bool fill, .bool led, .bool keep] 26
  rw [World.size_alloc] at h
  exact (h.below (below1 _ _)).below (below1 _ _)
 have HB8' : Hid (Box ((((w.alloc (.cells #[.int .u64 root, .int .i64 asid] 92)).alloc (.cells #[.bool fill, .bool led, .bool keep] 26)).alloc (.cells z8.toArray 62)).alloc (.cells z2.toArray 43)) (w.heap.size + 2) z8) := by
  have h := Box.new ((w.alloc (.cells #[.int .u64 root, .int .i64 asid] 92)).alloc (.cells #[.bool fill, .bool led, .bool keep] 26)) z8 62
  rw [World.size_alloc, World.size_alloc] at h
  exact h.below (below1 _ _)
 have HB2' : Hid (Box ((((w.alloc (.cells #[.int .u64 root, .int .i64 asid] 92)).alloc (.cells #[.bool fill, .bool led, .bool keep] 26)).alloc (.cells z8.toArray 62)).alloc (.cells z2.toArray 43)) (w.heap.size + 3) z2) := by
  have h := Box.new (((w.alloc (.cells #[.int .u64 root, .int .i64 asid] 92)).alloc (.cells #[.bool fill, .bool led, .bool keep] 26)).alloc (.cells z8.toArray 62)) z2 43
  rw [World.size_alloc, World.size_alloc, World.size_alloc] at h
  exact h
 generalize hW : World.alloc (World.alloc (World.alloc (World.alloc w _) _) _) _ = W
 have hW' : (((w.alloc (.cells #[.int .u64 root, .int .i64 asid] 92)).alloc (.cells #[.bool fill, .bool led, .bool keep] 26)).alloc (.cells z8.toArray 62)).alloc (.cells z2.toArray 43) = W := hW
 rw [hW'] at HBR' HBH' HB8' HB2'
 have HB0 : Hid (Below w.heap.size w W) := by rw [← hW']; exact (((below1 w _).alloc (by simp) _).alloc (by simp; omega) _).alloc (by simp; omega) _
 have HBR := HBR'
 have HBH := HBH'
 have HB8 := HB8'
 have HB2 := HB2'
 clear hW hW' HBR' HBH' HB8' HB2'
 have r0 := HBR.out.at 0 _ rfl
 have r1 := HBR.out.at 1 _ rfl
 have h0 := HBH.out.at 0 _ rfl
 have h1 := HBH.out.at 1 _ rfl
 have h2 := HBH.out.at 2 _ rfl
 go_upto_region 2 with (go_at_call 108; refine (C1.out _ HB0.out).mono ?_; rintro e w1 ⟨rfl, hb1⟩)
 have HB1 : Hid (Below w.heap.size w w1) := HB0.out.trans (hb1.mono HB0.out.size)
 have HBW1 := Lib.hid hb1
 clear r0 r1 h0 h1 h2 hb1
 have m0 := keep_cell HB1.out c0
 dsimp only [leafV, fV] at C2
 generalize hF1 : (f1 : Int) = F1 at *
 have HF1 := Lib.hid hF1
 clear hF1
 go_upto_if 34 with (go_at_call 59; refine (C2.out _ HB1.out).mono ?_; rintro e w2 ⟨rfl, hb2⟩; have HB3 : Hid (Below w.heap.size w w2) := HB1.out.trans (hb2.mono HB1.out.size); have HBW2 : Hid (Below W.heap.size W w2) := HBW1.out.trans (hb2.mono HBW1.out.size); have h2 := ((HBH.out.below HBW2.out).below ((below1 w2 (.cells #[.int .i64 Rl, .int .i64 K, .int .u64 out, .bool b1, .bool b2, .bool b3, .bool b4, .int .i64 attr] 62)).alloc (by simp) (.cells #[.int .i64 F1, .int .i64 f2] 43))).at 2 _ rfl; have hlt := (HBH.out.below HBW2.out).2.2)
 have HL : Hid (Box ((w2.alloc (.cells #[.int .i64 Rl, .int .i64 K, .int .u64 out, .bool b1, .bool b2, .bool b3, .bool b4, .int .i64 attr] 62)).alloc (.cells #[.int .i64 F1, .int .i64 f2] 43)) w2.heap.size [.int .i64 Rl, .int .i64 K, .int .u64 out, .bool b1, .bool b2, .bool b3, .bool b4, .int .i64 attr]) :=
  (Box.new w2 [.int .i64 Rl, .int .i64 K, .int .u64 out, .bool b1, .bool b2, .bool b3, .bool b4, .int .i64 attr] 62).below (below1 _ _)
 have HF : Hid (Box ((w2.alloc (.cells #[.int .i64 Rl, .int .i64 K, .int .u64 out, .bool b1, .bool b2, .bool b3, .bool b4, .int .i64 attr] 62)).alloc (.cells #[.int .i64 F1, .int .i64 f2] 43)) (w2.heap.size + 1) [.int .i64 F1, .int .i64 f2]) := by
  have h := Box.new (w2.alloc (.cells #[.int .i64 Rl, .int .i64 K, .int .u64 out, .bool b1, .bool b2, .bool b3, .bool b4, .int .i64 attr] 62)) [.int .i64 F1, .int .i64 f2] 43
  rw [World.size_alloc] at h
  exact h
 have HBX0 : Hid (Below w2.heap.size w2 ((w2.alloc (.cells #[.int .i64 Rl, .int .i64 K, .int .u64 out, .bool b1, .bool b2, .bool b3, .bool b4, .int .i64 attr] 62)).alloc (.cells #[.int .i64 F1, .int .i64 f2] 43))) := (below1 w2 _).alloc (by simp) _
 generalize hX : World.alloc (World.alloc w2 _) _ = X at *
 have HBX : Hid (Below w.heap.size w X) := HB3.out.trans (HBX0.out.mono HB3.out.size)
 have HWX : Hid (Below W.heap.size W X) := HBW2.out.trans (HBX0.out.mono HBW2.out.size)
 have HZ2 : Hid (w.heap.size ≤ w2.heap.size) := HB3.out.size
 clear hX h2 hb2 HBX0
 have HRX := Lib.hid (HBR.out.below HWX.out)
 have HHX := Lib.hid (HBH.out.below HWX.out)
 have H8X := Lib.hid (HB8.out.below HWX.out)
 have H2X := Lib.hid (HB2.out.below HWX.out)
 have x0 := keep_cell HBX.out c0
 have x2 := keep_cell HBX.out c2
 have r1 := HRX.out.at 1 _ rfl
 go_cut [] (fun wx => ∃ u, Hid (Below w.heap.size w u) ∧ Hid (X.heap.size ≤ u.heap.size) ∧ Hid (MmuPost x m pt pk pv Fm Ft Fk (keepP s keep (walkedP s.most asid va s.ks bl st)) u wx) ∧ Hid (Kp (WkF Fk pk) X wx))
 case first =>
  cases keep with
  | true =>
   go_wp2_with fail
   go_region_with (first | (go_at_call 101; refine (C3.out _ HBX.out.drew).mono ?_; rintro e w5 ⟨A, c, rfl, hrow, hb5⟩; have HB5 : Hid (Below w.heap.size w w5) := HBX.out.drew.trans (hb5.mono HBX.out.drew.size); have HBX5 : Hid (Below X.heap.size X w5) := ((Below.refl X.heap.size X).drew).trans hb5; have y2 := keep_cell hb5 x2; have y1 := keep_cell hb5 r1; have HROW : Hid (RowAt w5 (fun k => w.heap.size ≤ k) 2 (.slice A st.length c) st.length (stepCells st)) := hrow.mono (fun k _ y => Nat.le_trans HBX.out.size y); clear hrow hb5) | (go_at_call 109; refine (C4.out _ HB5.out A c HROW.out).mono ?_; rintro e w6 ⟨⟨k, rfl⟩, hp, hk⟩; have HP6 := Lib.hid hp; have HK6 := Lib.hid hk; clear hp hk))
   all_goals
    go_wp2_with fail
    go_meet
    exact ⟨w5, HB5, HBX5.out.size, HP6, (Kp.ofBelow HBX5.out).trans HK6.out (fun i y => .inl y)⟩
  | false =>
   go_wp2_with fail
   go_meet
   exact ⟨X, HBX, Nat.le_refl _, by unfold keepP; exact MmuPost.refl (HD.out.below HBX.out), Kp.refl _ _⟩
 case rest =>
  obtain ⟨u, HU, HUX, HP, HKX⟩ := hcut
  have hn : ∀ g, w.heap.size ≤ g → ¬ WkF Fk pk g := fun g hg y => by have := HD.out.bk g y; omega
  have RR := HRX.out.kept HKX.out (hn _ (Nat.le_refl _))
  have HH := HHX.out.kept HKX.out (hn _ (by omega))
  have A8 : Box wc (w.heap.size + 1 + 1) z8 := H8X.out.kept HKX.out (hn _ (by omega))
  have D2 : Box wc (w.heap.size + 1 + 1 + 1) z2 := H2X.out.kept HKX.out (hn _ (by omega))
  have LL := HL.out.kept HKX.out (hn _ HZ2.out)
  have FF := HF.out.kept HKX.out (hn _ (by have := HZ2.out; omega))
  have HA8 := Lib.hid A8
  have HD2 := Lib.hid D2
  have HLL := Lib.hid LL
  have HFF := Lib.hid FF
  have q1 := RR.at 1 _ rfl
  have q0 := HH.at 0 _ rfl
  have ga : G2 w u (w.heap.size + 1 + 1) := ⟨by omega, Nat.lt_of_lt_of_le (H8X.out.2.2) HUX.out⟩
  have gb : G2 w u (w.heap.size + 1 + 1 + 1) := ⟨by omega, Nat.lt_of_lt_of_le (H2X.out.2.2) HUX.out⟩
  have a0 := A8.at 0 _ rfl
  have a1 := A8.at 1 _ rfl
  have a2 := A8.at 2 _ rfl
  have a3 := A8.at 3 _ rfl
  have a4 := A8.at 4 _ rfl
  have a5 := A8.at 5 _ rfl
  have a6 := A8.at 6 _ rfl
  have a7 := A8.at 7 _ rfl
  have fa := A8.2.1
  have d0 := D2.at 0 _ rfl
  have d1 := D2.at 1 _ rfl
  have fd := D2.2.1
  have l0 := LL.at 0 _ rfl
  have l1 := LL.at 1 _ rfl
  have l2 := LL.at 2 _ rfl
  have l3 := LL.at 3 _ rfl
  have l4 := LL.at 4 _ rfl
  have l5 := LL.at 5 _ rfl
  have l6 := LL.at 6 _ rfl
  have l7 := LL.at 7 _ rfl
  have k0 := FF.at 0 _ rfl
  have k1 := FF.at 1 _ rfl
  have z1 := A8.2.2
  have z2 := D2.2.2
  clear A8 D2 LL FF RR HH hn x0 x2 r1
  have HP0 := HP.out
  obtain ⟨Fm', Ft', Fk', hd, hkp, hfp⟩ := HP0
  have x1 := hd.c1
  have HDD := Lib.hid hd
  have HKP := Lib.hid hkp
  have HFP := Lib.hid hfp
  clear hd hkp hfp
  generalize hs1 : keepP s keep (walkedP s.most asid va s.ks bl st) = s1 at *
  clear hs1
  cases fill with
  | false =>
   have HPF : Hid (MmuPost x m pt pk pv Fm Ft Fk (useP s1 asid va false ⟨Rl, ⟨K, out, b1, b2, b3, b4, attr⟩, (f1, f2), st⟩) u wc) := by unfold useP; rw [if_neg (by simp)]; exact HP
   go_wp2
   go_region
   go_wp2
   refine bodyPost_ret (v := .tuple #[leafV Rl ⟨K, out, b1, b2, b3, b4, attr⟩, .agg #[.int .i64 F1, .int .i64 f2]]) (by simp [results, Tryz.results65, go_sem, leafV, a0, a1, a2, a3, a4, a5, a6, a7, d0, d1, l0, l1, l2, l3, l4, l5, l6, l7, k0, k1, z1, z2]) rfl ⟨by rw [← HF1.out]; rfl, MmuPost.fin HD.out HU.out HPF.out ?_⟩
   exact ((((Kp.refl (G2 w u) _).set8 (.inl ga) _ _ _ _ _ _ _ _).set2 (.inl gb) _ _).drew)
  | true =>
   generalize hq : (F1 == 0 && ((f2 : Int) == 0)) = q at *
   have HQ := Lib.hid hq
   clear hq
   cases q with
   | false =>
    have HPF : Hid (MmuPost x m pt pk pv Fm Ft Fk (useP s1 asid va true ⟨Rl, ⟨K, out, b1, b2, b3, b4, attr⟩, (f1, f2), st⟩) u wc) := by
     unfold useP
     rw [if_neg (by rintro ⟨-, h, -⟩; injection h with h1 h2; subst h1 h2; have := HQ.out; rw [← HF1.out] at this; simp at this)]
     exact HP
    have hq : (F1 == 0 && ((f2 : Int) == 0)) = false := HQ.out
    go_wp2
    go_region
    go_wp2
    refine bodyPost_ret (v := .tuple #[leafV Rl ⟨K, out, b1, b2, b3, b4, attr⟩, .agg #[.int .i64 F1, .int .i64 f2]]) (by simp [results, Tryz.results65, go_sem, leafV, a0, a1, a2, a3, a4, a5, a6, a7, d0, d1, l0, l1, l2, l3, l4, l5, l6, l7, k0, k1, z1, z2]) rfl ⟨by rw [← HF1.out]; rfl, MmuPost.fin HD.out HU.out HPF.out ?_⟩
    exact ((((Kp.refl (G2 w u) _).set8 (.inl ga) _ _ _ _ _ _ _ _).set2 (.inl gb) _ _).drew)
   | true =>
    have hff : f1 = 0 ∧ f2 = 0 := by
     have := HQ.out
     rw [← HF1.out] at this
     simpa using this
    have HFF0 := Lib.hid hff
    clear hff
    have hq : (F1 == 0 && ((f2 : Int) == 0)) = true := HQ.out
    cases b4 with
    | false =>
     have HPF : Hid (MmuPost x m pt pk pv Fm Ft Fk (useP s1 asid va true ⟨Rl, ⟨K, out, b1, b2, b3, false, attr⟩, (f1, f2), st⟩) u wc) := by unfold useP; rw [if_neg (by simp)]; exact HP
     go_wp2
     go_region
     go_wp2
     refine bodyPost_ret (v := .tuple #[leafV Rl ⟨K, out, b1, b2, b3, false, attr⟩, .agg #[.int .i64 F1, .int .i64 f2]]) (by simp [results, Tryz.results65, go_sem, leafV, a0, a1, a2, a3, a4, a5, a6, a7, d0, d1, l0, l1, l2, l3, l4, l5, l6, l7, k0, k1, z1, z2]) rfl ⟨by rw [← HF1.out]; rfl, MmuPost.fin HD.out HU.out HPF.out ?_⟩
     exact ((((Kp.refl (G2 w u) _).set8 (.inl ga) _ _ _ _ _ _ _ _).set2 (.inl gb) _ _).drew)
    | true =>
     have hlv := rightL_kind ((HR1.out (by rw [HFF0.out.1, HFF0.out.2])).1)
     have hok : okE ⟨asid, baseP va Rl, Rl, ⟨K, out, b1, b2, b3, true, attr⟩⟩ := okE_leaf HA.out (HR1.out (by rw [HFF0.out.1, HFF0.out.2])).1 rfl
     have hL : Rl ≤ 3 := hlv.2.2.1
     have CB : Hid (∀ v, Calls Tryz.prog 111 #[.int .u64 va, .int .i64 Rl] v fun e v' => e = .returned (.int .u64 (baseP va Rl)) ∧ v' = v) := fun v => vbase_nat va Rl v hL hv
     have CF : Hid (∀ v, Below wc.heap.size wc v → Calls Tryz.prog 110 #[.pointer (some ⟨pt, 0, none⟩), .agg #[.int .i64 asid, .int .u64 (baseP va Rl), .int .i64 Rl, .int .i64 K, .int .u64 out, .bool b1, .bool b2, .bool b3, .bool true, .int .i64 attr]] v fun e v' => e = .returned (.int .i64 0) ∧ MmuPost x m pt pk pv Fm Ft Fk (useP s1 asid va true ⟨Rl, ⟨K, out, b1, b2, b3, true, attr⟩, (f1, f2), st⟩) u v' ∧ Kp (WkF Ft' pt) v v') := fun v hb => by
      have hd := HDD.out
      refine (fill_nat (hd.tlb.below hb) ⟨asid, baseP va Rl, Rl, ⟨K, out, b1, b2, b3, true, attr⟩⟩ hok hd.ok.m1 hd.ok.m64 hd.ok.el).mono ?_
      rintro e v' hp
      have h2 := hd.filled hb (fillP_len hd.ok.el) (fillP_ok hd.ok.eok hok) hp
      refine ⟨hp.1, ?_, h2.2⟩
      unfold useP
      rw [if_pos ⟨rfl, by rw [HFF0.out.1, HFF0.out.2], rfl⟩]
      exact MmuPost.join HKP.out HFP.out h2.1
     have HG : Hid (∀ g, w.heap.size ≤ g → g < X.heap.size → ¬ WkF Ft' pt g) := fun g h1 h2 y => by
      rcases HFP.out g (.inr (.inr (.inl y))) with y | y
      ·have := HD.out.bF g y; omega
      ·have := HUX.out; omega
     have HWC := Lib.hid (Below.refl wc.heap.size wc)
     have HXC : Hid (X.heap.size ≤ wc.heap.size) := HKX.out.size
     have HZX2 : Hid (w2.heap.size < X.heap.size ∧ w2.heap.size + 1 < X.heap.size ∧ w.heap.size + 1 + 1 < X.heap.size ∧ w.heap.size + 1 + 1 + 1 < X.heap.size) := ⟨HL.out.2.2, HF.out.2.2, H8X.out.2.2, H2X.out.2.2⟩
     generalize baseP va Rl = bv at *
     clear hlv hok hL
     go_upto_region 6 with fail
     go_cut [] (fun wx => Hid (MmuPost x m pt pk pv Fm Ft Fk (useP s1 asid va true ⟨Rl, ⟨K, out, b1, b2, b3, true, attr⟩, (f1, f2), st⟩) u wx) ∧ Hid (Kp (WkF Ft' pt) wc wx))
     case first =>
      clear a0 a1 a2 a3 a4 a5 a6 a7 fa d0 d1 fd k0 k1
      refine wp_region_still_tail 15 (by kernel_rfl) (by kernel_rfl) ?_
      simp only [List.take_succ_cons, List.take_zero, List.drop_succ_cons, List.drop_zero]
      repeat still_step
      still_call (CB.out _)
      repeat still_step
      try refine wpStill_nil ?_
      change wpList _ _ _ _ _ wc.drew
      go_wp2_with (go_at_call 110; refine (CF.out _ HWC.out.drew).mono ?_; rintro e w6 ⟨rfl, hp6, hk6⟩; have HP6 := Lib.hid hp6; have HK6' := Lib.hid hk6; clear hp6 hk6)
      go_meet
      exact ⟨HP6, (Kp.ofBelow HWC.out.drew).trans HK6'.out (fun i y => .inl y)⟩
     case rest =>
      rename_i w6
      obtain ⟨HP6, HK6⟩ := hcut
      have A8 := HA8.out.kept HK6.out (HG.out _ (by omega) HZX2.out.2.2.1)
      have D2 := HD2.out.kept HK6.out (HG.out _ (by omega) HZX2.out.2.2.2)
      have LL := HLL.out.kept HK6.out (HG.out _ HZ2.out HZX2.out.1)
      have FF := HFF.out.kept HK6.out (HG.out _ (by have := HZ2.out; omega) HZX2.out.2.1)
      clear a0 a1 a2 a3 a4 a5 a6 a7 fa d0 d1 fd l0 l1 l2 l3 l4 l5 l6 l7 k0 k1 z1 z2
      have a0 := A8.at 0 _ rfl
      have a1 := A8.at 1 _ rfl
      have a2 := A8.at 2 _ rfl
      have a3 := A8.at 3 _ rfl
      have a4 := A8.at 4 _ rfl
      have a5 := A8.at 5 _ rfl
      have a6 := A8.at 6 _ rfl
      have a7 := A8.at 7 _ rfl
      have fa := A8.2.1
      have d0 := D2.at 0 _ rfl
      have d1 := D2.at 1 _ rfl
      have fd := D2.2.1
      have l0 := LL.at 0 _ rfl
      have l1 := LL.at 1 _ rfl
      have l2 := LL.at 2 _ rfl
      have l3 := LL.at 3 _ rfl
      have l4 := LL.at 4 _ rfl
      have l5 := LL.at 5 _ rfl
      have l6 := LL.at 6 _ rfl
      have l7 := LL.at 7 _ rfl
      have k0 := FF.at 0 _ rfl
      have k1 := FF.at 1 _ rfl
      have z1 := A8.2.2
      have z2 := D2.2.2
      clear A8 D2 LL FF
      go_wp2
      go_region
      go_wp2
      refine bodyPost_ret (v := .tuple #[leafV Rl ⟨K, out, b1, b2, b3, true, attr⟩, .agg #[.int .i64 F1, .int .i64 f2]]) (by simp [results, Tryz.results65, go_sem, leafV, a0, a1, a2, a3, a4, a5, a6, a7, d0, d1, l0, l1, l2, l3, l4, l5, l6, l7, k0, k1, z1, z2]) rfl ⟨by rw [← HF1.out]; rfl, MmuPost.fin HD.out HU.out HP6.out ?_⟩
      exact ((((Kp.refl (G2 w u) _).set8 (.inl ga) _ _ _ _ _ _ _ _).set2 (.inl gb) _ _).drew)
end Go.Proofs.YtbapgngngaaojaaGreat
