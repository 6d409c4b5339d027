/- The walk of the ninth reference's Access, where the machine is on. -/
import Derived.Test.YtbapgngngaaojaaGreatG22
import Derived.Test.YtbapgngngaaojaaGreatG23
set_option linter.unusedSimpArgs false
set_option linter.unusedVariables false
namespace Go.Proofs.YtbapgngngaaojaaGreat
open Go.RowKit Go.Lib
set_option maxRecDepth 100000
/-- What is left of an access, behind its fault. -/
def accF (sz : Nat) (ws : List (Nat × Nat)) (out level : Nat) (s1 : St) (kind : Int) (va x : Nat) (f : Nat × Nat) : ((Nat × Nat) × Nat) × (List (Nat × Nat)) × St :=
 if f = (0, 0) then
  if kind = 2 then (((0, 0), 0), (if mayP sz (out + offP va level) = 0 then wrM ws (out + offP va level) x else ws), s1)
  else (((0, 0), if mayP sz (out + offP va level) = 0 then rdM ws (out + offP va level) else 0), ws, s1)
 else ((f, 0), ws, s1)
/-- What is left of an access, behind its leaf. -/
def accL (sz : Nat) (ws : List (Nat × Nat)) (l : Lf) (s1 : St) (kind : Int) (va x : Nat) : ((Nat × Nat) × Nat) × (List (Nat × Nat)) × St :=
 accF sz ws l.d.out l.level s1 kind va x (if l.f = (0, 0) then letP l.d l.level kind else l.f)
/-- What an access of the document's machine answers; its words; the rest of it. -/
def accR (sz most : Nat) (ws : List (Nat × Nat)) (es : List Ent) (ks : List Mk) (root asid : Nat) (kind : Int) (va x : Nat) (fill led keep : Bool) : ((Nat × Nat) × Nat) × (List (Nat × Nat)) × St :=
 accL sz ws (leafM ⟨sz, rdM ws, most, es, ks, some (root, asid)⟩ va fill led keep).1 (leafM ⟨sz, rdM ws, most, es, ks, some (root, asid)⟩ va fill led keep).2 kind va x
def LfUse (l : Lf) : Prop := l.level ≤ 3 ∧ (l.f = (0, 0) → l.d.out < 281474976710656) ∧ (l.f.1 = 0 → l.f = (0, 0))
def RAccPost (ok : Nat → Prop) (sz most root asid : Nat) (vp : Value) (R : ((Nat × Nat) × Nat) × (List (Nat × Nat)) × St) (w : World) (e : Ending) (w' : World) : Prop :=
 ∃ A1 c1 A2 c2 A3 c3, e = .returned (.tuple #[xV sz most root asid true (.slice A1 R.2.1.length c1) (.slice A2 R.2.2.es.length c2) (.slice A3 R.2.2.ks.length c3) vp, fV R.1.1, .int .u64 R.1.2]) ∧ RowAt w' (fun k => ok k ∨ w.heap.size ≤ k) 2 (.slice A1 R.2.1.length c1) R.2.1.length (rowL wL R.2.1) ∧ RowAt w' (fun k => ok k ∨ w.heap.size ≤ k) 10 (.slice A2 R.2.2.es.length c2) R.2.2.es.length (rowL eL R.2.2.es) ∧ RowAt w' (fun k => ok k ∨ w.heap.size ≤ k) 4 (.slice A3 R.2.2.ks.length c3) R.2.2.ks.length (rowL mL R.2.2.ks) ∧ Below w.heap.size w w'
theorem letP_f (d : Dd) (level : Nat) (acc : Int) : (letP d level acc).1 = 0 → letP d level acc = (0, 0) := by
 unfold letP
 split
 ·intro h; cases h
 ·split
  ·intro h; cases h
  ·intro _; rfl
set_option maxHeartbeats 1000000 in
/-- Find, of a slice that may be nil. -/
theorem rfind_nat (l : List Ent) (asid : Int) (va : Nat) (A : Option Addr) (cap : Nat) (w : World) (hn : l.length ≤ 1000) (hl : ∀ x ∈ l, x.level ≤ 3) (hv : va < 18446744073709551616) {ok : Nat → Prop} (h : RowAt w ok 10 (.slice A l.length cap) l.length (rowL eL l)) :
  Calls Tryz.prog 34 #[.slice A l.length cap, .int .i64 asid, .int .u64 va] w (FindPost (findP l asid va) w) := by
 rcases h.2 with ⟨e, h0⟩ | ⟨g, o, c, e, _, hg, _, _, h5, _⟩
 ·obtain ⟨rfl, -, rfl⟩ := Value.slice.inj e
  have hl0 : l = [] := List.eq_nil_of_length_eq_zero h0
  subst hl0
  go_enter Tryz.func34, Tryz.ntmps34
  go_wp2
  refine wp_loop_rounds 1 ?_
  rw [rounds_succ]
  go_wp2
  refine bodyPost_ret (v := .tuple #[eV zeroE, .int .i64 0]) (by simp [results, Tryz.results34, go_sem, eV, zeroE, zeroD]) rfl ⟨rfl, ?_⟩
  exact (below1 w _).alloc (by simp) _
 ·obtain ⟨rfl, -, rfl⟩ := Value.slice.inj e
  exact rfind_core l asid va g o cap w hn hl hv hg h5
theorem findP_mem {l : List Ent} {asid : Int} {va : Nat} (h : (findP l asid va).2 ≠ 0) : (findP l asid va).1 ∈ l := by
 unfold findP at *
 dsimp only at *
 cases hf : l.find? (matE asid va) with
 | none =>
  exfalso
  apply h
  rw [List.countP_eq_zero]
  intro y hy
  exact List.find?_eq_none.1 hf y hy
 | some y => exact List.mem_of_find?_eq_some hf
theorem set2_eq (w : World) (b : Nat) (v0 v1 : Value) : (w.setCell ⟨b, 0, none⟩ v0).setCell ⟨b, 1, none⟩ v1 = w.setCells b 0 [v0, v1] := rfl
set_option maxHeartbeats 3000000 in
theorem rxaccess_nat {ok : Nat → Prop} (sz most root asid va x : Nat) (kind : Int) (ws : List (Nat × Nat)) (es : List Ent) (ks : List Mk) (fill led keep : Bool) (A1 A2 A3 A4 : Option Addr) (n4 c1 c2 c3 c4 : Nat) (w : World) (hs : OkSt ⟨sz, rdM ws, most, es, ks, some (root, asid)⟩) (hv : va < 18446744073709551616) (hn : ws.length ≤ 999999) (hws : ∀ a, rdM ws a < 18446744073709551616) (hok : ∀ k, ok k → k < w.heap.size)
  (h1 : RowAt w ok 2 (.slice A1 ws.length c1) ws.length (rowL wL ws)) (h2 : RowAt w ok 10 (.slice A2 es.length c2) es.length (rowL eL es)) (h3 : RowAt w ok 4 (.slice A3 ks.length c3) ks.length (rowL mL ks)) :
  Calls Tryz.prog 11 #[xV sz most root asid true (.slice A1 ws.length c1) (.slice A2 es.length c2) (.slice A3 ks.length c3) (.slice A4 n4 c4), .int .i64 kind, .int .u64 va, .int .u64 x, .agg #[.bool fill, .bool led, .bool keep]] w (RAccPost ok sz most root asid (.slice A4 n4 c4) (accR sz most ws es ks root asid kind va x fill led keep) w) := by
 have hel : es.length ≤ 1000 := by have := hs.el; have := hs.m64; dsimp only at *; omega
 have C1 : Hid (∀ w', Below w.heap.size w w' → Calls Tryz.prog 34 #[.slice A2 es.length c2, .int .i64 asid, .int .u64 va] w' (FindPost (findP es asid va) w')) := fun w' hb => rfind_nat es asid va A2 c2 w' hel (fun y hy => (hs.eok y hy).2.2.1) hv (h2.below hb)
 have C2 : Hid (∀ w', Below w.heap.size w w' → Calls Tryz.prog 35 #[.agg #[.int .u64 sz, .slice A1 ws.length c1, .int .i64 most, .slice A2 es.length c2, .slice A3 ks.length c3, .bool true, .int .u64 root, .int .i64 asid, .slice A4 n4 c4], .int .u64 va, .agg #[.bool fill, .bool led, .bool keep]] w' (RWalkPost ok sz most root asid (.slice A1 ws.length c1) (.slice A4 n4 c4) (walkM ⟨sz, rdM ws, most, es, ks, some (root, asid)⟩ root asid va fill led keep) w')) := fun w' hb => rxwalk_nat sz most root asid va ws es ks fill led keep A1 A2 A3 A4 n4 c1 c2 c3 c4 w' hs hv (by omega) hws (fun k h => Nat.lt_of_lt_of_le (hok k h) hb.size) (h1.below hb) (h2.below hb) (h3.below hb)
 have C3 : Hid (∀ (k0 o0 a0 lv : Nat) (u1 u2 u3 u4 : Bool) w', Calls Tryz.prog 36 #[.agg #[.int .i64 k0, .int .u64 o0, .bool u1, .bool u2, .bool u3, .bool u4, .int .i64 a0], .int .i64 lv, .int .i64 kind] w' fun e w'' => e = .returned (fV (letP ⟨k0, o0, u1, u2, u3, u4, a0⟩ lv kind)) ∧ Below w'.heap.size w' w'') := fun k0 o0 a0 lv u1 u2 u3 u4 w' => rlet_nat k0 o0 a0 lv u1 u2 u3 u4 kind w'
 have C4 : Hid (∀ lv : Nat, lv ≤ 3 → ∀ w', Calls Tryz.prog 37 #[.int .u64 va, .int .i64 lv] w' fun e w'' => e = .returned (.int .u64 (offP va lv)) ∧ Below w'.heap.size w' w'') := fun lv h w' => roffset_nat va lv w' h hv
 have C5 : Hid (∀ a, a < 18446744073709551616 → ∀ w', Below w.heap.size w w' → Calls Tryz.prog 31 #[.agg #[.int .u64 sz, .slice A1 ws.length c1], .int .u64 (a : Nat), .int .u64 x] w' (WrPost sz A1 ws.length c1 (wrM ws a x) (mayP sz a) w')) := fun a ha w' hb => rwrite_nat sz a x ws A1 c1 w' ha (by omega) (h1.rd.below hb)
 have C6 : Hid (∀ a, a < 18446744073709551616 → ∀ w', Below w.heap.size w w' → Calls Tryz.prog 38 #[.agg #[.int .u64 sz, .slice A1 ws.length c1], .int .u64 (a : Nat)] w' fun e w'' => e = .returned (.tuple #[.int .u64 ((if mayP sz a = 0 then rdM ws a else 0 : Nat) : Int), .int .i64 (mayP sz a)]) ∧ Below w'.heap.size w' w'') := fun a ha w' hb => rread_nat sz a ws A1 c1 w' ha (by omega) (h1.rd.below hb)
 obtain ⟨R, hR⟩ : ∃ R, accR sz most ws es ks root asid kind va x fill led keep = R := ⟨_, rfl⟩
 rw [hR]
 unfold accR leafM at hR
 dsimp only at hR
 have hwf := fromP_ok sz (rdM ws) (beginP ⟨sz, rdM ws, most, es, ks, some (root, asid)⟩ root asid va led).1 (beginP ⟨sz, rdM ws, most, es, ks, some (root, asid)⟩ root asid va led).2 va
 have hwg := fromP_f sz (rdM ws) (beginP ⟨sz, rdM ws, most, es, ks, some (root, asid)⟩ root asid va led).1 (beginP ⟨sz, rdM ws, most, es, ks, some (root, asid)⟩ root asid va led).2 va
 have hWU : LfUse (walkM ⟨sz, rdM ws, most, es, ks, some (root, asid)⟩ root asid va fill led keep).1 := by
  show LfUse (fromP sz (rdM ws) (beginP ⟨sz, rdM ws, most, es, ks, some (root, asid)⟩ root asid va led).1 (beginP ⟨sz, rdM ws, most, es, ks, some (root, asid)⟩ root asid va led).2 va)
  generalize fromP sz (rdM ws) (beginP ⟨sz, rdM ws, most, es, ks, some (root, asid)⟩ root asid va led).1 (beginP ⟨sz, rdM ws, most, es, ks, some (root, asid)⟩ root asid va led).2 va = F at *
  refine ⟨?_, fun h => (rightL_kind (hwf.1.2.1 h).1).2.2.2.1, hwg⟩
  by_cases hf : F.f = (0, 0)
  ·exact (rightL_kind (hwf.1.2.1 hf).1).2.2.1
  ·rw [(hwf.1.2.2 hf).1]; omega
 have hFU : (findP es asid va).2 ≠ 0 → LfUse ⟨(findP es asid va).1.level, (findP es asid va).1.d, (0, 0), []⟩ := by
  intro h0
  have hm := findP_mem h0
  exact ⟨(hs.eok _ hm).2.2.1, fun _ => (rightL_kind (hs.eok _ hm).2.2.2.2.2.2.1).2.2.2.1, fun _ => rfl⟩
 clear hwf hwg
 obtain ⟨M, hM⟩ : ∃ M, findP es asid va = M := ⟨_, rfl⟩
 rw [hM] at C1 hFU hR
 generalize walkM ⟨sz, rdM ws, most, es, ks, some (root, asid)⟩ root asid va fill led keep = WM at *
 have HOKL := Lib.hid hok
 have H1 := Lib.hid h1
 have H2 := Lib.hid h2
 have H3 := Lib.hid h3
 have HR := Lib.hid hR
 have HWU := Lib.hid hWU
 have HFU := Lib.hid hFU
 have HN := Lib.hid hn
 have HV := Lib.hid hv
 have HWS := Lib.hid hws
 clear hs hn hws hok h1 h2 h3 hR hWU hFU hel hM hv
 obtain ⟨⟨ea, ev, el, ⟨k0, o0, u1, u2, u3, u4, at0⟩⟩, n⟩ := M
 obtain ⟨Wl, Ws⟩ := WM
 try dsimp only at HR HWU HFU
 unfold xV
 go_enter Tryz.func11, Tryz.ntmps11
 go_upto_region 1 with fail
 generalize hW : World.alloc (World.alloc (World.alloc (World.alloc w _) _) _) _ = W
 have HXB : Hid (Box W w.heap.size (xC sz most root asid true (.slice A1 ws.length c1) (.slice A2 es.length c2) (.slice A3 ks.length c3) (.slice A4 n4 c4))) := by
  rw [← hW]
  exact (((Box.new w (xC sz most root asid true (.slice A1 ws.length c1) (.slice A2 es.length c2) (.slice A3 ks.length c3) (.slice A4 n4 c4)) 36).below (below1 _ _)).below (below1 _ _)).below (below1 _ _)
 have HHB : Hid (Box W (w.heap.size + 1) [.bool fill, .bool led, .bool keep]) := by
  rw [← hW]
  exact ((Box.new' (w.alloc (.cells (xC sz most root asid true (.slice A1 ws.length c1) (.slice A2 es.length c2) (.slice A3 ks.length c3) (.slice A4 n4 c4)).toArray 36)) _ (by simp) [.bool fill, .bool led, .bool keep] 41).below (below1 _ _)).below (below1 _ _)
 have H6B : Hid (Box W (w.heap.size + 2) (xC 0 0 0 0 false (.slice none 0 0) (.slice none 0 0) (.slice none 0 0) (.slice none 0 0))) := by
  rw [← hW]
  exact (Box.new' ((w.alloc (.cells (xC sz most root asid true (.slice A1 ws.length c1) (.slice A2 es.length c2) (.slice A3 ks.length c3) (.slice A4 n4 c4)).toArray 36)).alloc (.cells #[.bool fill, .bool led, .bool keep] 41)) _ (by simp) (xC 0 0 0 0 false (.slice none 0 0) (.slice none 0 0) (.slice none 0 0) (.slice none 0 0)) 36).below (below1 _ _)
 have H7B : Hid (Box W (w.heap.size + 3) [.int .i64 0, .int .i64 0]) := by
  rw [← hW]
  exact Box.new' (((w.alloc (.cells (xC sz most root asid true (.slice A1 ws.length c1) (.slice A2 es.length c2) (.slice A3 ks.length c3) (.slice A4 n4 c4)).toArray 36)).alloc (.cells #[.bool fill, .bool led, .bool keep] 41)).alloc (.cells (xC 0 0 0 0 false (.slice none 0 0) (.slice none 0 0) (.slice none 0 0) (.slice none 0 0)).toArray 36)) _ (by simp) [.int .i64 0, .int .i64 0] 46
 have HB0 : Hid (Below w.heap.size w W) := by rw [← hW]; exact (((below1 w _).alloc (by simp) _).alloc (by simp; omega) _).alloc (by simp; omega) _
 clear hW
 by_cases h8 : va % 8 = 0
 ·have d8 : ((va : Int) % 8 != 0) = false := by simp; omega
  have hr := HR.out
  rw [if_pos h8] at hr
  have HRN := Lib.hid hr
  clear hr h8
  have x3 := HXB.out.at 3 _ rfl
  have x5 := HXB.out.at 5 _ rfl
  have x7 := HXB.out.at 7 _ rfl
  go_upto_region 6 with (go_at_call 34; refine (C1.out _ HB0.out).mono ?_; rintro e w1 ⟨rfl, hb1⟩; dsimp only [eV]; have HBW1 := Lib.hid hb1; clear hb1)
  have HEB : Hid (Box (w1.alloc (.cells #[.int .i64 ea, .int .u64 ev, .int .i64 el, .int .i64 k0, .int .u64 o0, .bool u1, .bool u2, .bool u3, .bool u4, .int .i64 at0] 101)) w1.heap.size (eL ⟨ea, ev, el, ⟨k0, o0, u1, u2, u3, u4, at0⟩⟩)) := Box.new w1 (eL ⟨ea, ev, el, ⟨k0, o0, u1, u2, u3, u4, at0⟩⟩) 101
  have HBX : Hid (Below W.heap.size W (w1.alloc (.cells #[.int .i64 ea, .int .u64 ev, .int .i64 el, .int .i64 k0, .int .u64 o0, .bool u1, .bool u2, .bool u3, .bool u4, .int .i64 at0] 101))) := HBW1.out.alloc HBW1.out.size _
  generalize World.alloc w1 _ = W3 at *
  have HB3 : Hid (Below w.heap.size w W3) := HB0.out.trans (HBX.out.mono HB0.out.size)
  replace HXB := Lib.hid (HXB.out.below HBX.out)
  replace HHB := Lib.hid (HHB.out.below HBX.out)
  replace H6B := Lib.hid (H6B.out.below HBX.out)
  replace H7B := Lib.hid (H7B.out.below HBX.out)
  clear x3 x5 x7 HBW1 HBX HB0
  have HB0 := HB3
  by_cases hn1 : 1 < n
  ·have d1 : decide ((1 : Int) < (n : Int)) = true := by simp; omega
   have hr := HRN.out
   rw [if_neg (by omega), if_neg (by omega)] at hr
   have HQ : Hid ((((6, 0), 0), ws, ⟨sz, rdM ws, most, es, ks, some (root, asid)⟩) = R) := hr
   clear hr hn1 HEB
   have BX := HXB.out
   have x0 := BX.at 0 _ rfl
   have x1 := BX.at 1 _ rfl
   have x2 := BX.at 2 _ rfl
   have x3 := BX.at 3 _ rfl
   have x4 := BX.at 4 _ rfl
   have x5 := BX.at 5 _ rfl
   have x6 := BX.at 6 _ rfl
   have x7 := BX.at 7 _ rfl
   have x8 := BX.at 8 _ rfl
   have fx := BX.2.1
   have zx := BX.2.2
   have BP := H6B.out
   have p0 := BP.at 0 _ rfl
   have p1 := BP.at 1 _ rfl
   have p2 := BP.at 2 _ rfl
   have p3 := BP.at 3 _ rfl
   have p4 := BP.at 4 _ rfl
   have p5 := BP.at 5 _ rfl
   have p6 := BP.at 6 _ rfl
   have p7 := BP.at 7 _ rfl
   have p8 := BP.at 8 _ rfl
   have fp := BP.2.1
   have zp := BP.2.2
   have BR := H7B.out
   have r0 := BR.at 0 _ rfl
   have r1 := BR.at 1 _ rfl
   have fr := BR.2.1
   have zr := BR.2.2
   clear BX BP BR fx
   go_wp2
   refine bodyPost_ret (v := .tuple #[xV sz most root asid true (.slice A1 ws.length c1) (.slice A2 es.length c2) (.slice A3 ks.length c3) (.slice A4 n4 c4), fV (6, 0), .int .u64 0]) (by simp [results, Tryz.results11, go_sem, zp, zr, p0, p1, p2, p3, p4, p5, p6, p7, p8, r0, r1, fV, xV]) rfl ?_
   rw [← HQ.out]
   have hkp : ∀ l1 u1 u2, Kp (fun k => k = w.heap.size + 1 + 1 ∨ k = w.heap.size + 1 + 1 + 1) W3 (((W3).setCells (w.heap.size + 1 + 1) 0 l1).setCell ⟨w.heap.size + 1 + 1 + 1, 0, none⟩ u1 |>.setCell ⟨w.heap.size + 1 + 1 + 1, 1, none⟩ u2) := fun l1 u1 u2 => (((Kp.refl (fun k => k = w.heap.size + 1 + 1 ∨ k = w.heap.size + 1 + 1 + 1) W3).setCells (.inl (.inl rfl)) 0 l1).setCell (.inl (.inr rfl)) _).setCell (.inl (.inr rfl)) _
   rw [set9_eq]
   generalize hY : World.setCell _ _ _ = Y
   have hbel : Below w.heap.size w Y := by rw [← hY]; exact Kp.toBelow (hkp _ _ _) HB0.out HB0.out.size (fun k hk => by omega)
   exact ⟨A1, c1, A2, c2, A3, c3, rfl, (H1.out.below hbel).mono (fun k _ h => .inl h), (H2.out.below hbel).mono (fun k _ h => .inl h), (H3.out.below hbel).mono (fun k _ h => .inl h), hbel⟩
  ·have d1 : decide ((1 : Int) < (n : Int)) = false := by simp; omega
   have BE := HEB.out
   have e2 := BE.at 2 _ rfl
   have e3 := BE.at 3 _ rfl
   have e4 := BE.at 4 _ rfl
   have e5 := BE.at 5 _ rfl
   have e6 := BE.at 6 _ rfl
   have e7 := BE.at 7 _ rfl
   have e8 := BE.at 8 _ rfl
   have e9 := BE.at 9 _ rfl
   obtain ⟨qn, hqn⟩ : ∃ q, decide (n = 0) = q := ⟨_, rfl⟩
   have hqn' : ((n : Int) == 0) = qn := by rw [← hqn, Bool.eq_iff_iff]; simp
   go_upto_if 49 with fail
   have HLB : Hid (Box (W3.alloc (.cells #[.int .i64 el, .int .i64 k0, .int .u64 o0, .bool u1, .bool u2, .bool u3, .bool u4, .int .i64 at0, .int .i64 0, .int .i64 0, .slice none 0 0] 106)) W3.heap.size (lC el ⟨k0, o0, u1, u2, u3, u4, at0⟩ (0, 0) (.slice none 0 0))) := Box.new W3 (lC el ⟨k0, o0, u1, u2, u3, u4, at0⟩ (0, 0) (.slice none 0 0)) 106
   have HBX : Hid (Below W3.heap.size W3 (W3.alloc (.cells #[.int .i64 el, .int .i64 k0, .int .u64 o0, .bool u1, .bool u2, .bool u3, .bool u4, .int .i64 at0, .int .i64 0, .int .i64 0, .slice none 0 0] 106))) := below1 _ _
   have HLZ : Hid (w.heap.size + 3 < W3.heap.size) := H7B.out.2.2
   generalize World.alloc W3 _ = W4 at *
   have HB4 : Hid (Below w.heap.size w W4) := HB3.out.trans (HBX.out.mono HB3.out.size)
   replace HXB := Lib.hid (HXB.out.below HBX.out)
   replace HHB := Lib.hid (HHB.out.below HBX.out)
   replace H6B := Lib.hid (H6B.out.below HBX.out)
   replace H7B := Lib.hid (H7B.out.below HBX.out)
   clear e2 e3 e4 e5 e6 e7 e8 e9 BE HEB HBX HB0 HB3
   generalize W3.heap.size = L at *
   have HNZ : Hid (n ≤ 1) := by rw [Hid]; omega
   have HQN := Lib.hid hqn
   clear hqn hqn' hn1 d1
   go_cut [] (fun wx => ∃ (l : Lf) (s1 : St) (A5 : Option Addr) (c5 : Nat) (A6 : Option Addr) (c6 : Nat) (A7 : Option Addr) (c7 : Nat), Hid (accL sz ws l s1 kind va x = R) ∧ Hid (LfUse l) ∧ Hid (Box wx w.heap.size (xC sz most root asid true (.slice A1 ws.length c1) (.slice A6 s1.es.length c6) (.slice A7 s1.ks.length c7) (.slice A4 n4 c4))) ∧ Hid (Box wx L (lC l.level l.d l.f (.slice A5 l.steps.length c5))) ∧ Hid (RowAt wx (fun k => ok k ∨ W4.heap.size ≤ k) 10 (.slice A6 s1.es.length c6) s1.es.length (rowL eL s1.es)) ∧ Hid (RowAt wx (fun k => ok k ∨ W4.heap.size ≤ k) 4 (.slice A7 s1.ks.length c7) s1.ks.length (rowL mL s1.ks)) ∧ Hid (Kp (fun k => k = w.heap.size ∨ k = L) W4 wx))
   case first =>
    cases qn with
    | true =>
     have hz : n = 0 := by simpa using HQN.out
     have hr := HRN.out
     rw [if_pos hz] at hr
     have HQ : Hid (accL sz ws Wl Ws kind va x = R) := hr
     clear hr hz
     have BX := HXB.out
     have x0 := BX.at 0 _ rfl
     have x1 := BX.at 1 _ rfl
     have x2 := BX.at 2 _ rfl
     have x3 := BX.at 3 _ rfl
     have x4 := BX.at 4 _ rfl
     have x5 := BX.at 5 _ rfl
     have x6 := BX.at 6 _ rfl
     have x7 := BX.at 7 _ rfl
     have x8 := BX.at 8 _ rfl
     have fx := BX.2.1
     have zx := BX.2.2
     have hh0 := HHB.out.at 0 _ rfl
     have hh1 := HHB.out.at 1 _ rfl
     have hh2 := HHB.out.at 2 _ rfl
     clear BX fx zx
     have hne1 : ¬ L = w.heap.size := by have := HLZ.out; omega
     have hne2 : ¬ w.heap.size = L := by omega
     go_wp2_with (go_at_call 35; refine (C2.out _ HB4.out).mono ?_; rintro e w5 ⟨A6, c6, A7, c7, A5, c5, rfl, hrow6, hrow7, hb5⟩; dsimp only [xV, lV]; have HROW6 := Lib.hid hrow6; have HROW7 := Lib.hid hrow7; have HBW5 := Lib.hid hb5; have HX5 := Lib.hid (HXB.out.below hb5); have HL5 := Lib.hid (HLB.out.below hb5); clear x0 x1 x2 x3 x4 x5 x6 x7 x8 hh0 hh1 hh2 hrow6 hrow7 hb5; have x0 := HX5.out.at 0 _ rfl; have x1 := HX5.out.at 1 _ rfl; have x2 := HX5.out.at 2 _ rfl; have x3 := HX5.out.at 3 _ rfl; have x4 := HX5.out.at 4 _ rfl; have x5 := HX5.out.at 5 _ rfl; have x6 := HX5.out.at 6 _ rfl; have x7 := HX5.out.at 7 _ rfl; have x8 := HX5.out.at 8 _ rfl; have fx := HX5.out.2.1; have zx := HX5.out.2.2; have l0 := HL5.out.at 0 _ rfl; have l1 := HL5.out.at 1 _ rfl; have l2 := HL5.out.at 2 _ rfl; have l3 := HL5.out.at 3 _ rfl; have l4 := HL5.out.at 4 _ rfl; have l5 := HL5.out.at 5 _ rfl; have l6 := HL5.out.at 6 _ rfl; have l7 := HL5.out.at 7 _ rfl; have l8 := HL5.out.at 8 _ rfl; have l9 := HL5.out.at 9 _ rfl; have la := HL5.out.at 10 _ rfl; have fl := HL5.out.2.1; have zl := HL5.out.2.2)
     go_meet
     rw [set11_eq, set9_eq]
     have kx := (Kp.refl (fun k => k = w.heap.size) w5).setCells (b := w.heap.size) (.inl rfl) 0 (xC sz most root asid true (.slice A1 ws.length c1) (.slice A6 Ws.es.length c6) (.slice A7 Ws.ks.length c7) (.slice A4 n4 c4))
     have kl := (Kp.refl (fun k => k = L) (w5.setCells w.heap.size 0 (xC sz most root asid true (.slice A1 ws.length c1) (.slice A6 Ws.es.length c6) (.slice A7 Ws.ks.length c7) (.slice A4 n4 c4)))).setCells (b := L) (.inl rfl) 0 (lC Wl.level Wl.d Wl.f (.slice A5 Wl.steps.length c5))
     have hno : ∀ k, (ok k ∨ W4.heap.size ≤ k) → ¬ k = w.heap.size ∧ ¬ k = L := fun k h => by
      have z1 := HXB.out.2.2
      have z2 := HLB.out.2.2
      have z3 := HLZ.out
      rcases h with h | h
      ·have := HOKL.out k h; omega
      ·omega
     exact ⟨Wl, Ws, A5, c5, A6, c6, A7, c7, HQ, HWU, (HX5.out.put (news := xC sz most root asid true (.slice A1 ws.length c1) (.slice A6 Ws.es.length c6) (.slice A7 Ws.ks.length c7) (.slice A4 n4 c4)) rfl).kept kl hne2, (HL5.out.kept kx hne1).put (news := lC Wl.level Wl.d Wl.f (.slice A5 Wl.steps.length c5)) rfl, (HROW6.out.kept kx (fun k h => (hno k h).1)).kept kl (fun k h => (hno k h).2), (HROW7.out.kept kx (fun k h => (hno k h).1)).kept kl (fun k h => (hno k h).2), ((Kp.ofBelow (F := fun k => k = w.heap.size ∨ k = L) HBW5.out).trans kx (fun k h => .inl (.inl h))).trans kl (fun k h => .inl (.inr h))⟩
    | false =>
     have hz : n = 1 := by have h := HQN.out; have := HNZ.out; simp at h; omega
     have hr := HRN.out
     rw [if_neg (by omega), if_pos hz] at hr
     have HQ : Hid (accL sz ws ⟨el, ⟨k0, o0, u1, u2, u3, u4, at0⟩, (0, 0), []⟩ ⟨sz, rdM ws, most, es, ks, some (root, asid)⟩ kind va x = R) := hr
     have HU := Lib.hid (HFU.out (by omega))
     clear hr hz
     go_wp2_with fail
     go_meet
     exact ⟨⟨el, ⟨k0, o0, u1, u2, u3, u4, at0⟩, (0, 0), []⟩, ⟨sz, rdM ws, most, es, ks, some (root, asid)⟩, none, 0, A2, c2, A3, c3, HQ, HU, HXB, HLB, (H2.out.below HB4.out).mono (fun k _ h => .inl h), (H3.out.below HB4.out).mono (fun k _ h => .inl h), Kp.refl _ _⟩
   case rest =>
    obtain ⟨l, s1, A5, c5, A6, c6, A7, c7, HQ, HU, HXC, HLC, HR6, HR7, HKP⟩ := hcut
    have HB5 : Hid (Below w.heap.size w wc) := HKP.out.toBelow HB4.out HB4.out.size (fun k hk => by have := HLZ.out; omega)
    have HLZ2 := HLZ.out
    replace H6B := Lib.hid (H6B.out.kept HKP.out (by omega))
    replace H7B := Lib.hid (H7B.out.kept HKP.out (by omega))
    have HW4Z : Hid (L < W4.heap.size) := HLB.out.2.2
    have HS6 : Hid (RowAt wc (fun k => ok k ∨ (L < k ∧ k < wc.heap.size)) 10 (.slice A6 s1.es.length c6) s1.es.length (rowL eL s1.es)) := HR6.out.mono (fun k q h => h.imp id (fun h => by have := HW4Z.out; omega))
    have HS7 : Hid (RowAt wc (fun k => ok k ∨ (L < k ∧ k < wc.heap.size)) 4 (.slice A7 s1.ks.length c7) s1.ks.length (rowL mL s1.ks)) := HR7.out.mono (fun k q h => h.imp id (fun h => by have := HW4Z.out; omega))
    clear HXB HHB HLB HB4 HR6 HR7 HKP HLZ2 C1 C2 HFU HWU HRN HR HQN HNZ
    obtain ⟨Rl, ⟨K0, O0, v1, v2, v3, v4, T0⟩, ⟨f1, f2⟩, Rs⟩ := l
    have l8 := HLC.out.at 8 _ rfl
    have l9 := HLC.out.at 9 _ rfl
    obtain ⟨qf, hqf⟩ : ∃ q, decide (f1 = 0) = q := ⟨_, rfl⟩
    have hqf' : ((f1 : Int) == 0) = qf := by rw [← hqf, Bool.eq_iff_iff]; simp
    go_upto_if 61 with fail
    have HFB : Hid (Box (wc.alloc (.cells #[.int .i64 f1, .int .i64 f2] 46)) wc.heap.size [.int .i64 f1, .int .i64 f2]) := Box.new wc [.int .i64 f1, .int .i64 f2] 46
    have HBX : Hid (Below wc.heap.size wc (wc.alloc (.cells #[.int .i64 f1, .int .i64 f2] 46))) := below1 _ _
    have HLF : Hid (L < wc.heap.size) := HLC.out.2.2
    generalize World.alloc wc _ = W6 at *
    have HB6 : Hid (Below w.heap.size w W6) := HB5.out.trans (HBX.out.mono HB5.out.size)
    replace HXC := Lib.hid (HXC.out.below HBX.out)
    replace HLC := Lib.hid (HLC.out.below HBX.out)
    replace H6B := Lib.hid (H6B.out.below HBX.out)
    replace H7B := Lib.hid (H7B.out.below HBX.out)
    replace HS6 := Lib.hid (HS6.out.below HBX.out)
    replace HS7 := Lib.hid (HS7.out.below HBX.out)
    clear l8 l9 HBX HB5
    generalize hFb : wc.heap.size = Fb at *
    clear hFb
    have HQF := Lib.hid hqf
    clear hqf hqf'
    go_cut [] (fun wx => ∃ g1 g2 : Nat, Hid (accF sz ws O0 Rl s1 kind va x (g1, g2) = R) ∧ Hid ((g1 = 0 → g2 = 0) ∧ (g1 = 0 → O0 < 281474976710656)) ∧ Hid (Box wx Fb [.int .i64 g1, .int .i64 g2]) ∧ Hid (Below W6.heap.size W6 wx ∨ Kp (fun k => k = Fb) W6 wx))
    case first =>
     cases qf with
     | true =>
      have hz : f1 = 0 := by simpa using HQF.out
      have hf := HU.out.2.2 hz
      have hq := HQ.out
      unfold accL at hq
      rw [if_pos hf] at hq
      have HO := Lib.hid (HU.out.2.1 hf)
      dsimp only at hq HO
      obtain ⟨P, hP⟩ : ∃ P, letP ⟨K0, O0, v1, v2, v3, v4, T0⟩ Rl kind = P := ⟨_, rfl⟩
      have D3 := Lib.hid (C3.out K0 O0 T0 Rl v1 v2 v3 v4)
      rw [hP] at hq D3
      have HPF : Hid (P.1 = 0 → P = (0, 0)) := by rw [← hP]; exact letP_f _ _ _
      have HQ2 := Lib.hid hq
      clear hq hf hz hP
      obtain ⟨g1, g2⟩ := P
      dsimp only [fV] at D3
      have BX := HLC.out
      have l0 := BX.at 0 _ rfl
      have l1 := BX.at 1 _ rfl
      have l2 := BX.at 2 _ rfl
      have l3 := BX.at 3 _ rfl
      have l4 := BX.at 4 _ rfl
      have l5 := BX.at 5 _ rfl
      have l6 := BX.at 6 _ rfl
      have l7 := BX.at 7 _ rfl
      clear BX
      go_wp2_with (go_at_call 36; refine (D3.out _).mono ?_; rintro e w7 ⟨rfl, hb7⟩; have HBW7 := Lib.hid hb7; have HF7 := Lib.hid (HFB.out.below hb7); clear hb7; have b0 := HF7.out.at 0 _ rfl; have b1 := HF7.out.at 1 _ rfl; have fb := HF7.out.2.1; have zb := HF7.out.2.2)
      go_meet
      rw [set2_eq]
      exact ⟨g1, g2, HQ2, ⟨fun h => (Prod.mk.inj (HPF.out h)).2, fun _ => HO.out⟩, HF7.out.put (news := [.int .i64 g1, .int .i64 g2]) rfl, .inr ((Kp.ofBelow (F := fun k => k = Fb) HBW7.out).setCells (b := Fb) (.inl rfl) 0 _)⟩
     | false =>
      have hz : f1 ≠ 0 := by simpa using HQF.out
      have hq := HQ.out
      unfold accL at hq
      rw [if_neg (fun h => hz (Prod.mk.inj h).1)] at hq
      have HQ2 : Hid (accF sz ws O0 Rl s1 kind va x (f1, f2) = R) := hq
      have HZ := Lib.hid hz
      clear hq hz
      go_wp2_with fail
      go_meet
      exact ⟨f1, f2, HQ2, ⟨fun h => absurd h HZ.out, fun h => absurd h HZ.out⟩, HFB, .inr (Kp.refl _ _)⟩
    case rest =>
     obtain ⟨g1, g2, HQ9, HG, HF9, HK9⟩ := hcut
     have hkp : Kp (fun k => k = Fb) W6 wc := HK9.out.elim (fun h => .ofBelow h) id
     have HB7 : Hid (Below w.heap.size w wc) := hkp.toBelow HB6.out HB6.out.size (fun k hk => by have := HLF.out; have := HLZ.out; omega)
     have z1 := HLF.out
     have z2 := HLZ.out
     replace HXC := Lib.hid (HXC.out.kept hkp (by omega))
     replace HLC := Lib.hid (HLC.out.kept hkp (by omega))
     replace H6B := Lib.hid (H6B.out.kept hkp (by omega))
     replace H7B := Lib.hid (H7B.out.kept hkp (by omega))
     replace HS6 := Lib.hid (HS6.out.kept hkp (fun k h e => by rcases h with h | h; exact absurd (HOKL.out k h) (by omega); omega))
     replace HS7 := Lib.hid (HS7.out.kept hkp (fun k h e => by rcases h with h | h; exact absurd (HOKL.out k h) (by omega); omega))
     have HROW1 : Hid (RowAt wc (fun k => ok k ∨ Fb < k) 2 (.slice A1 ws.length c1) ws.length (rowL wL ws)) := (H1.out.below HB7.out).mono (fun k _ h => .inl h)
     have HRL : Hid (Rl ≤ 3) := HU.out.1
     clear HFB HB6 HK9 hkp HU HQ HQF z1 z2
     have b0 := HF9.out.at 0 _ rfl
     by_cases hg : g1 = 0
     ·have hg2 := HG.out.1 hg
      have ho := HG.out.2 hg
      subst hg hg2
      have hq := HQ9.out
      unfold accF at hq
      rw [if_pos rfl] at hq
      have hoff : offP va Rl < 549755813888 := by
       unfold offP
       exact Nat.lt_of_lt_of_le (Nat.mod_lt _ (Nat.two_pow_pos _)) (Nat.pow_le_pow_right (n := 2) (by omega) (bitsL_le Rl))
      have hRl := HRL.out
      have D4 := Lib.hid (C4.out Rl hRl)
      obtain ⟨a, ha⟩ : ∃ a, O0 + offP va Rl = a := ⟨_, rfl⟩
      rw [ha] at hq
      have ha64 : a < 18446744073709551616 := by omega
      have e8 : IntKind.u64.wrap ((O0 : Int) + (offP va Rl : Int)) = (a : Int) := by rw [IntKind.wrap_u64]; omega
      have e7 : (O0 : Int) + (offP va Rl : Int) = (a : Int) := by omega
      have D5 := Lib.hid (C5.out a ha64)
      have D6 := Lib.hid (C6.out a ha64)
      have E8 := Lib.hid e8
      have E7 := Lib.hid e7
      have HQA := Lib.hid hq
      replace b0 : wc.cell? ⟨Fb, 0, none⟩ = some (.int .i64 0) := b0
      clear e8 e7 hq hoff ho ha HQ9 HG
      generalize offP va Rl = off at *
      have l0 := HLC.out.at 0 _ rfl
      have l2 := HLC.out.at 2 _ rfl
      go_upto_region 16 with fail
      go_cut [17] (fun s17 wx => s17 = .int .u64 (a : Nat) ∧ Hid (Below wc.heap.size wc wx))
      case first =>
       have hC : CtxB wc wc := Below.refl _ _
       go_region_held3 (fun u => u.cell? ⟨L, 0, none⟩ = some (.int .i64 Rl) ∧ u.cell? ⟨L, 2, none⟩ = some (.int .u64 O0) ∧ CtxB wc u)
        (first | assumption | exact ⟨drew_cell l0, drew_cell l2, hC.drew⟩ | (go_split_ands; exact ⟨keep_cell hb5 (by assumption), keep_cell hb5 (by assumption), CtxB.next (by assumption) hb5⟩))
        (first | (go_at_call 37; refine (D4.out _).mono ?_; rintro e w5 ⟨rfl, hb5⟩))
       all_goals
        go_split_ands
        have HBX9 : Hid (Below wc.heap.size wc w5) := CtxB.out (by assumption)
        go_wp2_with fail
        go_meet
        exact ⟨by first | (rw [E8.out]; done) | (rw [E7.out]; done) | (rw [E8.out]; rfl) | (rw [E7.out]; rfl), HBX9⟩
      case rest =>
       obtain ⟨rfl, HB8⟩ := hcut
       have HB9 : Hid (Below w.heap.size w wc) := HB7.out.trans (HB8.out.mono HB7.out.size)
       replace HXC := Lib.hid (HXC.out.below HB8.out)
       replace H6B := Lib.hid (H6B.out.below HB8.out)
       replace H7B := Lib.hid (H7B.out.below HB8.out)
       replace HF9 := Lib.hid (HF9.out.below HB8.out)
       replace HS6 := Lib.hid (HS6.out.below HB8.out)
       replace HS7 := Lib.hid (HS7.out.below HB8.out)
       replace HROW1 := Lib.hid (HROW1.out.below HB8.out)
       have HFW : Hid (Fb < wc.heap.size) := HF9.out.2.2
       clear HB7 HB8 b0 l0 l2 HLC
       have hq := HQA.out
       have x0 := HXC.out.at 0 _ rfl
       have x1 := HXC.out.at 1 _ rfl
       by_cases hk : kind = 2
       ·have dk : (kind == 2) = true := by rw [hk]; rfl
        rw [if_pos hk] at hq
        by_cases hm : mayP sz a = 0
        ·have HQR : Hid ((((0, 0), 0), wrM ws a x, s1) = R) := by rw [Hid, ← hq, if_pos hm]
         have D7 : Hid (∀ w', Below w.heap.size w w' → Calls Tryz.prog 31 #[.agg #[.int .u64 sz, .slice A1 ws.length c1], .int .u64 (a : Nat), .int .u64 x] w' fun e w'' => ∃ A8 c8, e = .returned (.tuple #[.agg #[.int .u64 sz, .slice A8 (wrM ws a x).length c8], .int .i64 0]) ∧ RowAt w'' (fun k => w'.heap.size ≤ k) 2 (.slice A8 (wrM ws a x).length c8) (wrM ws a x).length (rowL wL (wrM ws a x)) ∧ Below w'.heap.size w' w'') := fun w' hb => (D5.out w' hb).mono fun e w'' h => by
          rcases h.1 with h2 | h2
          ·exact absurd hm h2.1
          ·obtain ⟨_, A8, c8, h3, h4⟩ := h2; exact ⟨A8, c8, h3, h4, h.2⟩
         clear hq hm hk D5 D6 HQA
         have dk2 := dk
         go_upto_region 19 with (go_at_call 31; refine (D7.out _ HB9.out).mono ?_; rintro e w9 ⟨A8, c8, rfl, hrow8, hb9⟩; have HROW8 := Lib.hid hrow8; have HBW9 := Lib.hid hb9; have HX9 := Lib.hid (HXC.out.below hb9); clear x0 x1 hrow8 hb9; have x0 := HX9.out.at 0 _ rfl; have x1 := HX9.out.at 1 _ rfl; have fx := HX9.out.2.1; have zx := HX9.out.2.2)
         generalize hY9 : World.setCell _ _ _ = Y9
         have hz1 := HLZ.out
         have hz2 := HLF.out
         have hz3 := HFW.out
         have HXY : Hid (Box Y9 w.heap.size (xC sz most root asid true (.slice A8 (wrM ws a x).length c8) (.slice A6 s1.es.length c6) (.slice A7 s1.ks.length c7) (.slice A4 n4 c4))) := by rw [← hY9]; exact (HX9.out.setAt 0 (by simp [xC]) (.int .u64 sz)).setAt 1 (by simp [xC]) _
         replace H6B : Hid (Box Y9 (w.heap.size + 2) (xC 0 0 0 0 false (.slice none 0 0) (.slice none 0 0) (.slice none 0 0) (.slice none 0 0))) := by rw [← hY9]; exact ((H6B.out.below HBW9.out).far (by omega) 0 _).far (by omega) 1 _
         replace H7B : Hid (Box Y9 (w.heap.size + 3) [.int .i64 0, .int .i64 0]) := by rw [← hY9]; exact ((H7B.out.below HBW9.out).far (by omega) 0 _).far (by omega) 1 _
         have HFY : Hid (Box Y9 Fb [.int .i64 0, .int .i64 0]) := by rw [← hY9]; exact ((HF9.out.below HBW9.out).far (by omega) 0 _).far (by omega) 1 _
         have hnn : ¬ (ok w.heap.size ∨ (L < w.heap.size ∧ w.heap.size < Fb)) := fun h => by
          rcases h with h | h
          ·exact Nat.lt_irrefl _ (HOKL.out _ h)
          ·omega
         replace HS6 : Hid (RowAt Y9 (fun k => ok k ∨ (L < k ∧ k < Fb)) 10 (.slice A6 s1.es.length c6) s1.es.length (rowL eL s1.es)) := by rw [← hY9]; exact ((HS6.out.below HBW9.out).far hnn 0 _).far hnn 1 _
         replace HS7 : Hid (RowAt Y9 (fun k => ok k ∨ (L < k ∧ k < Fb)) 4 (.slice A7 s1.ks.length c7) s1.ks.length (rowL mL s1.ks)) := by rw [← hY9]; exact ((HS7.out.below HBW9.out).far hnn 0 _).far hnn 1 _
         have HBY : Hid (Below w.heap.size w Y9) := by rw [← hY9]; exact ((HB9.out.trans (HBW9.out.mono HB9.out.size)).setCell (Nat.le_refl w.heap.size) _).setCell (Nat.le_refl w.heap.size) _
         have hnf : ¬ (ok w.heap.size ∨ Fb < w.heap.size) := fun h => by
          rcases h with h | h
          ·exact Nat.lt_irrefl _ (HOKL.out _ h)
          ·omega
         have HROWY : Hid (RowAt Y9 (fun k => ok k ∨ Fb < k) 2 (.slice A8 (wrM ws a x).length c8) (wrM ws a x).length (rowL wL (wrM ws a x))) := by rw [← hY9]; exact ((HROW8.out.mono (ok2 := fun k => ok k ∨ Fb < k) (fun k _ h => .inr (by omega))).far hnf 0 _).far hnf 1 _
         clear hY9 x0 x1 fx zx hz1 hz2 hz3 hnn hnf
         have BX := HXY.out
         have x0 := BX.at 0 _ rfl
         have x1 := BX.at 1 _ rfl
         have x2 := BX.at 2 _ rfl
         have x3 := BX.at 3 _ rfl
         have x4 := BX.at 4 _ rfl
         have x5 := BX.at 5 _ rfl
         have x6 := BX.at 6 _ rfl
         have x7 := BX.at 7 _ rfl
         have x8 := BX.at 8 _ rfl
         have fx := BX.2.1
         have zx := BX.2.2
         have BY := HFY.out
         have b0 := BY.at 0 _ rfl
         have b1 := BY.at 1 _ rfl
         have zb := BY.2.2
         have BP := H6B.out
         have p0 := BP.at 0 _ rfl
         have p1 := BP.at 1 _ rfl
         have p2 := BP.at 2 _ rfl
         have p3 := BP.at 3 _ rfl
         have p4 := BP.at 4 _ rfl
         have p5 := BP.at 5 _ rfl
         have p6 := BP.at 6 _ rfl
         have p7 := BP.at 7 _ rfl
         have p8 := BP.at 8 _ rfl
         have fp := BP.2.1
         have zp := BP.2.2
         have BR := H7B.out
         have r0 := BR.at 0 _ rfl
         have r1 := BR.at 1 _ rfl
         have fr := BR.2.1
         have zr := BR.2.2
         have hne1 : ¬ Fb = w.heap.size + 1 + 1 := by have := HLF.out; have := HLZ.out; omega
         have hne2 : ¬ Fb = w.heap.size + 1 + 1 + 1 := by have := HLF.out; have := HLZ.out; omega
         have hno : ∀ k, (ok k ∨ L < k) → ¬ (k = w.heap.size + 1 + 1 ∨ k = w.heap.size + 1 + 1 + 1) := fun k h e => by
          have := HLZ.out
          rcases h with h | h
          ·have := HOKL.out k h; omega
          ·omega
         clear BX BY BP BR fx
         go_region
         all_goals
          go_wp2_with fail
          refine bodyPost_ret (v := .tuple #[xV sz most root asid true (.slice A8 (wrM ws a x).length c8) (.slice A6 s1.es.length c6) (.slice A7 s1.ks.length c7) (.slice A4 n4 c4), fV (0, 0), .int .u64 (0 : Nat)]) (by simp [results, Tryz.results11, go_sem, zp, zr, p0, p1, p2, p3, p4, p5, p6, p7, p8, r0, r1, fV, xV]) rfl ?_
          rw [set9_eq, set2_eq]
          generalize hY : World.drew _ = Y
          have hfin : Kp (fun k => k = w.heap.size + 1 + 1 ∨ k = w.heap.size + 1 + 1 + 1) Y9 Y := by
           rw [← hY]
           first
            | exact (((Kp.refl (fun k => k = w.heap.size + 1 + 1 ∨ k = w.heap.size + 1 + 1 + 1) Y9).setCells (.inl (.inl rfl)) 0 _).setCells (.inl (.inr rfl)) 0 _).drew
            | exact (((Kp.refl (fun k => k = w.heap.size + 1 + 1 ∨ k = w.heap.size + 1 + 1 + 1) Y9).setCells (.inl (.inr rfl)) 0 _).setCells (.inl (.inl rfl)) 0 _).drew
          have hro := HROWY.out
          rw [← HQR.out]
          have hz1 := HLZ.out
          have hz2 := HLF.out
          refine ⟨A8, c8, A6, c6, A7, c7, rfl, (hro.kept hfin (fun k h => hno k (h.imp id (fun h => by omega)))).mono (fun k _ h => h.imp id (fun h => by omega)), (HS6.out.kept hfin (fun k h => hno k (h.imp id (fun h => h.1)))).mono (fun k _ h => h.imp id (fun h => by omega)), (HS7.out.kept hfin (fun k h => hno k (h.imp id (fun h => h.1)))).mono (fun k _ h => h.imp id (fun h => by omega)), hfin.toBelow HBY.out HBY.out.size (fun k hk => by omega)⟩
        ·have HQR : Hid ((((0, 0), 0), ws, s1) = R) := by rw [Hid, ← hq, if_neg hm]
         obtain ⟨MM, hMM⟩ : ∃ MM, mayP sz a = MM := ⟨_, rfl⟩
         rw [hMM] at hm
         have D7 : Hid (∀ w', Below w.heap.size w w' → Calls Tryz.prog 31 #[.agg #[.int .u64 sz, .slice A1 ws.length c1], .int .u64 (a : Nat), .int .u64 x] w' fun e w'' => e = .returned (.tuple #[.agg #[.int .u64 sz, .slice A1 ws.length c1], .int .i64 MM]) ∧ Below w'.heap.size w' w'') := fun w' hb => (D5.out w' hb).mono fun e w'' h => by
          rcases h.1 with h2 | h2
          ·exact ⟨by rw [h2.2, hMM], h.2⟩
          ·exact absurd h2.1 (by rw [hMM]; exact hm)
         clear hq hm hk D5 D6 HQA hMM
         go_upto_region 19 with (go_at_call 31; refine (D7.out _ HB9.out).mono ?_; rintro e w9 ⟨rfl, hb9⟩; have HBW9 := Lib.hid hb9; have HX9 := Lib.hid (HXC.out.below hb9); clear x0 x1 hb9; have x0 := HX9.out.at 0 _ rfl; have x1 := HX9.out.at 1 _ rfl; have fx := HX9.out.2.1; have zx := HX9.out.2.2)
         generalize hY9 : World.setCell _ _ _ = Y9
         have hz1 := HLZ.out
         have hz2 := HLF.out
         have hz3 := HFW.out
         have HXY : Hid (Box Y9 w.heap.size (xC sz most root asid true (.slice A1 ws.length c1) (.slice A6 s1.es.length c6) (.slice A7 s1.ks.length c7) (.slice A4 n4 c4))) := by rw [← hY9]; exact (HX9.out.setAt 0 (by simp [xC]) (.int .u64 sz)).setAt 1 (by simp [xC]) _
         replace H6B : Hid (Box Y9 (w.heap.size + 2) (xC 0 0 0 0 false (.slice none 0 0) (.slice none 0 0) (.slice none 0 0) (.slice none 0 0))) := by rw [← hY9]; exact ((H6B.out.below HBW9.out).far (by omega) 0 _).far (by omega) 1 _
         replace H7B : Hid (Box Y9 (w.heap.size + 3) [.int .i64 0, .int .i64 0]) := by rw [← hY9]; exact ((H7B.out.below HBW9.out).far (by omega) 0 _).far (by omega) 1 _
         have HFY : Hid (Box Y9 Fb [.int .i64 0, .int .i64 0]) := by rw [← hY9]; exact ((HF9.out.below HBW9.out).far (by omega) 0 _).far (by omega) 1 _
         have hnn : ¬ (ok w.heap.size ∨ (L < w.heap.size ∧ w.heap.size < Fb)) := fun h => by
          rcases h with h | h
          ·exact Nat.lt_irrefl _ (HOKL.out _ h)
          ·omega
         replace HS6 : Hid (RowAt Y9 (fun k => ok k ∨ (L < k ∧ k < Fb)) 10 (.slice A6 s1.es.length c6) s1.es.length (rowL eL s1.es)) := by rw [← hY9]; exact ((HS6.out.below HBW9.out).far hnn 0 _).far hnn 1 _
         replace HS7 : Hid (RowAt Y9 (fun k => ok k ∨ (L < k ∧ k < Fb)) 4 (.slice A7 s1.ks.length c7) s1.ks.length (rowL mL s1.ks)) := by rw [← hY9]; exact ((HS7.out.below HBW9.out).far hnn 0 _).far hnn 1 _
         have HBY : Hid (Below w.heap.size w Y9) := by rw [← hY9]; exact ((HB9.out.trans (HBW9.out.mono HB9.out.size)).setCell (Nat.le_refl w.heap.size) _).setCell (Nat.le_refl w.heap.size) _
         have hnf : ¬ (ok w.heap.size ∨ Fb < w.heap.size) := fun h => by
          rcases h with h | h
          ·exact Nat.lt_irrefl _ (HOKL.out _ h)
          ·omega
         have HROWY : Hid (RowAt Y9 (fun k => ok k ∨ Fb < k) 2 (.slice A1 ws.length c1) ws.length (rowL wL ws)) := by rw [← hY9]; exact ((HROW1.out.below HBW9.out).far hnf 0 _).far hnf 1 _
         clear hY9 x0 x1 fx zx hz1 hz2 hz3 hnn hnf
         have BX := HXY.out
         have x0 := BX.at 0 _ rfl
         have x1 := BX.at 1 _ rfl
         have x2 := BX.at 2 _ rfl
         have x3 := BX.at 3 _ rfl
         have x4 := BX.at 4 _ rfl
         have x5 := BX.at 5 _ rfl
         have x6 := BX.at 6 _ rfl
         have x7 := BX.at 7 _ rfl
         have x8 := BX.at 8 _ rfl
         have fx := BX.2.1
         have zx := BX.2.2
         have BY := HFY.out
         have b0 := BY.at 0 _ rfl
         have b1 := BY.at 1 _ rfl
         have zb := BY.2.2
         have BP := H6B.out
         have p0 := BP.at 0 _ rfl
         have p1 := BP.at 1 _ rfl
         have p2 := BP.at 2 _ rfl
         have p3 := BP.at 3 _ rfl
         have p4 := BP.at 4 _ rfl
         have p5 := BP.at 5 _ rfl
         have p6 := BP.at 6 _ rfl
         have p7 := BP.at 7 _ rfl
         have p8 := BP.at 8 _ rfl
         have fp := BP.2.1
         have zp := BP.2.2
         have BR := H7B.out
         have r0 := BR.at 0 _ rfl
         have r1 := BR.at 1 _ rfl
         have fr := BR.2.1
         have zr := BR.2.2
         have hne1 : ¬ Fb = w.heap.size + 1 + 1 := by have := HLF.out; have := HLZ.out; omega
         have hne2 : ¬ Fb = w.heap.size + 1 + 1 + 1 := by have := HLF.out; have := HLZ.out; omega
         have hno : ∀ k, (ok k ∨ L < k) → ¬ (k = w.heap.size + 1 + 1 ∨ k = w.heap.size + 1 + 1 + 1) := fun k h e => by
          have := HLZ.out
          rcases h with h | h
          ·have := HOKL.out k h; omega
          ·omega
         clear BX BY BP BR fx
         go_region
         all_goals
          go_wp2_with fail
          refine bodyPost_ret (v := .tuple #[xV sz most root asid true (.slice A1 ws.length c1) (.slice A6 s1.es.length c6) (.slice A7 s1.ks.length c7) (.slice A4 n4 c4), fV (0, 0), .int .u64 (0 : Nat)]) (by simp [results, Tryz.results11, go_sem, zp, zr, p0, p1, p2, p3, p4, p5, p6, p7, p8, r0, r1, fV, xV]) rfl ?_
          rw [set9_eq, set2_eq]
          generalize hY : World.drew _ = Y
          have hfin : Kp (fun k => k = w.heap.size + 1 + 1 ∨ k = w.heap.size + 1 + 1 + 1) Y9 Y := by
           rw [← hY]
           first
            | exact (((Kp.refl (fun k => k = w.heap.size + 1 + 1 ∨ k = w.heap.size + 1 + 1 + 1) Y9).setCells (.inl (.inl rfl)) 0 _).setCells (.inl (.inr rfl)) 0 _).drew
            | exact (((Kp.refl (fun k => k = w.heap.size + 1 + 1 ∨ k = w.heap.size + 1 + 1 + 1) Y9).setCells (.inl (.inr rfl)) 0 _).setCells (.inl (.inl rfl)) 0 _).drew
          have hro := HROWY.out
          rw [← HQR.out]
          have hz1 := HLZ.out
          have hz2 := HLF.out
          refine ⟨A1, c1, A6, c6, A7, c7, rfl, (hro.kept hfin (fun k h => hno k (h.imp id (fun h => by omega)))).mono (fun k _ h => h.imp id (fun h => by omega)), (HS6.out.kept hfin (fun k h => hno k (h.imp id (fun h => h.1)))).mono (fun k _ h => h.imp id (fun h => by omega)), (HS7.out.kept hfin (fun k h => hno k (h.imp id (fun h => h.1)))).mono (fun k _ h => h.imp id (fun h => by omega)), hfin.toBelow HBY.out HBY.out.size (fun k hk => by omega)⟩
       ·have dk : (kind == 2) = false := by simp [hk]
        rw [if_neg hk] at hq
        obtain ⟨V, hV⟩ : ∃ V, (if mayP sz a = 0 then rdM ws a else 0) = V := ⟨_, rfl⟩
        rw [hV] at hq D6
        have HQR : Hid ((((0, 0), V), ws, s1) = R) := hq
        clear hq hk hV D5 HQA
        go_upto_region 21 with (go_at_call 38; refine (D6.out _ HB9.out).mono ?_; rintro e w9 ⟨rfl, hb9⟩; have HBW9 := Lib.hid hb9; clear hb9)
        have HB10 : Hid (Below w.heap.size w w9) := HB9.out.trans (HBW9.out.mono HB9.out.size)
        replace HXC := Lib.hid (HXC.out.below HBW9.out)
        replace H6B := Lib.hid (H6B.out.below HBW9.out)
        replace H7B := Lib.hid (H7B.out.below HBW9.out)
        replace HF9 := Lib.hid (HF9.out.below HBW9.out)
        replace HS6 := Lib.hid (HS6.out.below HBW9.out)
        replace HS7 := Lib.hid (HS7.out.below HBW9.out)
        replace HROW1 := Lib.hid (HROW1.out.below HBW9.out)
        clear x0 x1
        have BX := HXC.out
        have x0 := BX.at 0 _ rfl
        have x1 := BX.at 1 _ rfl
        have x2 := BX.at 2 _ rfl
        have x3 := BX.at 3 _ rfl
        have x4 := BX.at 4 _ rfl
        have x5 := BX.at 5 _ rfl
        have x6 := BX.at 6 _ rfl
        have x7 := BX.at 7 _ rfl
        have x8 := BX.at 8 _ rfl
        have fx := BX.2.1
        have zx := BX.2.2
        have BY := HF9.out
        have b0 := BY.at 0 _ rfl
        have b1 := BY.at 1 _ rfl
        have zb := BY.2.2
        have BP := H6B.out
        have p0 := BP.at 0 _ rfl
        have p1 := BP.at 1 _ rfl
        have p2 := BP.at 2 _ rfl
        have p3 := BP.at 3 _ rfl
        have p4 := BP.at 4 _ rfl
        have p5 := BP.at 5 _ rfl
        have p6 := BP.at 6 _ rfl
        have p7 := BP.at 7 _ rfl
        have p8 := BP.at 8 _ rfl
        have fp := BP.2.1
        have zp := BP.2.2
        have BR := H7B.out
        have r0 := BR.at 0 _ rfl
        have r1 := BR.at 1 _ rfl
        have fr := BR.2.1
        have zr := BR.2.2
        have hne1 : ¬ Fb = w.heap.size + 1 + 1 := by have := HLF.out; have := HLZ.out; omega
        have hne2 : ¬ Fb = w.heap.size + 1 + 1 + 1 := by have := HLF.out; have := HLZ.out; omega
        have hno : ∀ k, (ok k ∨ L < k) → ¬ (k = w.heap.size + 1 + 1 ∨ k = w.heap.size + 1 + 1 + 1) := fun k h e => by
         have := HLZ.out
         rcases h with h | h
         ·have := HOKL.out k h; omega
         ·omega
        clear BX BY BP BR fx
        go_region
        all_goals
         go_wp2_with fail
         refine bodyPost_ret (v := .tuple #[xV sz most root asid true (.slice A1 ws.length c1) (.slice A6 s1.es.length c6) (.slice A7 s1.ks.length c7) (.slice A4 n4 c4), fV (0, 0), .int .u64 (V : Nat)]) (by simp [results, Tryz.results11, go_sem, zp, zr, p0, p1, p2, p3, p4, p5, p6, p7, p8, r0, r1, fV, xV]) rfl ?_
         rw [set9_eq, set2_eq]
         generalize hY : World.drew _ = Y
         have hfin : Kp (fun k => k = w.heap.size + 1 + 1 ∨ k = w.heap.size + 1 + 1 + 1) w9 Y := by
          rw [← hY]
          first
           | exact (((Kp.refl (fun k => k = w.heap.size + 1 + 1 ∨ k = w.heap.size + 1 + 1 + 1) w9).setCells (.inl (.inl rfl)) 0 _).setCells (.inl (.inr rfl)) 0 _).drew
           | exact (((Kp.refl (fun k => k = w.heap.size + 1 + 1 ∨ k = w.heap.size + 1 + 1 + 1) w9).setCells (.inl (.inr rfl)) 0 _).setCells (.inl (.inl rfl)) 0 _).drew
         have hro := HROW1.out
         rw [← HQR.out]
         have hz1 := HLZ.out
         have hz2 := HLF.out
         refine ⟨A1, c1, A6, c6, A7, c7, rfl, (hro.kept hfin (fun k h => hno k (h.imp id (fun h => by omega)))).mono (fun k _ h => h.imp id (fun h => by omega)), (HS6.out.kept hfin (fun k h => hno k (h.imp id (fun h => h.1)))).mono (fun k _ h => h.imp id (fun h => by omega)), (HS7.out.kept hfin (fun k h => hno k (h.imp id (fun h => h.1)))).mono (fun k _ h => h.imp id (fun h => by omega)), hfin.toBelow HB10.out HB10.out.size (fun k hk => by omega)⟩
     ·have d9 : ((g1 : Int) != 0) = true := by simp; omega
      have hq := HQ9.out
      unfold accF at hq
      rw [if_neg (fun h => hg (Prod.mk.inj h).1)] at hq
      have HQR : Hid ((((g1, g2), 0), ws, s1) = R) := hq
      clear hq hg HQ9
      go_upto_region 15 with fail
      have BX := HXC.out
      have x0 := BX.at 0 _ rfl
      have x1 := BX.at 1 _ rfl
      have x2 := BX.at 2 _ rfl
      have x3 := BX.at 3 _ rfl
      have x4 := BX.at 4 _ rfl
      have x5 := BX.at 5 _ rfl
      have x6 := BX.at 6 _ rfl
      have x7 := BX.at 7 _ rfl
      have x8 := BX.at 8 _ rfl
      have fx := BX.2.1
      have zx := BX.2.2
      have BY := HF9.out
      have b0 := BY.at 0 _ rfl
      have b1 := BY.at 1 _ rfl
      have zb := BY.2.2
      have BP := H6B.out
      have p0 := BP.at 0 _ rfl
      have p1 := BP.at 1 _ rfl
      have p2 := BP.at 2 _ rfl
      have p3 := BP.at 3 _ rfl
      have p4 := BP.at 4 _ rfl
      have p5 := BP.at 5 _ rfl
      have p6 := BP.at 6 _ rfl
      have p7 := BP.at 7 _ rfl
      have p8 := BP.at 8 _ rfl
      have fp := BP.2.1
      have zp := BP.2.2
      have BR := H7B.out
      have r0 := BR.at 0 _ rfl
      have r1 := BR.at 1 _ rfl
      have fr := BR.2.1
      have zr := BR.2.2
      have hne1 : ¬ Fb = w.heap.size + 1 + 1 := by have := HLF.out; have := HLZ.out; omega
      have hne2 : ¬ Fb = w.heap.size + 1 + 1 + 1 := by have := HLF.out; have := HLZ.out; omega
      have hno : ∀ k, (ok k ∨ L < k) → ¬ (k = w.heap.size + 1 + 1 ∨ k = w.heap.size + 1 + 1 + 1) := fun k h e => by
       have := HLZ.out
       rcases h with h | h
       ·have := HOKL.out k h; omega
       ·omega
      clear BX BY BP BR fx
      go_region
      all_goals
       go_wp2_with fail
       refine bodyPost_ret (v := .tuple #[xV sz most root asid true (.slice A1 ws.length c1) (.slice A6 s1.es.length c6) (.slice A7 s1.ks.length c7) (.slice A4 n4 c4), fV (g1, g2), .int .u64 (0 : Nat)]) (by simp [results, Tryz.results11, go_sem, zp, zr, p0, p1, p2, p3, p4, p5, p6, p7, p8, r0, r1, fV, xV]) rfl ?_
       rw [set9_eq, set2_eq]
       generalize hY : World.drew _ = Y
       have hfin : Kp (fun k => k = w.heap.size + 1 + 1 ∨ k = w.heap.size + 1 + 1 + 1) wc Y := by
        rw [← hY]
        first
         | exact (((Kp.refl (fun k => k = w.heap.size + 1 + 1 ∨ k = w.heap.size + 1 + 1 + 1) wc).setCells (.inl (.inl rfl)) 0 _).setCells (.inl (.inr rfl)) 0 _).drew
         | exact (((Kp.refl (fun k => k = w.heap.size + 1 + 1 ∨ k = w.heap.size + 1 + 1 + 1) wc).setCells (.inl (.inr rfl)) 0 _).setCells (.inl (.inl rfl)) 0 _).drew
       have hro := HROW1.out
       rw [← HQR.out]
       have hz1 := HLZ.out
       have hz2 := HLF.out
       refine ⟨A1, c1, A6, c6, A7, c7, rfl, (hro.kept hfin (fun k h => hno k (h.imp id (fun h => by omega)))).mono (fun k _ h => h.imp id (fun h => by omega)), (HS6.out.kept hfin (fun k h => hno k (h.imp id (fun h => h.1)))).mono (fun k _ h => h.imp id (fun h => by omega)), (HS7.out.kept hfin (fun k h => hno k (h.imp id (fun h => h.1)))).mono (fun k _ h => h.imp id (fun h => by omega)), hfin.toBelow HB7.out HB7.out.size (fun k hk => by omega)⟩
 ·have d8 : ((va : Int) % 8 != 0) = true := by simp; omega
  have hr := HR.out
  rw [if_neg h8] at hr
  have HQ : Hid ((((5, 0), 0), ws, ⟨sz, rdM ws, most, es, ks, some (root, asid)⟩) = R) := hr
  clear hr h8
  have BX := HXB.out
  have x0 := BX.at 0 _ rfl
  have x1 := BX.at 1 _ rfl
  have x2 := BX.at 2 _ rfl
  have x3 := BX.at 3 _ rfl
  have x4 := BX.at 4 _ rfl
  have x5 := BX.at 5 _ rfl
  have x6 := BX.at 6 _ rfl
  have x7 := BX.at 7 _ rfl
  have x8 := BX.at 8 _ rfl
  have fx := BX.2.1
  have zx := BX.2.2
  have BP := H6B.out
  have p0 := BP.at 0 _ rfl
  have p1 := BP.at 1 _ rfl
  have p2 := BP.at 2 _ rfl
  have p3 := BP.at 3 _ rfl
  have p4 := BP.at 4 _ rfl
  have p5 := BP.at 5 _ rfl
  have p6 := BP.at 6 _ rfl
  have p7 := BP.at 7 _ rfl
  have p8 := BP.at 8 _ rfl
  have fp := BP.2.1
  have zp := BP.2.2
  have BR := H7B.out
  have r0 := BR.at 0 _ rfl
  have r1 := BR.at 1 _ rfl
  have fr := BR.2.1
  have zr := BR.2.2
  clear BX BP BR fx
  go_wp2
  refine bodyPost_ret (v := .tuple #[xV sz most root asid true (.slice A1 ws.length c1) (.slice A2 es.length c2) (.slice A3 ks.length c3) (.slice A4 n4 c4), fV (5, 0), .int .u64 0]) (by simp [results, Tryz.results11, go_sem, zp, zr, p0, p1, p2, p3, p4, p5, p6, p7, p8, r0, r1, fV, xV]) rfl ?_
  rw [← HQ.out]
  have hkp : ∀ l1 u1 u2, Kp (fun k => k = w.heap.size + 1 + 1 ∨ k = w.heap.size + 1 + 1 + 1) W (((W).setCells (w.heap.size + 1 + 1) 0 l1).setCell ⟨w.heap.size + 1 + 1 + 1, 0, none⟩ u1 |>.setCell ⟨w.heap.size + 1 + 1 + 1, 1, none⟩ u2) := fun l1 u1 u2 => (((Kp.refl (fun k => k = w.heap.size + 1 + 1 ∨ k = w.heap.size + 1 + 1 + 1) W).setCells (.inl (.inl rfl)) 0 l1).setCell (.inl (.inr rfl)) _).setCell (.inl (.inr rfl)) _
  rw [set9_eq]
  generalize hY : World.setCell _ _ _ = Y
  have hbel : Below w.heap.size w Y := by rw [← hY]; exact Kp.toBelow (hkp _ _ _) HB0.out HB0.out.size (fun k hk => by omega)
  exact ⟨A1, c1, A2, c2, A3, c3, rfl, (H1.out.below hbel).mono (fun k _ h => .inl h), (H2.out.below hbel).mono (fun k _ h => .inl h), (H3.out.below hbel).mono (fun k _ h => .inl h), hbel⟩
end Go.Proofs.YtbapgngngaaojaaGreat
