/- The walk of tlb.Fill. The walk of the third reference's Write. -/
import Derived.Test.YtbapgngngaaojaaGreatG09
import Derived.Test.YtbapgngngaaojaaGreatG08
import Derived.Deep.DeepCutAuto
set_option linter.unusedSimpArgs false
set_option linter.unusedVariables false
namespace Go.Proofs.YtbapgngngaaojaaGreat
open Go.RowKit Go.Lib
set_option maxRecDepth 100000
/-- An entry that may be. -/
def okE (x : Ent) : Prop := x.asid < 256 ∧ 1 ≤ x.level ∧ x.level ≤ 3 ∧ x.va < 281474976710656 ∧ baseP x.va x.level = x.va ∧ (x.d.kind = 2 ∨ x.d.kind = 3) ∧ rightL x.d x.level = true ∧ x.d.used = true
def fillP (most : Nat) (l : List Ent) (x : Ent) : List Ent := if x ∈ l then l else if most < l.length + 1 then (l ++ [x]).eraseIdx 0 else l ++ [x]
def FillPost (F : Nat → Prop) (p most : Nat) (l : List Ent) (w : World) (e : Ending) (w' : World) : Prop :=
 e = .returned (.int .i64 0) ∧ ListAt eL 10 (Gr F w w') p most l w' ∧ Kp (WkF F p) w w'
theorem ListAt.fin {α : Type} {f : α → List Value} {sz : Nat} {F : Nat → Prop} {p most : Nat} {l l' : List α} {v : Value} {w W : World} (h : ListAt f sz F p most l w) (hk : Kp (WkF F p) w W)
  (c0 : W.cell? ⟨p, 0, none⟩ = some (.int .i64 most)) (f1 : W.frozen? ⟨p, 1, none⟩ = false) (c1 : W.cell? ⟨p, 1, none⟩ = some v) (hr : RowAt W (fun k => F k ∨ w.heap.size ≤ k) sz v l'.length (rowL f l')) : ListAt f sz (Gr F w W) p most l' W :=
 ⟨Gr.not h.1 h.lt, Gr.lt h.2.1 hk.size, c0, f1, v, c1, hr.mono (fun k hk h => h.imp id (fun x => ⟨x, hk⟩))⟩
theorem list_new {α : Type} {f : α → List Value} {sz : Nat} {F : Nat → Prop} {p most : Nat} {l : List α} {w : World} (h : ListAt f sz F p most l w) (j : Nat) : ¬ WkF F p (w.heap.size + j) := fun x => by
 rcases x with x | x
 ·have := h.lt; omega
 ·have := h.2.1 _ x; omega
theorem row_some {w : World} {ok : Nat → Prop} {sz n : Nat} {A : Option Addr} {c : Nat} {cs : List Value} (h : RowAt w ok sz (.slice A n c) n cs) (hn : 0 < n) : ∃ g o, A = some ⟨g, o, none⟩ ∧ n ≤ c := by
 rcases h.2 with ⟨e, h0⟩ | ⟨g, o, cap, e, _, _, h3, _⟩
 ·omega
 ·obtain ⟨rfl, _, rfl⟩ := Value.slice.inj e; exact ⟨g, o, rfl, h3⟩
/-- The row's new value is stored into the object. -/
theorem list_put' {α : Type} {f : α → List Value} {sz : Nat} {F ok : Nat → Prop} {p most n c nq : Nat} {l l' : List α} {A : Option Addr} {old : Value} {w W5 : World} (h : ListAt f sz F p most l w) (hK1 : Kp (WkF F p) w W5) (k0 : W5.cell? ⟨p, 0, none⟩ = some (.int .i64 most)) (k1 : W5.cell? ⟨p, 1, none⟩ = some old) (kf : W5.frozen? ⟨p, 1, none⟩ = false) (hn : n = l'.length)
  (hok : ∀ k, ok k → F k ∨ w.heap.size ≤ k) (hrow : RowAt W5 ok sz (.slice A n c) n (rowL f l')) :
  ListAt f sz (Gr F w ((W5.setCell ⟨p, 1, none⟩ (.slice A n c)).drewN nq)) p most l' ((W5.setCell ⟨p, 1, none⟩ (.slice A n c)).drewN nq) ∧ Kp (WkF F p) w ((W5.setCell ⟨p, 1, none⟩ (.slice A n c)).drewN nq) := by
 subst hn
 have hK2 : Kp (WkF F p) w (W5.setCell ⟨p, 1, none⟩ (.slice A l'.length c)) := hK1.setCell (.inl (.inl rfl)) _
 have hK3 := hK2.drewN nq
 refine ⟨h.fin hK3 ?_ ?_ (World.cell?_setCell_same _ _ _ k1) ?_, hK3⟩
 ·show (W5.setCell _ _).cell? _ = _
  rw [World.cell?_setCell_other _ _ _ _ (fun e => by injection e with _ e2 _; cases e2)]; exact k0
 ·show (W5.setCell _ _).frozen? _ = _
  rw [World.frozen?_setCell]; exact kf
 ·have hp : ∀ k, ok k → ¬ k = p := fun k hk e => by
   subst e
   rcases hok k hk with x | x
   ·exact h.1 x
   ·have := h.lt; omega
  have h1 := hrow.kept ((Kp.refl (fun k => k = p) W5).setCell (p := ⟨p, 1, none⟩) (.inl rfl) (Value.slice A l'.length c)) hp
  exact h1.mono (fun k _ x => hok k x)
theorem list_put {α : Type} {f : α → List Value} {sz : Nat} {F ok : Nat → Prop} {p most n c nq : Nat} {l l' : List α} {A : Option Addr} {w w5 W5 : World} (h : ListAt f sz F p most l w) (hb : Below w.heap.size w w5) (hk : Kp F w5 W5) (hn : n = l'.length)
  (hok : ∀ k, ok k → F k ∨ w.heap.size ≤ k) (hrow : RowAt W5 ok sz (.slice A n c) n (rowL f l')) :
  ListAt f sz (Gr F w ((W5.setCell ⟨p, 1, none⟩ (.slice A n c)).drewN nq)) p most l' ((W5.setCell ⟨p, 1, none⟩ (.slice A n c)).drewN nq) ∧ Kp (WkF F p) w ((W5.setCell ⟨p, 1, none⟩ (.slice A n c)).drewN nq) := by
 obtain ⟨A0, c0', c0, f1, c1, _⟩ := h.open
 have hK1 : Kp F w W5 := (Kp.ofBelow hb).trans hk (fun i x => .inl x)
 exact list_put' h (hK1.mono (fun i x => .inr x)) (hK1.cell c0 h.1) (hK1.cell c1 h.1) ((hK1.frozen h.lt h.1).trans f1) hn hok hrow
theorem del_call {ok : Nat → Prop} {p n g1 o1 c nq : Nat} {l' : List Ent} {v : Value} {W5 : World} (hpn : ¬ ok p) (hn : n = l'.length) (h1 : 2 ≤ n) (h2 : n ≤ 1000) (hc : n ≤ c) (hrow : RowAt W5 ok 10 (.slice (some ⟨g1, o1, none⟩) n c) n (rowL eL l')) :
  Calls Tryz.prog 112 #[.slice (some ⟨g1, o1, none⟩) n c, .int .i64 0, .int .i64 1] ((W5.setCell ⟨p, 1, none⟩ v).drewN nq) (DelPost ok (l'.eraseIdx 0) ((W5.setCell ⟨p, 1, none⟩ v).drewN nq)) := by
 subst hn
 have hk : Kp (fun k => k = p) W5 ((W5.setCell ⟨p, 1, none⟩ v).drewN nq) := ((Kp.refl (fun k => k = p) W5).setCell (p := ⟨p, 1, none⟩) (.inl rfl) v).drewN nq
 exact edelete_nat l' 0 _ h2 (by omega) (by omega) (hrow.kept hk (fun k x e => hpn (e ▸ x)))
set_option maxHeartbeats 1000000 in
theorem fill_has {F : Nat → Prop} {p most : Nat} {l : List Ent} {w : World} (h : ListAt eL 10 F p most l w) (hn : l.length ≤ 900) (x : Ent) (hx : okE x) (hm : decide (x ∈ l) = true) :
  Calls Tryz.prog 110 #[.pointer (some ⟨p, 0, none⟩), eV x] w (FillPost F p most l w) := by
 replace hn : l.length ≤ 1000 := by omega
 have HL := Lib.hid h
 have HN := Lib.hid hn
 obtain ⟨xa, xv, xl, ⟨xk, xo, x1, x2, x3, x4, xt⟩⟩ := x
 obtain ⟨o1, o2, o3, o4, o5, o6, o7, o8⟩ := hx
 dsimp only at o1 o2 o3 o4 o5 o6 o7 o8
 subst o8
 have C1 := Lib.hid (fun w => entry_right xa xv xl xk xo xt x1 x2 x3 w o1 o2 o3 o4 o5 o6 o7)
 obtain ⟨A0, c0', c0, f1, c1, hrow⟩ := h.open
 have C2 : Hid (∀ w', Below w.heap.size w w' → Calls Tryz.prog 139 #[.slice A0 l.length c0', eV ⟨xa, xv, xl, ⟨xk, xo, x1, x2, x3, true, xt⟩⟩] w' fun e w'' => e = .returned (.bool true) ∧ Below w'.heap.size w' w'') := fun w' hb => by
  have h2 := econtains_nat l ⟨xa, xv, xl, ⟨xk, xo, x1, x2, x3, true, xt⟩⟩ w' hn (hrow.below hb)
  rw [hm] at h2
  exact h2
 dsimp only [eV] at C2 ⊢
 have HR := Lib.hid hrow
 have hplt := HL.out.lt
 clear hrow h hm o1 o2 o3 o4 o5 o6 o7 hn
 go_enter Tryz.func110, Tryz.ntmps110
 go_wp2_with fail
 generalize hW : World.alloc _ _ = W
 have m0 : W.cell? ⟨w.heap.size, 0, none⟩ = some (.int .i64 xa) := by rw [← hW]; simp
 have m1 : W.cell? ⟨w.heap.size, 1, none⟩ = some (.int .u64 xv) := by rw [← hW]; simp
 have m2 : W.cell? ⟨w.heap.size, 2, none⟩ = some (.int .i64 xl) := by rw [← hW]; simp
 have m3 : W.cell? ⟨w.heap.size, 3, none⟩ = some (.int .i64 xk) := by rw [← hW]; simp
 have m4 : W.cell? ⟨w.heap.size, 4, none⟩ = some (.int .u64 xo) := by rw [← hW]; simp
 have m5 : W.cell? ⟨w.heap.size, 5, none⟩ = some (.bool x1) := by rw [← hW]; simp
 have m6 : W.cell? ⟨w.heap.size, 6, none⟩ = some (.bool x2) := by rw [← hW]; simp
 have m7 : W.cell? ⟨w.heap.size, 7, none⟩ = some (.bool x3) := by rw [← hW]; simp
 have m8 : W.cell? ⟨w.heap.size, 8, none⟩ = some (.bool true) := by rw [← hW]; simp
 have m9 : W.cell? ⟨w.heap.size, 9, none⟩ = some (.int .i64 xt) := by rw [← hW]; simp
 have HB0 : Hid (Below w.heap.size w W) := by rw [← hW]; exact below1 w _
 have hz0 : W.heap.size = w.heap.size + 1 := by rw [← hW]; simp
 have HZ0 := Lib.hid hz0
 clear hz0 hW
 refine (C1.out _).mono ?_
 rintro e w1 ⟨rfl, hb1⟩
 replace m0 := keep_cell hb1 m0
 replace m1 := keep_cell hb1 m1
 replace m2 := keep_cell hb1 m2
 replace m3 := keep_cell hb1 m3
 replace m4 := keep_cell hb1 m4
 replace m5 := keep_cell hb1 m5
 replace m6 := keep_cell hb1 m6
 replace m7 := keep_cell hb1 m7
 replace m8 := keep_cell hb1 m8
 replace m9 := keep_cell hb1 m9
 have HB1 : Hid (Below w.heap.size w w1) := HB0.out.trans (hb1.mono HB0.out.size)
 have HZ1 : Hid (w.heap.size + 1 ≤ w1.heap.size) := by have := hb1.size; have := HZ0.out; show w.heap.size + 1 ≤ w1.heap.size; omega
 clear hb1 C1
 go_wp2
 have p1 := keep_cell HB1.out c1
 have hC : CtxB w1 w1 := Below.refl _ _
 go_region_held3 (fun u => u.cell? ⟨p, 1, none⟩ = some (.slice A0 l.length c0') ∧ u.cell? ⟨w.heap.size, 0, none⟩ = some (.int .i64 xa) ∧ u.cell? ⟨w.heap.size, 1, none⟩ = some (.int .u64 xv) ∧ u.cell? ⟨w.heap.size, 2, none⟩ = some (.int .i64 xl) ∧ u.cell? ⟨w.heap.size, 3, none⟩ = some (.int .i64 xk) ∧ u.cell? ⟨w.heap.size, 4, none⟩ = some (.int .u64 xo) ∧ u.cell? ⟨w.heap.size, 5, none⟩ = some (.bool x1) ∧ u.cell? ⟨w.heap.size, 6, none⟩ = some (.bool x2) ∧ u.cell? ⟨w.heap.size, 7, none⟩ = some (.bool x3) ∧ u.cell? ⟨w.heap.size, 8, none⟩ = some (.bool true) ∧ u.cell? ⟨w.heap.size, 9, none⟩ = some (.int .i64 xt) ∧ CtxB w1 u)
  (first | assumption | exact ⟨drew_cell p1, drew_cell m0, drew_cell m1, drew_cell m2, drew_cell m3, drew_cell m4, drew_cell m5, drew_cell m6, drew_cell m7, drew_cell m8, drew_cell m9, hC.drew⟩ | (go_split_ands; exact ⟨keep_cell hb5 (by assumption), keep_cell hb5 (by assumption), keep_cell hb5 (by assumption), keep_cell hb5 (by assumption), keep_cell hb5 (by assumption), keep_cell hb5 (by assumption), keep_cell hb5 (by assumption), keep_cell hb5 (by assumption), keep_cell hb5 (by assumption), keep_cell hb5 (by assumption), keep_cell hb5 (by assumption), CtxB.next (by assumption) hb5⟩))
  (first | (go_at_call 139; refine (C2.out _ (by go_split_ands; exact HB1.out.trans ((CtxB.out (by assumption)).mono HB1.out.size))).mono ?_; rintro e w5 ⟨rfl, hb5⟩))
 go_split_ands
 have HBX : Hid (Below w1.heap.size w1 w5) := CtxB.out (by assumption)
 have HB5 : Hid (Below w.heap.size w w5) := HB1.out.trans (HBX.out.mono HB1.out.size)
 go_wp2
 go_ret
 have hb := HB5.out
 exact ⟨rfl, (HL.out.below hb).mono (fun k _ h => .inl h) (Gr.not HL.out.1 hplt) (Gr.lt HL.out.2.1 hb.size), .ofBelow hb⟩
set_option maxHeartbeats 1000000 in
theorem fill_room {F : Nat → Prop} {p most : Nat} {l : List Ent} {w : World} (h : ListAt eL 10 F p most l w) (hn : l.length ≤ 900) (x : Ent) (hx : okE x) (hm : decide (x ∈ l) = false) (hmost : l.length + 1 ≤ most) (hmx : most ≤ 64) :
  Calls Tryz.prog 110 #[.pointer (some ⟨p, 0, none⟩), eV x] w (FillPost F p most (l ++ [x]) w) := by
 have HN9 := Lib.hid hn
 replace hn : l.length ≤ 1000 := by omega
 have HL := Lib.hid h
 have HN := Lib.hid hn
 obtain ⟨xa, xv, xl, ⟨xk, xo, x1, x2, x3, x4, xt⟩⟩ := x
 obtain ⟨o1, o2, o3, o4, o5, o6, o7, o8⟩ := hx
 dsimp only at o1 o2 o3 o4 o5 o6 o7 o8
 subst o8
 have C1 := Lib.hid (fun w => entry_right xa xv xl xk xo xt x1 x2 x3 w o1 o2 o3 o4 o5 o6 o7)
 obtain ⟨A0, c0', c0, f1, c1, hrow⟩ := h.open
 have C2 : Hid (∀ w', Below w.heap.size w w' → Calls Tryz.prog 139 #[.slice A0 l.length c0', eV ⟨xa, xv, xl, ⟨xk, xo, x1, x2, x3, true, xt⟩⟩] w' fun e w'' => e = .returned (.bool false) ∧ Below w'.heap.size w' w'') := fun w' hb => by
  have h2 := econtains_nat l ⟨xa, xv, xl, ⟨xk, xo, x1, x2, x3, true, xt⟩⟩ w' hn (hrow.below hb)
  rw [hm] at h2
  exact h2
 dsimp only [eV] at C2 ⊢
 have HR := Lib.hid hrow
 have hplt := HL.out.lt
 clear hrow h hm o1 o2 o3 o4 o5 o6 o7 hn
 go_enter Tryz.func110, Tryz.ntmps110
 go_wp2_with fail
 generalize hW : World.alloc _ _ = W
 have m0 : W.cell? ⟨w.heap.size, 0, none⟩ = some (.int .i64 xa) := by rw [← hW]; simp
 have m1 : W.cell? ⟨w.heap.size, 1, none⟩ = some (.int .u64 xv) := by rw [← hW]; simp
 have m2 : W.cell? ⟨w.heap.size, 2, none⟩ = some (.int .i64 xl) := by rw [← hW]; simp
 have m3 : W.cell? ⟨w.heap.size, 3, none⟩ = some (.int .i64 xk) := by rw [← hW]; simp
 have m4 : W.cell? ⟨w.heap.size, 4, none⟩ = some (.int .u64 xo) := by rw [← hW]; simp
 have m5 : W.cell? ⟨w.heap.size, 5, none⟩ = some (.bool x1) := by rw [← hW]; simp
 have m6 : W.cell? ⟨w.heap.size, 6, none⟩ = some (.bool x2) := by rw [← hW]; simp
 have m7 : W.cell? ⟨w.heap.size, 7, none⟩ = some (.bool x3) := by rw [← hW]; simp
 have m8 : W.cell? ⟨w.heap.size, 8, none⟩ = some (.bool true) := by rw [← hW]; simp
 have m9 : W.cell? ⟨w.heap.size, 9, none⟩ = some (.int .i64 xt) := by rw [← hW]; simp
 have HB0 : Hid (Below w.heap.size w W) := by rw [← hW]; exact below1 w _
 have hz0 : W.heap.size = w.heap.size + 1 := by rw [← hW]; simp
 have HZ0 := Lib.hid hz0
 clear hz0 hW
 refine (C1.out _).mono ?_
 rintro e w1 ⟨rfl, hb1⟩
 replace m0 := keep_cell hb1 m0
 replace m1 := keep_cell hb1 m1
 replace m2 := keep_cell hb1 m2
 replace m3 := keep_cell hb1 m3
 replace m4 := keep_cell hb1 m4
 replace m5 := keep_cell hb1 m5
 replace m6 := keep_cell hb1 m6
 replace m7 := keep_cell hb1 m7
 replace m8 := keep_cell hb1 m8
 replace m9 := keep_cell hb1 m9
 have HB1 : Hid (Below w.heap.size w w1) := HB0.out.trans (hb1.mono HB0.out.size)
 have HZ1 : Hid (w.heap.size + 1 ≤ w1.heap.size) := by have := hb1.size; have := HZ0.out; show w.heap.size + 1 ≤ w1.heap.size; omega
 clear hb1 C1
 go_wp2
 have p1 := keep_cell HB1.out c1
 have hC : CtxB w1 w1 := Below.refl _ _
 go_region_held3 (fun u => u.cell? ⟨p, 1, none⟩ = some (.slice A0 l.length c0') ∧ u.cell? ⟨w.heap.size, 0, none⟩ = some (.int .i64 xa) ∧ u.cell? ⟨w.heap.size, 1, none⟩ = some (.int .u64 xv) ∧ u.cell? ⟨w.heap.size, 2, none⟩ = some (.int .i64 xl) ∧ u.cell? ⟨w.heap.size, 3, none⟩ = some (.int .i64 xk) ∧ u.cell? ⟨w.heap.size, 4, none⟩ = some (.int .u64 xo) ∧ u.cell? ⟨w.heap.size, 5, none⟩ = some (.bool x1) ∧ u.cell? ⟨w.heap.size, 6, none⟩ = some (.bool x2) ∧ u.cell? ⟨w.heap.size, 7, none⟩ = some (.bool x3) ∧ u.cell? ⟨w.heap.size, 8, none⟩ = some (.bool true) ∧ u.cell? ⟨w.heap.size, 9, none⟩ = some (.int .i64 xt) ∧ CtxB w1 u)
  (first | assumption | exact ⟨drew_cell p1, drew_cell m0, drew_cell m1, drew_cell m2, drew_cell m3, drew_cell m4, drew_cell m5, drew_cell m6, drew_cell m7, drew_cell m8, drew_cell m9, hC.drew⟩ | (go_split_ands; exact ⟨keep_cell hb5 (by assumption), keep_cell hb5 (by assumption), keep_cell hb5 (by assumption), keep_cell hb5 (by assumption), keep_cell hb5 (by assumption), keep_cell hb5 (by assumption), keep_cell hb5 (by assumption), keep_cell hb5 (by assumption), keep_cell hb5 (by assumption), keep_cell hb5 (by assumption), keep_cell hb5 (by assumption), CtxB.next (by assumption) hb5⟩))
  (first | (go_at_call 139; refine (C2.out _ (by go_split_ands; exact HB1.out.trans ((CtxB.out (by assumption)).mono HB1.out.size))).mono ?_; rintro e w5 ⟨rfl, hb5⟩))
 go_split_ands
 have HBX : Hid (Below w1.heap.size w1 w5) := CtxB.out (by assumption)
 have HB5 : Hid (Below w.heap.size w w5) := HB1.out.trans (HBX.out.mono HB1.out.size)
 have q1 := keep_cell HB5.out c1
 have q0 := keep_cell HB5.out c0
 have qf : w5.frozen? ⟨p, 1, none⟩ = false := keep_frozen HB5.out hplt f1
 have hp5 : p < w5.heap.size := by have := HB5.out.size; omega
 have HR5 := Lib.hid (HR.out.below HB5.out)
 have HP := Lib.hid HL.out.1
 obtain ⟨i0, hi0, hzz0, hzz1, hzz2⟩ := info_parts infoE
 have I0 := Lib.hid hi0
 have I1 := Lib.hid hzz0
 have I2 := Lib.hid hzz1
 have I3 := Lib.hid hzz2
 have HO : Hid (∀ u ∈ [Value.int .i64 xa, .int .u64 xv, .int .i64 xl, .int .i64 xk, .int .u64 xo, .bool x1, .bool x2, .bool x3, .bool true, .int .i64 xt], u.oneCell' = true) := eL_one ⟨xa, xv, xl, ⟨xk, xo, x1, x2, x3, true, xt⟩⟩
 clear hi0 hzz0 hzz1 hzz2 hC
 go_wp2
 go_region_law ((refine step_append_row (by rfl) _ _ 113 (by rfl) 119 i0 (.agg #[.int .i64 0, .int .u64 0, .int .i64 0, .int .i64 0, .int .u64 0, .bool false, .bool false, .bool false, .bool false, .int .i64 0]) 10 56 Tryz.underlying113 I0.out I1.out I2.out I3.out rfl (by omega) F (.slice A0 l.length c0') l.length (rowL eL l) (by rfl) (by have hx9 := (HR5.out.below (below1 w5 (.cells #[.int .i64 xa, .int .u64 xv, .int .i64 xl, .int .i64 xk, .int .u64 xo, .bool x1, .bool x2, .bool x3, .bool true, .int .i64 xt] 119))).drew1; exact hx9) ⟨w5.heap.size, 0, none⟩ 1 1 [.int .i64 xa, .int .u64 xv, .int .i64 xl, .int .i64 xk, .int .u64 xo, .bool x1, .bool x2, .bool x3, .bool true, .int .i64 xt] (by rfl) (by omega) rfl (by intro j u hu; rw [Addr.add_mid]; exact range_new w5 #[.int .i64 xa, .int .u64 xv, .int .i64 xl, .int .i64 xk, .int .u64 xo, .bool x1, .bool x2, .bool x3, .bool true, .int .i64 xt] 119 j u hu) HO.out (by have := HN.out; unfold maxLen; omega) (by have := HN.out; omega) ?_; intro A1 c2 W5 hrow1 hkp1; have hkp : Hid (Kp F w5 W5) := ((((Kp.refl F w5).alloc _).drew).trans hkp1 (fun i h => .inl h)); have k1 := hkp.out.cell q1 HP.out; have k0 := hkp.out.cell q0 HP.out; have kf : W5.frozen? ⟨p, 1, none⟩ = false := (hkp.out.frozen hp5 HP.out).trans qf; have hrow2 : Hid (RowAt W5 (fun k => F k ∨ w5.heap.size + 1 ≤ k) 10 (.slice A1 (l.length + 1) c2) (l.length + 1) (rowL eL (l ++ [⟨xa, xv, xl, ⟨xk, xo, x1, x2, x3, true, xt⟩⟩]))) := (by rw [rowL_append, rowL_one]; exact hrow1.mono (fun k _ x => x.imp id (fun y => by simpa using y))); have hok : Hid (∀ k, F k ∨ w5.heap.size + 1 ≤ k → F k ∨ w.heap.size ≤ k) := (fun k x => x.imp id (fun y => by have := HB5.out.size; omega)); obtain ⟨g1, o1, hA1, hc2⟩ := row_some hrow1 (by omega); subst hA1; clear hrow1 hkp1))
 all_goals
  have d1 : decide ((most : Int) < (l.length : Int) + 1) = false := by simp; omega
  have d2 : decide (most < l.length + 1) = false := by simp; omega
  go_wp2_with fail
  go_quiet (fail)
  go_wp2
  go_ret
  obtain ⟨r1, r2⟩ := list_put (nq := nq) HL.out HB5.out hkp.out (by simp) hok.out hrow2.out
  exact ⟨rfl, r1, r2⟩
set_option maxHeartbeats 1000000 in
theorem fill_full {F : Nat → Prop} {p most : Nat} {l : List Ent} {w : World} (h : ListAt eL 10 F p most l w) (hn : l.length ≤ 900) (x : Ent) (hx : okE x) (hm : decide (x ∈ l) = false) (hmost : most < l.length + 1) (hm1 : 1 ≤ most) (hmx : most ≤ 64) :
  Calls Tryz.prog 110 #[.pointer (some ⟨p, 0, none⟩), eV x] w (FillPost F p most ((l ++ [x]).eraseIdx 0) w) := by
 have HN9 := Lib.hid hn
 replace hn : l.length ≤ 1000 := by omega
 have HL := Lib.hid h
 have HN := Lib.hid hn
 obtain ⟨xa, xv, xl, ⟨xk, xo, x1, x2, x3, x4, xt⟩⟩ := x
 obtain ⟨o1, o2, o3, o4, o5, o6, o7, o8⟩ := hx
 dsimp only at o1 o2 o3 o4 o5 o6 o7 o8
 subst o8
 have C1 := Lib.hid (fun w => entry_right xa xv xl xk xo xt x1 x2 x3 w o1 o2 o3 o4 o5 o6 o7)
 obtain ⟨A0, c0', c0, f1, c1, hrow⟩ := h.open
 have C2 : Hid (∀ w', Below w.heap.size w w' → Calls Tryz.prog 139 #[.slice A0 l.length c0', eV ⟨xa, xv, xl, ⟨xk, xo, x1, x2, x3, true, xt⟩⟩] w' fun e w'' => e = .returned (.bool false) ∧ Below w'.heap.size w' w'') := fun w' hb => by
  have h2 := econtains_nat l ⟨xa, xv, xl, ⟨xk, xo, x1, x2, x3, true, xt⟩⟩ w' hn (hrow.below hb)
  rw [hm] at h2
  exact h2
 dsimp only [eV] at C2 ⊢
 have HR := Lib.hid hrow
 have hplt := HL.out.lt
 clear hrow h hm o1 o2 o3 o4 o5 o6 o7 hn
 go_enter Tryz.func110, Tryz.ntmps110
 go_wp2_with fail
 generalize hW : World.alloc _ _ = W
 have m0 : W.cell? ⟨w.heap.size, 0, none⟩ = some (.int .i64 xa) := by rw [← hW]; simp
 have m1 : W.cell? ⟨w.heap.size, 1, none⟩ = some (.int .u64 xv) := by rw [← hW]; simp
 have m2 : W.cell? ⟨w.heap.size, 2, none⟩ = some (.int .i64 xl) := by rw [← hW]; simp
 have m3 : W.cell? ⟨w.heap.size, 3, none⟩ = some (.int .i64 xk) := by rw [← hW]; simp
 have m4 : W.cell? ⟨w.heap.size, 4, none⟩ = some (.int .u64 xo) := by rw [← hW]; simp
 have m5 : W.cell? ⟨w.heap.size, 5, none⟩ = some (.bool x1) := by rw [← hW]; simp
 have m6 : W.cell? ⟨w.heap.size, 6, none⟩ = some (.bool x2) := by rw [← hW]; simp
 have m7 : W.cell? ⟨w.heap.size, 7, none⟩ = some (.bool x3) := by rw [← hW]; simp
 have m8 : W.cell? ⟨w.heap.size, 8, none⟩ = some (.bool true) := by rw [← hW]; simp
 have m9 : W.cell? ⟨w.heap.size, 9, none⟩ = some (.int .i64 xt) := by rw [← hW]; simp
 have HB0 : Hid (Below w.heap.size w W) := by rw [← hW]; exact below1 w _
 have hz0 : W.heap.size = w.heap.size + 1 := by rw [← hW]; simp
 have HZ0 := Lib.hid hz0
 clear hz0 hW
 refine (C1.out _).mono ?_
 rintro e w1 ⟨rfl, hb1⟩
 replace m0 := keep_cell hb1 m0
 replace m1 := keep_cell hb1 m1
 replace m2 := keep_cell hb1 m2
 replace m3 := keep_cell hb1 m3
 replace m4 := keep_cell hb1 m4
 replace m5 := keep_cell hb1 m5
 replace m6 := keep_cell hb1 m6
 replace m7 := keep_cell hb1 m7
 replace m8 := keep_cell hb1 m8
 replace m9 := keep_cell hb1 m9
 have HB1 : Hid (Below w.heap.size w w1) := HB0.out.trans (hb1.mono HB0.out.size)
 have HZ1 : Hid (w.heap.size + 1 ≤ w1.heap.size) := by have := hb1.size; have := HZ0.out; show w.heap.size + 1 ≤ w1.heap.size; omega
 clear hb1 C1
 go_wp2
 have p1 := keep_cell HB1.out c1
 have hC : CtxB w1 w1 := Below.refl _ _
 go_region_held3 (fun u => u.cell? ⟨p, 1, none⟩ = some (.slice A0 l.length c0') ∧ u.cell? ⟨w.heap.size, 0, none⟩ = some (.int .i64 xa) ∧ u.cell? ⟨w.heap.size, 1, none⟩ = some (.int .u64 xv) ∧ u.cell? ⟨w.heap.size, 2, none⟩ = some (.int .i64 xl) ∧ u.cell? ⟨w.heap.size, 3, none⟩ = some (.int .i64 xk) ∧ u.cell? ⟨w.heap.size, 4, none⟩ = some (.int .u64 xo) ∧ u.cell? ⟨w.heap.size, 5, none⟩ = some (.bool x1) ∧ u.cell? ⟨w.heap.size, 6, none⟩ = some (.bool x2) ∧ u.cell? ⟨w.heap.size, 7, none⟩ = some (.bool x3) ∧ u.cell? ⟨w.heap.size, 8, none⟩ = some (.bool true) ∧ u.cell? ⟨w.heap.size, 9, none⟩ = some (.int .i64 xt) ∧ CtxB w1 u)
  (first | assumption | exact ⟨drew_cell p1, drew_cell m0, drew_cell m1, drew_cell m2, drew_cell m3, drew_cell m4, drew_cell m5, drew_cell m6, drew_cell m7, drew_cell m8, drew_cell m9, hC.drew⟩ | (go_split_ands; exact ⟨keep_cell hb5 (by assumption), keep_cell hb5 (by assumption), keep_cell hb5 (by assumption), keep_cell hb5 (by assumption), keep_cell hb5 (by assumption), keep_cell hb5 (by assumption), keep_cell hb5 (by assumption), keep_cell hb5 (by assumption), keep_cell hb5 (by assumption), keep_cell hb5 (by assumption), keep_cell hb5 (by assumption), CtxB.next (by assumption) hb5⟩))
  (first | (go_at_call 139; refine (C2.out _ (by go_split_ands; exact HB1.out.trans ((CtxB.out (by assumption)).mono HB1.out.size))).mono ?_; rintro e w5 ⟨rfl, hb5⟩))
 go_split_ands
 have HBX : Hid (Below w1.heap.size w1 w5) := CtxB.out (by assumption)
 have HB5 : Hid (Below w.heap.size w w5) := HB1.out.trans (HBX.out.mono HB1.out.size)
 have q1 := keep_cell HB5.out c1
 have q0 := keep_cell HB5.out c0
 have qf : w5.frozen? ⟨p, 1, none⟩ = false := keep_frozen HB5.out hplt f1
 have hp5 : p < w5.heap.size := by have := HB5.out.size; omega
 have HR5 := Lib.hid (HR.out.below HB5.out)
 have HP := Lib.hid HL.out.1
 obtain ⟨i0, hi0, hzz0, hzz1, hzz2⟩ := info_parts infoE
 have I0 := Lib.hid hi0
 have I1 := Lib.hid hzz0
 have I2 := Lib.hid hzz1
 have I3 := Lib.hid hzz2
 have HO : Hid (∀ u ∈ [Value.int .i64 xa, .int .u64 xv, .int .i64 xl, .int .i64 xk, .int .u64 xo, .bool x1, .bool x2, .bool x3, .bool true, .int .i64 xt], u.oneCell' = true) := eL_one ⟨xa, xv, xl, ⟨xk, xo, x1, x2, x3, true, xt⟩⟩
 clear hi0 hzz0 hzz1 hzz2 hC
 go_wp2
 go_region_law ((refine step_append_row (by rfl) _ _ 113 (by rfl) 119 i0 (.agg #[.int .i64 0, .int .u64 0, .int .i64 0, .int .i64 0, .int .u64 0, .bool false, .bool false, .bool false, .bool false, .int .i64 0]) 10 56 Tryz.underlying113 I0.out I1.out I2.out I3.out rfl (by omega) F (.slice A0 l.length c0') l.length (rowL eL l) (by rfl) (by have hx9 := (HR5.out.below (below1 w5 (.cells #[.int .i64 xa, .int .u64 xv, .int .i64 xl, .int .i64 xk, .int .u64 xo, .bool x1, .bool x2, .bool x3, .bool true, .int .i64 xt] 119))).drew1; exact hx9) ⟨w5.heap.size, 0, none⟩ 1 1 [.int .i64 xa, .int .u64 xv, .int .i64 xl, .int .i64 xk, .int .u64 xo, .bool x1, .bool x2, .bool x3, .bool true, .int .i64 xt] (by rfl) (by omega) rfl (by intro j u hu; rw [Addr.add_mid]; exact range_new w5 #[.int .i64 xa, .int .u64 xv, .int .i64 xl, .int .i64 xk, .int .u64 xo, .bool x1, .bool x2, .bool x3, .bool true, .int .i64 xt] 119 j u hu) HO.out (by have := HN.out; unfold maxLen; omega) (by have := HN.out; omega) ?_; intro A1 c2 W5 hrow1 hkp1; have hkp : Hid (Kp F w5 W5) := ((((Kp.refl F w5).alloc _).drew).trans hkp1 (fun i h => .inl h)); have k1 := hkp.out.cell q1 HP.out; have k0 := hkp.out.cell q0 HP.out; have kf : W5.frozen? ⟨p, 1, none⟩ = false := (hkp.out.frozen hp5 HP.out).trans qf; have hrow2 : Hid (RowAt W5 (fun k => F k ∨ w5.heap.size + 1 ≤ k) 10 (.slice A1 (l.length + 1) c2) (l.length + 1) (rowL eL (l ++ [⟨xa, xv, xl, ⟨xk, xo, x1, x2, x3, true, xt⟩⟩]))) := (by rw [rowL_append, rowL_one]; exact hrow1.mono (fun k _ x => x.imp id (fun y => by simpa using y))); have hok : Hid (∀ k, F k ∨ w5.heap.size + 1 ≤ k → F k ∨ w.heap.size ≤ k) := (fun k x => x.imp id (fun y => by have := HB5.out.size; omega)); obtain ⟨g1, o1, hA1, hc2⟩ := row_some hrow1 (by omega); subst hA1; clear hrow1 hkp1))
 all_goals
  have d1 : decide ((most : Int) < (l.length : Int) + 1) = true := by simp; omega
  have d2 : decide (most < l.length + 1) = true := by simp; omega
  go_wp2_with fail
  go_quiet (fail)
  have hpok : ¬ (F p ∨ w5.heap.size + 1 ≤ p) := fun x => x.elim HP.out (fun y => by omega)
  have HPO := Lib.hid hpok
  clear hpok
  go_wp2_with fail
  refine (del_call HPO.out (by simp) (by omega) (by have := HN9.out; omega) (by first | exact hc2 | omega) hrow2.out).mono ?_
  rintro e W6 ⟨A6, c6, rfl, hr6, hk6⟩
  have hKq : Hid (Kp (WkF F p) w W6) := by
   have h1 : Kp (WkF F p) w W5 := (Kp.ofBelow HB5.out).trans hkp.out (fun i x => .inl (.inr x))
   exact ((h1.setCell (p := ⟨p, 1, none⟩) (.inl (.inl rfl)) _).drewN nq).trans hk6 (fun i x => (hok.out i x).imp .inr id)
  have j0 : W6.cell? ⟨p, 0, none⟩ = some (.int .i64 most) := hk6.cell (by
   show (W5.setCell _ _).cell? _ = _
   rw [World.cell?_setCell_other _ _ _ _ (fun e => by injection e with _ e2 _; cases e2)]; exact k0) HPO.out
  have j1 : W6.cell? ⟨p, 1, none⟩ = some (.slice (some ⟨g1, o1, none⟩) (l.length + 1) c2) := hk6.cell (World.cell?_setCell_same _ _ _ k1) HPO.out
  have jf : W6.frozen? ⟨p, 1, none⟩ = false := by
   rw [hk6.frozen (by show p < (W5.setCell _ _).heap.size; rw [World.size_setCell]; have := hkp.out.size; omega) HPO.out]
   show (W5.setCell _ _).frozen? _ = _
   rw [World.frozen?_setCell]; exact kf
  have HR6 := Lib.hid hr6
  clear hr6 hk6
  generalize hl6 : (l ++ [(⟨xa, xv, xl, ⟨xk, xo, x1, x2, x3, true, xt⟩⟩ : Ent)]).eraseIdx 0 = l6 at *
  clear hl6
  go_wp2
  go_ret
  obtain ⟨r1, r2⟩ := list_put' (nq := 0) HL.out hKq.out j0 j1 jf rfl hok.out HR6.out
  exact ⟨rfl, r1, r2⟩
theorem fill_nat {F : Nat → Prop} {p most : Nat} {l : List Ent} {w : World} (h : ListAt eL 10 F p most l w) (x : Ent) (hx : okE x) (hm1 : 1 ≤ most) (hmx : most ≤ 64) (hn : l.length ≤ most) :
  Calls Tryz.prog 110 #[.pointer (some ⟨p, 0, none⟩), eV x] w (FillPost F p most (fillP most l x) w) := by
 unfold fillP
 by_cases hm : x ∈ l
 ·rw [if_pos hm]; exact fill_has h (by omega) x hx (decide_eq_true hm)
 ·rw [if_neg hm]
  by_cases hc : most < l.length + 1
  ·rw [if_pos hc]; exact fill_full h (by omega) x hx (decide_eq_false hm) hc hm1 hmx
  ·rw [if_neg hc]; exact fill_room h (by omega) x hx (decide_eq_false hm) (by omega) hmx
theorem fillP_len {most : Nat} {l : List Ent} {x : Ent} (hn : l.length ≤ most) : (fillP most l x).length ≤ most := by
 unfold fillP
 split
 ·exact hn
 ·split
  ·rw [List.length_eraseIdx]; simp; omega
  ·simp; omega
end Go.Proofs.YtbapgngngaaojaaGreat
namespace Go.Proofs.YtbapgngngaaojaaGreat
open Go.RowKit Go.Lib
set_option maxRecDepth 100000
def WrPost (sz : Nat) (A : Option Addr) (n c : Nat) (R : List (Nat × Nat)) (M : Nat) (w : World) (e : Ending) (w' : World) : Prop :=
 ((M ≠ 0 ∧ e = .returned (.tuple #[.agg #[.int .u64 sz, .slice A n c], .int .i64 M])) ∨ (M = 0 ∧ ∃ A2 c2, e = .returned (.tuple #[.agg #[.int .u64 sz, .slice A2 R.length c2], .int .i64 0]) ∧ RowAt w' (fun k => w.heap.size ≤ k) 2 (.slice A2 R.length c2) R.length (rowL wL R))) ∧ Below w.heap.size w w'
def bt (b : Bool) : Nat := if b then 1 else 0
theorem iteb_le (b : Bool) (n k : Nat) (h : n ≤ k + bt b) : n ≤ k + 1 := by cases b <;> simp [bt] at h <;> omega
set_option maxHeartbeats 2000000 in
theorem rwrite_nat (sz at_ x : Nat) (ws : List (Nat × Nat)) (A : Option Addr) (c : Nat) (w : World) (ha : at_ < 18446744073709551616) (hn : ws.length ≤ 1000000) (h : RdRow w (.slice A ws.length c) ws.length (rowL wL ws)) :
  Calls Tryz.prog 31 #[.agg #[.int .u64 sz, .slice A ws.length c], .int .u64 at_, .int .u64 x] w (WrPost sz A ws.length c (wrM ws at_ x) (mayP sz at_) w) := by
 have C1 := Lib.hid (fun v w => rmay_nat sz at_ v w ha)
 generalize mayP sz at_ = M at *
 obtain ⟨R, hR⟩ : ∃ R, wrM ws at_ x = R := ⟨_, rfl⟩
 rw [hR]
 have H := Lib.hid h
 have HN := Lib.hid hn
 have HR := Lib.hid hR
 obtain ⟨i0, hi0, hz0, hz1, hz2⟩ := info_parts infoW
 have I0 := Lib.hid hi0
 have I1 := Lib.hid hz0
 have I2 := Lib.hid hz1
 have I3 := Lib.hid hz2
 clear h hn ha hR hi0 hz0 hz1 hz2
 go_enter Tryz.func31, Tryz.ntmps31
 go_wp2_with fail
 generalize hW : World.alloc (World.alloc _ _) _ = W
 have HX : Hid (Box W w.heap.size [.int .u64 sz, .slice A ws.length c]) := by rw [← hW]; exact (Box.new w [.int .u64 sz, .slice A ws.length c] 31).below (below1 _ _)
 have HY : Hid (Box W (w.heap.size + 1) [.int .u64 0, .slice none 0 0]) := by
  rw [← hW]
  have h := Box.new (w.alloc (.cells #[.int .u64 sz, .slice A ws.length c] 31)) [.int .u64 0, .slice none 0 0] 31
  rw [World.size_alloc] at h
  exact h
 have HB0 : Hid (Below w.heap.size w W) := by rw [← hW]; exact (below1 w _).alloc (by simp) _
 clear hW
 refine (C1.out _ _).mono ?_
 rintro e w1 ⟨rfl, hb1⟩
 have HB1 : Hid (Below w.heap.size w w1) := HB0.out.trans (hb1.mono HB0.out.size)
 have HX1 : Hid (Box w1 w.heap.size [.int .u64 sz, .slice A ws.length c]) := HX.out.below hb1
 have HY1 : Hid (Box w1 (w.heap.size + 1) [.int .u64 0, .slice none 0 0]) := HY.out.below hb1
 clear hb1 HB0 HX C1 HY
 by_cases hM : M = 0
 ·have d0 : ((M : Int) != 0) = false := by simp; omega
  have HM := Lib.hid hM
  have HS1 : Hid ([] ++ wrGo at_ x false (ws.drop 0) = R) := HR.out
  have HZ : Hid (w.heap.size + 1 < w1.heap.size ∧ w1.heap.size = w1.heap.size) := ⟨HY1.out.2.2, rfl⟩
  clear hM HR
  go_wp2
  obtain ⟨B, hB⟩ : ∃ B, w1.heap.size = B := ⟨_, rfl⟩
  have HBB := Lib.hid hB
  clear hB
  have HR0 : Hid (RowAt w1 (fun k => B ≤ k) 2 (.slice none 0 0) 0 (rowL wL [])) := RowAt.nil _ _ _
  go_loopw [9, 10, 11] (fun s9 s10 iv wr => ∃ (i : Nat) (acc : List (Nat × Nat)) (d : Bool) (A2 : Option Addr) (c2 : Nat), iv = .int .i64 i ∧ s9 = .slice A2 acc.length c2 ∧ s10 = .bool d ∧ i ≤ ws.length ∧ Hid (acc.length ≤ i + bt d) ∧ Hid (acc ++ wrGo at_ x d (ws.drop i) = R) ∧ Hid (RowAt wr (fun k => B ≤ k) 2 (.slice A2 acc.length c2) acc.length (rowL wL acc)) ∧ Hid (Kp (fun k => B ≤ k) w1 wr)) (fun _ _ iv _ => ws.length - (RowKit.intOf iv).toNat)
  case atStart => exact ⟨0, [], false, none, 0, rfl, rfl, rfl, by omega, by simp [Hid], HS1, HR0, Kp.refl _ _⟩
  case round =>
   obtain ⟨i, acc, d, A2, c2, rfl, rfl, rfl, hi, HL, HS, HROW, HK⟩ := hrel
   have hn2 : ws.length ≤ 1000000 := HN.out
   have k1 := HX1.out.at 1 _ rfl
   have HBS : Hid (B ≤ wr.heap.size) := by have := HK.out.size; have := HBB.out; rw [Hid]; omega
   have HLL : Hid (acc.length ≤ i + 1) := iteb_le d _ _ HL.out
   by_cases hlt : i < ws.length
   ·obtain ⟨g, o, rfl, hr⟩ := H.out.get (by omega)
    have hr1 : w1.rangeAt g o (rowL wL ws) := fun j v hj => keep_cell HB1.out (hr j v hj)
    have hgB : ¬ B ≤ g := by
     have h1 := row_at0 wL_len hr i hlt _ rfl
     have := World.block_lt_of_cell? w _ h1
     have := HB1.out.size
     have := HBB.out
     dsimp only at *
     omega
    have q0 := row_at0 wL_len hr1 i hlt _ rfl
    have q1 := row_at wL_len hr1 i hlt 1 _ rfl
    have BX := HX1.out.kept HK.out (fun h => by have := HBB.out; have := HZ.out.1; omega)
    have k1 := BX.at 1 _ rfl
    have j0 := HK.out.cell q0 hgB
    have j1 := HK.out.cell q1 hgB
    have HGB := Lib.hid hgB
    have Q0 := Lib.hid q0
    have Q1 := Lib.hid q1
    clear hr hr1 hgB BX q0 q1
    have hs := HS.out
    rw [drop_cons' ws i hlt] at hs
    generalize hy : ws[i] = y at *
    clear hy
    obtain ⟨ya, yw⟩ := y
    dsimp only at j0 j1 hs Q0 Q1
    cases d with
    | true =>
     replace HS : Hid (acc ++ ((if ya = at_ then [] else [(ya, yw)]) ++ wrGo at_ x true (ws.drop (i + 1))) = R) := hs
     have HQ := HL
     clear hs
     by_cases hy : ya = at_
     ·have HS9 : Hid (acc ++ wrGo at_ x true (ws.drop (i + 1)) = R) := by have h := HS.out; rw [if_pos hy, List.nil_append] at h; exact h
      have HL9 : Hid (acc.length ≤ i + 1 + bt true) := by have := HQ.out; rw [Hid]; omega
      have d1 : ((ya : Int) != (at_ : Int)) = false := by simp; omega
      clear HS hy
      go_wp2
      go_roundw
      case rel => exact ⟨i + 1, acc, true, A2, c2, by first | rfl | go_num, rfl, rfl, by omega, HL9, HS9, HROW, HK⟩
      case measure => simp [RowKit.intOf]; omega
     ·have HS9 : Hid ((acc ++ [(ya, yw)]) ++ wrGo at_ x true (ws.drop (i + 1)) = R) := by have h := HS.out; rw [if_neg hy, ← List.append_assoc] at h; exact h
      have HL9 : Hid ((acc ++ [(ya, yw)]).length ≤ i + 1 + bt true) := by have := HQ.out; rw [Hid, List.length_append]; simp only [List.length_cons, List.length_nil]; omega
      have d1 : ((ya : Int) != (at_ : Int)) = true := by simp; omega
      clear HS hy
      go_wp2_with (at_builtin; refine wpList_append_row (by rfl) _ _ 29 (by rfl) 123 i0 (.agg #[.int .u64 0, .int .u64 0]) 2 16 Tryz.underlying29 I0.out I1.out I2.out I3.out rfl (by omega) (fun k => B ≤ k) (.slice A2 acc.length c2) acc.length (rowL wL acc) (by rfl) (HROW.out.below (below1 _ _)) ⟨(wr).heap.size, 0, none⟩ 1 1 [.int .u64 ya, .int .u64 yw] (by rfl) (by omega) rfl (cell_two_new _ _ _ _) (by intro u hu; simp at hu; rcases hu with rfl | rfl <;> rfl) (by have := HLL.out; have := HN.out; unfold maxLen; omega) (by have := HLL.out; have := HN.out; omega) ?_; intro A3 c3 W hrow1 hkp1; have HKP : Hid (Kp (fun k => B ≤ k) wr W) := ((Kp.refl _ _).alloc _).trans hkp1 (fun i h => .inl h); have HRW : Hid (RowAt W (fun k => B ≤ k) 2 (.slice A3 (acc.length + 1) c3) (acc.length + 1) (rowL wL acc ++ [.int .u64 ya, .int .u64 yw])) := hrow1.mono (fun k _ h => h.elim id (fun h => by have := HBS.out; simp only [World.size_alloc] at h; omega)); clear hrow1 hkp1)
      go_wp2
      go_roundw
      case rel => exact ⟨i + 1, acc ++ [(ya, yw)], true, A3, c3, by first | rfl | go_num, by rw [List.length_append]; rfl, rfl, by omega, HL9, HS9, by rw [Hid, List.length_append, rowL_append, rowL_one]; exact HRW.out, HK.out.trans HKP.out (fun i h => .inl h)⟩
      case measure => simp [RowKit.intOf]; omega
    | false =>
     replace HS : Hid (acc ++ (if at_ ≤ ya then (if x = 0 then [] else [(at_, x)]) ++ (if ya = at_ then [] else [(ya, yw)]) ++ wrGo at_ x true (ws.drop (i + 1)) else [(ya, yw)] ++ wrGo at_ x false (ws.drop (i + 1))) = R) := hs
     have HQ := HL
     clear hs
     obtain ⟨q, hq⟩ : ∃ q, decide ((at_ : Int) ≤ (ya : Int)) = q := ⟨_, rfl⟩
     have hq2 : decide (at_ ≤ ya) = q := by rw [← hq, decide_eq_decide]; omega
     have HQQ := Lib.hid hq
     go_upto_if 37 with fail
     clear hq hq2
     go_cut [9, 10] (fun s9 s10 wx => ∃ (acc1 : List (Nat × Nat)) (e1 : Bool) (A4 : Option Addr) (c4 : Nat), s9 = .slice A4 acc1.length c4 ∧ s10 = .bool e1 ∧ Hid (acc1.length ≤ i + bt e1) ∧ Hid (acc1 ++ ((if ya = at_ then [] else [(ya, yw)]) ++ wrGo at_ x e1 (ws.drop (i + 1))) = R) ∧ Hid (RowAt wx (fun k => B ≤ k) 2 (.slice A4 acc1.length c4) acc1.length (rowL wL acc1)) ∧ Hid (Kp (fun k => B ≤ k) w1 wx))
     case first =>
      have hq : acc.length ≤ i := HQ.out
      have HQ1 : Hid (acc.length ≤ i + bt true) := Nat.le_succ_of_le hq
      have HQ2 : Hid (acc.length + 1 ≤ i + bt true) := Nat.succ_le_succ hq
      have hs := HS.out
      clear hq HS
      by_cases hge : at_ ≤ ya
      ·rw [if_pos hge] at hs
       have d2 : q = true := by rw [← HQQ.out]; simp; omega
       clear hge
       subst d2
       by_cases hx : x = 0
       ·rw [if_pos hx, List.nil_append] at hs
        have HS9 := Lib.hid hs
        have d3 : ((x : Int) != 0) = false := by simp; omega
        clear hs hx
        go_wp2_with fail
        go_meet
        exact ⟨acc, true, A2, c2, rfl, rfl, HQ1, HS9, HROW, HK⟩
       ·rw [if_neg hx, List.append_assoc, ← List.append_assoc] at hs
        have HS9 := Lib.hid hs
        have d3 : ((x : Int) != 0) = true := by simp; omega
        clear hs hx
        go_wp2_with (at_builtin; refine wpList_append_row (by rfl) _ _ 29 (by rfl) 123 i0 (.agg #[.int .u64 0, .int .u64 0]) 2 16 Tryz.underlying29 I0.out I1.out I2.out I3.out rfl (by omega) (fun k => B ≤ k) (.slice A2 acc.length c2) acc.length (rowL wL acc) (by rfl) (HROW.out.below (below1 _ _)) ⟨(wr).heap.size, 0, none⟩ 1 1 [.int .u64 at_, .int .u64 x] (by rfl) (by omega) rfl (cell_two_new _ _ _ _) (by intro u hu; simp at hu; rcases hu with rfl | rfl <;> rfl) (by have := HLL.out; have := HN.out; unfold maxLen; omega) (by have := HLL.out; have := HN.out; omega) ?_; intro A3 c3 W hrow1 hkp1; have HKP : Hid (Kp (fun k => B ≤ k) wr W) := ((Kp.refl _ _).alloc _).trans hkp1 (fun i h => .inl h); have HRW : Hid (RowAt W (fun k => B ≤ k) 2 (.slice A3 (acc.length + 1) c3) (acc.length + 1) (rowL wL acc ++ [.int .u64 at_, .int .u64 x])) := hrow1.mono (fun k _ h => h.elim id (fun h => by have := HBS.out; simp only [World.size_alloc] at h; omega)); clear hrow1 hkp1)
        go_meet
        exact ⟨acc ++ [(at_, x)], true, A3, c3, by rw [List.length_append]; rfl, rfl, by rw [Hid, List.length_append]; exact HQ2, HS9, by rw [Hid, List.length_append, rowL_append, rowL_one]; exact HRW.out, HK.out.trans HKP.out (fun i h => .inl h)⟩
      ·rw [if_neg hge] at hs
       have d2 : q = false := by rw [← HQQ.out]; simp; omega
       subst d2
       have hne : ¬ ya = at_ := by omega
       have HS9 : Hid (acc ++ ((if ya = at_ then [] else [(ya, yw)]) ++ wrGo at_ x false (ws.drop (i + 1))) = R) := by rw [if_neg hne]; exact hs
       clear hs hne hge
       go_wp2_with fail
       go_meet
       exact ⟨acc, false, A2, c2, rfl, rfl, HQ, HS9, HROW, HK⟩
     case rest =>
      clear HQ HS HROW HLL HL HBS
      obtain ⟨acc, e1, A2, c2, rfl, rfl, HQ, HS, HROW, HK9⟩ := hcut
      have HBS : Hid (B ≤ wc.heap.size) := by have := HK9.out.size; have := HBB.out; rw [Hid]; omega
      have HLL : Hid (acc.length ≤ i + 1) := iteb_le e1 _ _ HQ.out
      have j0 := HK9.out.cell Q0.out HGB.out
      have j1 := HK9.out.cell Q1.out HGB.out
      have BX := HX1.out.kept HK9.out (fun h => by have := HBB.out; have := HZ.out.1; omega)
      have k1 := BX.at 1 _ rfl
      clear BX HK
      have HK := HK9
      clear HK9
      by_cases hy : ya = at_
      ·have HS9 : Hid (acc ++ wrGo at_ x e1 (ws.drop (i + 1)) = R) := by have h := HS.out; rw [if_pos hy, List.nil_append] at h; exact h
       have HL9 : Hid (acc.length ≤ i + 1 + bt e1) := by have := HQ.out; rw [Hid]; omega
       have d1 : ((ya : Int) != (at_ : Int)) = false := by simp; omega
       clear HS hy
       go_wp2
       go_roundw
       case rel => exact ⟨i + 1, acc, e1, A2, c2, by first | rfl | go_num, rfl, rfl, by omega, HL9, HS9, HROW, HK⟩
       case measure => simp [RowKit.intOf]; omega
      ·have HS9 : Hid ((acc ++ [(ya, yw)]) ++ wrGo at_ x e1 (ws.drop (i + 1)) = R) := by have h := HS.out; rw [if_neg hy, ← List.append_assoc] at h; exact h
       have HL9 : Hid ((acc ++ [(ya, yw)]).length ≤ i + 1 + bt e1) := by have := HQ.out; rw [Hid, List.length_append]; simp only [List.length_cons, List.length_nil]; omega
       have d1 : ((ya : Int) != (at_ : Int)) = true := by simp; omega
       clear HS hy
       go_wp2_with (at_builtin; refine wpList_append_row (by rfl) _ _ 29 (by rfl) 123 i0 (.agg #[.int .u64 0, .int .u64 0]) 2 16 Tryz.underlying29 I0.out I1.out I2.out I3.out rfl (by omega) (fun k => B ≤ k) (.slice A2 acc.length c2) acc.length (rowL wL acc) (by rfl) (HROW.out.below (below1 _ _)) ⟨(wc).heap.size, 0, none⟩ 1 1 [.int .u64 ya, .int .u64 yw] (by rfl) (by omega) rfl (cell_two_new _ _ _ _) (by intro u hu; simp at hu; rcases hu with rfl | rfl <;> rfl) (by have := HLL.out; have := HN.out; unfold maxLen; omega) (by have := HLL.out; have := HN.out; omega) ?_; intro A3 c3 W hrow1 hkp1; have HKP : Hid (Kp (fun k => B ≤ k) wc W) := ((Kp.refl _ _).alloc _).trans hkp1 (fun i h => .inl h); have HRW : Hid (RowAt W (fun k => B ≤ k) 2 (.slice A3 (acc.length + 1) c3) (acc.length + 1) (rowL wL acc ++ [.int .u64 ya, .int .u64 yw])) := hrow1.mono (fun k _ h => h.elim id (fun h => by have := HBS.out; simp only [World.size_alloc] at h; omega)); clear hrow1 hkp1)
       go_wp2
       go_roundw
       case rel => exact ⟨i + 1, acc ++ [(ya, yw)], e1, A3, c3, by first | rfl | go_num, by rw [List.length_append]; rfl, rfl, by omega, HL9, HS9, by rw [Hid, List.length_append, rowL_append, rowL_one]; exact HRW.out, HK.out.trans HKP.out (fun i h => .inl h)⟩
       case measure => simp [RowKit.intOf]; omega
   ·have hs := HS.out
    rw [List.drop_eq_nil_of_le (by omega)] at hs
    cases d with
    | true =>
     have HE : Hid (acc ++ [] = R) := hs
     clear hs
     have BX := (HX1.out.kept (HK.out) (fun h => by have := HBB.out; have := HZ.out.1; omega))
     have BY := (HY1.out.kept (HK.out) (fun h => by have := HBB.out; have := HZ.out.1; omega))
     have k0 := BX.at 0 _ rfl
     have k1 := BX.at 1 _ rfl
     have fk := BX.2.1
     have zk := BX.2.2
     have j0 := BY.at 0 _ rfl
     have j1 := BY.at 1 _ rfl
     have fj := BY.2.1
     have zj := BY.2.2
     clear BX BY
     go_wp2
     refine bodyPost_ret (v := .tuple #[.agg #[.int .u64 sz, .slice A2 (acc.length) c2], .int .i64 0]) (by simp [results, Tryz.results31, go_sem, zk, zj, k0, k1, j0, j1, fk, fj]) rfl ?_
     have hB1 := HB1.out
     have hkp := HK.out
     have hw : Below w.heap.size w wr := hkp.toBelow hB1 hB1.size (fun k hk => by have := HBB.out; have := hB1.size; omega)
     have hfin : ∀ (u1 u2 u3 : Value), Kp (fun k => k = w.heap.size ∨ k = w.heap.size + 1) wr (((wr).setCell ⟨w.heap.size, 1, none⟩ u1).setCell ⟨w.heap.size + 1, 0, none⟩ u2 |>.setCell ⟨w.heap.size + 1, 1, none⟩ u3) := fun u1 u2 u3 => (((Kp.refl _ _).setCell (.inl (.inl rfl)) _).setCell (.inl (.inr rfl)) _).setCell (.inl (.inr rfl)) _
     refine ⟨.inr ⟨HM.out, A2, c2, ?_, ?_⟩, ((hw.setCell (by show w.heap.size ≤ w.heap.size; omega) _).setCell (by show w.heap.size ≤ w.heap.size + 1; omega) _).setCell (by show w.heap.size ≤ w.heap.size + 1; omega) _⟩
     ·rw [← HE.out, List.append_nil]
     ·rw [← HE.out, List.append_nil]
      exact (HROW.out.kept (hfin _ _ _) (fun k hk e => by have := HBB.out; have := HZ.out.1; omega)).mono (fun k _ h => by have := HBB.out; have := HZ.out.1; omega)
    | false =>
     by_cases hx : x = 0
     ·have HE : Hid (acc ++ [] = R) := by rw [← hs]; unfold wrGo; rw [if_pos hx]; exact rfl
      have d3 : ((x : Int) != 0) = false := by simp; omega
      clear hs hx
      have BX := (HX1.out.kept (HK.out) (fun h => by have := HBB.out; have := HZ.out.1; omega))
      have BY := (HY1.out.kept (HK.out) (fun h => by have := HBB.out; have := HZ.out.1; omega))
      have k0 := BX.at 0 _ rfl
      have k1 := BX.at 1 _ rfl
      have fk := BX.2.1
      have zk := BX.2.2
      have j0 := BY.at 0 _ rfl
      have j1 := BY.at 1 _ rfl
      have fj := BY.2.1
      have zj := BY.2.2
      clear BX BY
      go_wp2
      refine bodyPost_ret (v := .tuple #[.agg #[.int .u64 sz, .slice A2 (acc.length) c2], .int .i64 0]) (by simp [results, Tryz.results31, go_sem, zk, zj, k0, k1, j0, j1, fk, fj]) rfl ?_
      have hB1 := HB1.out
      have hkp := HK.out
      have hw : Below w.heap.size w wr := hkp.toBelow hB1 hB1.size (fun k hk => by have := HBB.out; have := hB1.size; omega)
      have hfin : ∀ (u1 u2 u3 : Value), Kp (fun k => k = w.heap.size ∨ k = w.heap.size + 1) wr (((wr).setCell ⟨w.heap.size, 1, none⟩ u1).setCell ⟨w.heap.size + 1, 0, none⟩ u2 |>.setCell ⟨w.heap.size + 1, 1, none⟩ u3) := fun u1 u2 u3 => (((Kp.refl _ _).setCell (.inl (.inl rfl)) _).setCell (.inl (.inr rfl)) _).setCell (.inl (.inr rfl)) _
      refine ⟨.inr ⟨HM.out, A2, c2, ?_, ?_⟩, ((hw.setCell (by show w.heap.size ≤ w.heap.size; omega) _).setCell (by show w.heap.size ≤ w.heap.size + 1; omega) _).setCell (by show w.heap.size ≤ w.heap.size + 1; omega) _⟩
      ·rw [← HE.out, List.append_nil]
      ·rw [← HE.out, List.append_nil]
       exact (HROW.out.kept (hfin _ _ _) (fun k hk e => by have := HBB.out; have := HZ.out.1; omega)).mono (fun k _ h => by have := HBB.out; have := HZ.out.1; omega)
     ·have HE : Hid (acc ++ [(at_, x)] = R) := by rw [← hs]; unfold wrGo; rw [if_neg hx]; exact rfl
      have d3 : ((x : Int) != 0) = true := by simp; omega
      clear hs hx
      have BX := (HX1.out.kept HK.out (fun h => by have := HBB.out; have := HZ.out.1; omega))
      have k1 := BX.at 1 _ rfl
      clear BX
      go_wp2_with (at_builtin; refine wpList_append_row (by rfl) _ _ 29 (by rfl) 123 i0 (.agg #[.int .u64 0, .int .u64 0]) 2 16 Tryz.underlying29 I0.out I1.out I2.out I3.out rfl (by omega) (fun k => B ≤ k) (.slice A2 acc.length c2) acc.length (rowL wL acc) (by rfl) (HROW.out.below (below1 _ _)) ⟨(wr).heap.size, 0, none⟩ 1 1 [.int .u64 at_, .int .u64 x] (by rfl) (by omega) rfl (cell_two_new _ _ _ _) (by intro u hu; simp at hu; rcases hu with rfl | rfl <;> rfl) (by have := HLL.out; have := HN.out; unfold maxLen; omega) (by have := HLL.out; have := HN.out; omega) ?_; intro A3 c3 W hrow1 hkp1; have HKP : Hid (Kp (fun k => B ≤ k) wr W) := ((Kp.refl _ _).alloc _).trans hkp1 (fun i h => .inl h); have HRW : Hid (RowAt W (fun k => B ≤ k) 2 (.slice A3 (acc.length + 1) c3) (acc.length + 1) (rowL wL acc ++ [.int .u64 at_, .int .u64 x])) := hrow1.mono (fun k _ h => h.elim id (fun h => by have := HBS.out; simp only [World.size_alloc] at h; omega)); clear hrow1 hkp1; have HK2 : Hid (Kp (fun k => B ≤ k) w1 W) := HK.out.trans HKP.out (fun i h => .inl h); clear k1; have BX := (HX1.out.kept HK2.out (fun h => by have := HBB.out; have := HZ.out.1; omega)); have BY := (HY1.out.kept HK2.out (fun h => by have := HBB.out; have := HZ.out.1; omega)); have k0 := BX.at 0 _ rfl; have k1 := BX.at 1 _ rfl; have fk := BX.2.1; have zk := BX.2.2; have j0 := BY.at 0 _ rfl; have j1 := BY.at 1 _ rfl; have fj := BY.2.1; have zj := BY.2.2; clear BX BY)
      refine bodyPost_ret (v := .tuple #[.agg #[.int .u64 sz, .slice A3 (acc.length + 1) c3], .int .i64 0]) (by simp [results, Tryz.results31, go_sem, zk, zj, k0, k1, j0, j1, fk, fj]) rfl ?_
      have hB1 := HB1.out
      have hkp := HK2.out
      have hw : Below w.heap.size w W := hkp.toBelow hB1 hB1.size (fun k hk => by have := HBB.out; have := hB1.size; omega)
      have hfin : ∀ (u1 u2 u3 : Value), Kp (fun k => k = w.heap.size ∨ k = w.heap.size + 1) W (((W).setCell ⟨w.heap.size, 1, none⟩ u1).setCell ⟨w.heap.size + 1, 0, none⟩ u2 |>.setCell ⟨w.heap.size + 1, 1, none⟩ u3) := fun u1 u2 u3 => (((Kp.refl _ _).setCell (.inl (.inl rfl)) _).setCell (.inl (.inr rfl)) _).setCell (.inl (.inr rfl)) _
      refine ⟨.inr ⟨HM.out, A3, c3, ?_, ?_⟩, ((hw.setCell (by show w.heap.size ≤ w.heap.size; omega) _).setCell (by show w.heap.size ≤ w.heap.size + 1; omega) _).setCell (by show w.heap.size ≤ w.heap.size + 1; omega) _⟩
      ·rw [← HE.out, List.length_append]; rfl
      ·rw [← HE.out, List.length_append, rowL_append, rowL_one]
       exact (HRW.out.kept (hfin _ _ _) (fun k hk e => by have := HBB.out; have := HZ.out.1; omega)).mono (fun k _ h => by have := HBB.out; have := HZ.out.1; omega)
 ·have d0 : ((M : Int) != 0) = true := by simp; omega
  have HM := Lib.hid hM
  have k0 := HX1.out.at 0 _ rfl
  have k1 := HX1.out.at 1 _ rfl
  have z0 := HX1.out.2.2
  have j0 := HY1.out.at 0 _ rfl
  have j1 := HY1.out.at 1 _ rfl
  have fj := HY1.out.2.1
  have zj := HY1.out.2.2
  clear hM
  go_wp2
  refine bodyPost_ret (v := .tuple #[.agg #[.int .u64 sz, .slice A ws.length c], .int .i64 M]) (by simp [results, Tryz.results31, go_sem, zj, j0, j1]) rfl ?_
  exact ⟨.inl ⟨HM.out, rfl⟩, (HB1.out.setCell (by show w.heap.size ≤ w.heap.size + 1; omega) _).setCell (by show w.heap.size ≤ w.heap.size + 1; omega) _⟩
end Go.Proofs.YtbapgngngaaojaaGreat
