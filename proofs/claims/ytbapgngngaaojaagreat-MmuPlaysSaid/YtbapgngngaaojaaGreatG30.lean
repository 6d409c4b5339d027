/- The walk of the ninth reference's Guess, where the machine is on. The walks of the references' Flush: 07 and 08. The walk of the ninth reference's Guess, where the machine is off, and of its Flush. The walk of the ninth reference's Flush. -/
import Derived.Test.YtbapgngngaaojaaGreatG24
import Derived.Test.YtbapgngngaaojaaGreatG28
import Derived.Test.YtbapgngngaaojaaGreatG11
set_option linter.unusedSimpArgs false
set_option linter.unusedVariables false
namespace Go.Proofs.YtbapgngngaaojaaGreat
open Go.RowKit Go.Lib
set_option maxRecDepth 100000
def guessR (es : List Ent) (asid va : Nat) (s s1 : St) : St := if (findP es asid va).2 = 0 then s1 else s
def RGuessPost (ok : Nat → Prop) (sz most root asid : Nat) (vw vp : Value) (S : St) (w : World) (e : Ending) (w' : World) : Prop :=
 ∃ A2 c2 A3 c3, e = .returned (xV sz most root asid true vw (.slice A2 S.es.length c2) (.slice A3 S.ks.length c3) vp) ∧ RowAt w' (fun k => ok k ∨ w.heap.size ≤ k) 10 (.slice A2 S.es.length c2) S.es.length (rowL eL S.es) ∧ RowAt w' (fun k => ok k ∨ w.heap.size ≤ k) 4 (.slice A3 S.ks.length c3) S.ks.length (rowL mL S.ks) ∧ Below w.heap.size w w'
set_option maxHeartbeats 3000000 in
theorem rguess_nat {ok : Nat → Prop} (sz most root asid va : Nat) (ws : List (Nat × Nat)) (es : List Ent) (ks : List Mk) (fill led keep : Bool) (A1 A2 A3 A4 : Option Addr) (n4 c1 c2 c3 c4 : Nat) (w : World) (hs : OkSt ⟨sz, rdM ws, most, es, ks, some (root, asid)⟩) (hv : va < 18446744073709551616) (hn : ws.length ≤ 999999) (hws : ∀ a, rdM ws a < 18446744073709551616) (hok : ∀ k, ok k → k < w.heap.size)
  (h1 : RowAt w ok 2 (.slice A1 ws.length c1) ws.length (rowL wL ws)) (h2 : RowAt w ok 10 (.slice A2 es.length c2) es.length (rowL eL es)) (h3 : RowAt w ok 4 (.slice A3 ks.length c3) ks.length (rowL mL ks)) :
  Calls Tryz.prog 44 #[xV sz most root asid true (.slice A1 ws.length c1) (.slice A2 es.length c2) (.slice A3 ks.length c3) (.slice A4 n4 c4), .int .u64 va, .agg #[.bool fill, .bool led, .bool keep]] w (RGuessPost ok sz most root asid (.slice A1 ws.length c1) (.slice A4 n4 c4) (guessR es asid va ⟨sz, rdM ws, most, es, ks, some (root, asid)⟩ (walkM ⟨sz, rdM ws, most, es, ks, some (root, asid)⟩ root asid va fill led keep).2) w) := by
 have hel : es.length ≤ 1000 := by have := hs.el; have := hs.m64; dsimp only at *; omega
 have C1 : Hid (∀ w', Below w.heap.size w w' → Calls Tryz.prog 34 #[.slice A2 es.length c2, .int .i64 asid, .int .u64 va] w' (FindPost (findP es asid va) w')) := fun w' hb => rfind_nat es asid va A2 c2 w' hel (fun y hy => (hs.eok y hy).2.2.1) hv (h2.below hb)
 have C2 : Hid (∀ w', Below w.heap.size w w' → Calls Tryz.prog 35 #[.agg #[.int .u64 sz, .slice A1 ws.length c1, .int .i64 most, .slice A2 es.length c2, .slice A3 ks.length c3, .bool true, .int .u64 root, .int .i64 asid, .slice A4 n4 c4], .int .u64 va, .agg #[.bool fill, .bool led, .bool keep]] w' (RWalkPost ok sz most root asid (.slice A1 ws.length c1) (.slice A4 n4 c4) (walkM ⟨sz, rdM ws, most, es, ks, some (root, asid)⟩ root asid va fill led keep) w')) := fun w' hb => rxwalk_nat sz most root asid va ws es ks fill led keep A1 A2 A3 A4 n4 c1 c2 c3 c4 w' hs hv (by omega) hws (fun k h => Nat.lt_of_lt_of_le (hok k h) hb.size) (h1.below hb) (h2.below hb) (h3.below hb)
 obtain ⟨R, hR⟩ : ∃ R, guessR es asid va ⟨sz, rdM ws, most, es, ks, some (root, asid)⟩ (walkM ⟨sz, rdM ws, most, es, ks, some (root, asid)⟩ root asid va fill led keep).2 = R := ⟨_, rfl⟩
 rw [hR]
 unfold guessR at hR
 obtain ⟨M, hM⟩ : ∃ M, findP es asid va = M := ⟨_, rfl⟩
 rw [hM] at C1 hR
 generalize walkM ⟨sz, rdM ws, most, es, ks, some (root, asid)⟩ root asid va fill led keep = WM at *
 have HOKL := Lib.hid hok
 have H2 := Lib.hid h2
 have H3 := Lib.hid h3
 have HR := Lib.hid hR
 clear hs hn hws hok h1 h2 h3 hR hel hM hv
 obtain ⟨⟨ea, ev, el, ⟨k0, o0, u1, u2, u3, u4, at0⟩⟩, n⟩ := M
 obtain ⟨Wl, Ws⟩ := WM
 try dsimp only at HR
 unfold xV
 go_enter Tryz.func44, Tryz.ntmps44
 go_upto_region 1 with fail
 generalize hW : World.alloc (World.alloc (World.alloc w _) _) _ = W
 have HXB : Hid (Box W w.heap.size (xC sz most root asid true (.slice A1 ws.length c1) (.slice A2 es.length c2) (.slice A3 ks.length c3) (.slice A4 n4 c4))) := by
  rw [← hW]
  exact ((Box.new w (xC sz most root asid true (.slice A1 ws.length c1) (.slice A2 es.length c2) (.slice A3 ks.length c3) (.slice A4 n4 c4)) 36).below (below1 _ _)).below (below1 _ _)
 have HHB : Hid (Box W (w.heap.size + 1) [.bool fill, .bool led, .bool keep]) := by
  rw [← hW]
  exact (Box.new' (w.alloc (.cells (xC sz most root asid true (.slice A1 ws.length c1) (.slice A2 es.length c2) (.slice A3 ks.length c3) (.slice A4 n4 c4)).toArray 36)) _ (by simp) [.bool fill, .bool led, .bool keep] 41).below (below1 _ _)
 have H6B : Hid (Box W (w.heap.size + 2) (xC 0 0 0 0 false (.slice none 0 0) (.slice none 0 0) (.slice none 0 0) (.slice none 0 0))) := by
  rw [← hW]
  exact Box.new' ((w.alloc (.cells (xC sz most root asid true (.slice A1 ws.length c1) (.slice A2 es.length c2) (.slice A3 ks.length c3) (.slice A4 n4 c4)).toArray 36)).alloc (.cells #[.bool fill, .bool led, .bool keep] 41)) _ (by simp) (xC 0 0 0 0 false (.slice none 0 0) (.slice none 0 0) (.slice none 0 0) (.slice none 0 0)) 36
 have HB0 : Hid (Below w.heap.size w W) := by rw [← hW]; exact ((below1 w _).alloc (by simp) _).alloc (by simp; omega) _
 clear hW
 have x3 := HXB.out.at 3 _ rfl
 have x5 := HXB.out.at 5 _ rfl
 have x7 := HXB.out.at 7 _ rfl
 go_upto_region 4 with (go_at_call 34; refine (C1.out _ HB0.out).mono ?_; rintro e w1 ⟨rfl, hb1⟩; dsimp only [eV]; have HBW1 := Lib.hid hb1; clear hb1)
 have HBX : Hid (Below W.heap.size W (w1.alloc (.cells #[.int .i64 ea, .int .u64 ev, .int .i64 el, .int .i64 k0, .int .u64 o0, .bool u1, .bool u2, .bool u3, .bool u4, .int .i64 at0] 101))) := HBW1.out.alloc HBW1.out.size _
 generalize World.alloc w1 _ = W3 at *
 have HB3 : Hid (Below w.heap.size w W3) := HB0.out.trans (HBX.out.mono HB0.out.size)
 replace HXB := Lib.hid (HXB.out.below HBX.out)
 replace HHB := Lib.hid (HHB.out.below HBX.out)
 replace H6B := Lib.hid (H6B.out.below HBX.out)
 clear x3 x5 x7 HBW1 HBX HB0
 have hr := HR.out
 by_cases hn0 : n = 0
 ·have d1 : decide ((0 : Int) < (n : Int)) = false := by simp; omega
  have d2 : decide (0 < n) = false := by simp; omega
  have d3 : ¬ 0 < n := by omega
  rw [if_pos hn0] at hr
  have HQ : Hid (Ws = R) := hr
  clear hr hn0
  have BX := HXB.out
  have x0 := BX.at 0 _ rfl
  have x1 := BX.at 1 _ rfl
  have x2 := BX.at 2 _ rfl
  have x3 := BX.at 3 _ rfl
  have x4 := BX.at 4 _ rfl
  have x5 := BX.at 5 _ rfl
  have x6 := BX.at 6 _ rfl
  have x7 := BX.at 7 _ rfl
  have x8 := BX.at 8 _ rfl
  have fx := BX.2.1
  have zx := BX.2.2
  have hh0 := HHB.out.at 0 _ rfl
  have hh1 := HHB.out.at 1 _ rfl
  have hh2 := HHB.out.at 2 _ rfl
  clear BX fx zx
  go_wp2_with (go_at_call 35; refine (C2.out _ HB3.out).mono ?_; rintro e w5 ⟨A6, c6, A7, c7, A5, c5, rfl, hrow6, hrow7, hb5⟩; dsimp only [xV, lV]; have HROW6 := Lib.hid hrow6; have HROW7 := Lib.hid hrow7; have HBW5 := Lib.hid hb5; have HX5 := Lib.hid (HXB.out.below hb5); have H65 := Lib.hid (H6B.out.below hb5); clear x0 x1 x2 x3 x4 x5 x6 x7 x8 hh0 hh1 hh2 hrow6 hrow7 hb5; have x0 := HX5.out.at 0 _ rfl; have x1 := HX5.out.at 1 _ rfl; have x2 := HX5.out.at 2 _ rfl; have x3 := HX5.out.at 3 _ rfl; have x4 := HX5.out.at 4 _ rfl; have x5 := HX5.out.at 5 _ rfl; have x6 := HX5.out.at 6 _ rfl; have x7 := HX5.out.at 7 _ rfl; have x8 := HX5.out.at 8 _ rfl; have fx := HX5.out.2.1; have zx := HX5.out.2.2; have p0 := H65.out.at 0 _ rfl; have p1 := H65.out.at 1 _ rfl; have p2 := H65.out.at 2 _ rfl; have p3 := H65.out.at 3 _ rfl; have p4 := H65.out.at 4 _ rfl; have p5 := H65.out.at 5 _ rfl; have p6 := H65.out.at 6 _ rfl; have p7 := H65.out.at 7 _ rfl; have p8 := H65.out.at 8 _ rfl; have fp := H65.out.2.1; have zp := H65.out.2.2)
  refine bodyPost_ret (v := xV sz most root asid true (.slice A1 ws.length c1) (.slice A6 Ws.es.length c6) (.slice A7 Ws.ks.length c7) (.slice A4 n4 c4)) (by simp [results, Tryz.results44, go_sem, zx, zp, p0, p1, p2, p3, p4, p5, p6, p7, p8, xV]) rfl ?_
  rw [set9_eq, set9_eq]
  have hno : ∀ k, (ok k ∨ W3.heap.size ≤ k) → ¬ (k = w.heap.size ∨ k = w.heap.size + 1 + 1) := fun k h e => by
   have z1 := H6B.out.2.2
   rcases h with h | h
   ·have := HOKL.out k h; omega
   ·omega
  have hk : Kp (fun k => k = w.heap.size ∨ k = w.heap.size + 1 + 1) w5 ((w5.setCells w.heap.size 0 (xC sz most root asid true (.slice A1 ws.length c1) (.slice A6 Ws.es.length c6) (.slice A7 Ws.ks.length c7) (.slice A4 n4 c4))).setCells (w.heap.size + 1 + 1) 0 (xC sz most root asid true (.slice A1 ws.length c1) (.slice A6 Ws.es.length c6) (.slice A7 Ws.ks.length c7) (.slice A4 n4 c4))) := ((Kp.refl _ w5).setCells (.inl (.inl rfl)) 0 _).setCells (.inl (.inr rfl)) 0 _
  have hb9 : Below w.heap.size w w5 := HB3.out.trans (HBW5.out.mono HB3.out.size)
  rw [← HQ.out]
  exact ⟨A6, c6, A7, c7, rfl, (HROW6.out.kept hk hno).mono (fun k _ h => h.imp id (fun h => by have := HB3.out.size; omega)), (HROW7.out.kept hk hno).mono (fun k _ h => h.imp id (fun h => by have := HB3.out.size; omega)), hk.toBelow hb9 hb9.size (fun k hk => by omega)⟩
 ·have d1 : decide ((0 : Int) < (n : Int)) = true := by simp; omega
  have d2 : decide (0 < n) = true := by simp; omega
  have d3 : 0 < n := by omega
  rw [if_neg hn0] at hr
  have HQ : Hid (⟨sz, rdM ws, most, es, ks, some (root, asid)⟩ = R) := hr
  clear hr hn0
  have BX := HXB.out
  have x0 := BX.at 0 _ rfl
  have x1 := BX.at 1 _ rfl
  have x2 := BX.at 2 _ rfl
  have x3 := BX.at 3 _ rfl
  have x4 := BX.at 4 _ rfl
  have x5 := BX.at 5 _ rfl
  have x6 := BX.at 6 _ rfl
  have x7 := BX.at 7 _ rfl
  have x8 := BX.at 8 _ rfl
  have fx := BX.2.1
  have zx := BX.2.2
  have BP := H6B.out
  have p0 := BP.at 0 _ rfl
  have p1 := BP.at 1 _ rfl
  have p2 := BP.at 2 _ rfl
  have p3 := BP.at 3 _ rfl
  have p4 := BP.at 4 _ rfl
  have p5 := BP.at 5 _ rfl
  have p6 := BP.at 6 _ rfl
  have p7 := BP.at 7 _ rfl
  have p8 := BP.at 8 _ rfl
  have fp := BP.2.1
  have zp := BP.2.2
  clear BX BP fx
  go_wp2
  refine bodyPost_ret (v := xV sz most root asid true (.slice A1 ws.length c1) (.slice A2 es.length c2) (.slice A3 ks.length c3) (.slice A4 n4 c4)) (by simp [results, Tryz.results44, go_sem, zp, p0, p1, p2, p3, p4, p5, p6, p7, p8, xV]) rfl ?_
  rw [set9_eq]
  have hbel := below_setCells HB3.out (b := w.heap.size + 1 + 1) (by omega) 0 (xC sz most root asid true (.slice A1 ws.length c1) (.slice A2 es.length c2) (.slice A3 ks.length c3) (.slice A4 n4 c4))
  rw [← HQ.out]
  exact ⟨A2, c2, A3, c3, rfl, (H2.out.below hbel).mono (fun k _ h => .inl h), (H3.out.below hbel).mono (fun k _ h => .inl h), hbel⟩
end Go.Proofs.YtbapgngngaaojaaGreat
namespace Go.Proofs.YtbapgngngaaojaaGreat
open Go.RowKit Go.Lib
set_option maxRecDepth 100000
/-- What goes: all (an ASID below 0), an ASID's, or those that match an address. -/
def goneE (asid : Int) (one : Bool) (va : Nat) (x : Ent) : Bool := if one then matE asid va x else decide (asid < 0) || asE asid x
def goneM (asid : Int) (one : Bool) (va : Nat) (x : Mk) : Bool := if one then leadM asid va x else decide (asid < 0) || asM asid x
set_option maxHeartbeats 2000000 in
theorem rflushE_nat (asid : Int) (one : Bool) (va : Nat) (l : List Ent) (A : Option Addr) (c : Nat) (w : World) (hn : l.length ≤ 1000) (hv : va < 18446744073709551616) (hl : ∀ x ∈ l, x.level ≤ 3) (h : RdRow w (.slice A l.length c) l.length (rowL eL l)) :
  Calls Tryz.prog 91 #[.slice A l.length c, .int .i64 asid, .bool one, .int .u64 va] w (RListPost eL 10 (fun _ => False) (l.filter (fun x => !goneE asid one va x)) w) := by
 obtain ⟨i0, hi0, hz0, hz1, hz2⟩ := info_parts rinfoE
 have I0 := Lib.hid hi0
 have I1 := Lib.hid hz0
 have I2 := Lib.hid hz1
 have I3 := Lib.hid hz2
 have HN := Lib.hid hn
 have HR := Lib.hid h
 have HC : Hid (∀ x ∈ l, ∀ u, Calls Tryz.prog 81 #[eV x, .int .i64 asid, .int .u64 va] u fun e w' => e = .returned (.bool (matE asid va x)) ∧ Below u.heap.size u w') := fun x hx u => rmatches_nat x.asid x.va x.level x.d.kind x.d.out x.d.attr x.d.user x.d.write x.d.exec x.d.used asid va u (hl x hx) hv
 clear hi0 hz0 hz1 hz2 hn h hl
 go_enter Tryz.func91, Tryz.ntmps91
 go_wp2
 go_loopw [9, 10] (fun ov iv wr => ∃ (i : Nat) (A2 : Option Addr) (c2 : Nat), iv = .int .i64 i ∧ ov = .slice A2 ((l.take i).filter (fun x => !goneE asid one va x)).length c2 ∧ i ≤ l.length ∧ Hid (RowAt wr (fun k => w.heap.size ≤ k) 10 (.slice A2 ((l.take i).filter (fun x => !goneE asid one va x)).length c2) ((l.take i).filter (fun x => !goneE asid one va x)).length (rowL eL ((l.take i).filter (fun x => !goneE asid one va x)))) ∧ Hid (Below w.heap.size w wr)) (fun _ iv _ => l.length - (RowKit.intOf iv).toNat)
 case atStart => exact ⟨0, none, 0, rfl, by simp, by omega, by rw [Hid]; simpa [rowL] using RowAt.nil w _ 10, Below.refl _ _⟩
 case round =>
  obtain ⟨i, A2, c2, rfl, rfl, hi, HO, HB⟩ := hrel
  have hn2 : l.length ≤ 1000 := HN.out
  by_cases hlt : i < l.length
  ·obtain ⟨g, o, rfl, hr⟩ := HR.out.get (by omega)
   have hrng : wr.rangeAt g o (rowL eL l) := fun j v hj => keep_cell HB.out (hr j v hj)
   have k0 := row_at0 eL_len hrng i hlt _ rfl
   have k1 := row_at eL_len hrng i hlt 1 _ rfl
   have k2 := row_at eL_len hrng i hlt 2 _ rfl
   have k3 := row_at eL_len hrng i hlt 3 _ rfl
   have k4 := row_at eL_len hrng i hlt 4 _ rfl
   have k5 := row_at eL_len hrng i hlt 5 _ rfl
   have k6 := row_at eL_len hrng i hlt 6 _ rfl
   have k7 := row_at eL_len hrng i hlt 7 _ rfl
   have k8 := row_at eL_len hrng i hlt 8 _ rfl
   have k9 := row_at eL_len hrng i hlt 9 _ rfl
   have i1 : (0 : Int) ≤ (i : Int) := by omega
   have i2 : (i : Int) < (l.length : Int) := by omega
   have hst := filter_take_succ (fun x => !goneE asid one va x) l i hlt
   have hle0 : ((l.take i).filter (fun x => !goneE asid one va x)).length ≤ i := Nat.le_trans (List.length_filter_le _ _) (by simp; omega)
   have HLE := Lib.hid hle0
   have D := HC.out l[i] (List.getElem_mem hlt) wr
   clear hrng hr hle0
   generalize (l.take i).filter (fun x => !goneE asid one va x) = L at *
   generalize l[i] = y at *
   have hG : goneE asid one va y = if one then matE asid va y else decide (asid < 0) || ((y.asid : Int) == asid) := rfl
   generalize goneE asid one va y = b at *
   generalize matE asid va y = mb at *
   have HST := Lib.hid hst
   clear hst
   have gz : g < wr.heap.size := World.block_lt_of_cell? wr _ k0
   try dsimp only at gz
   obtain ⟨ya, yv, yl, ⟨yk, yo, y1, y2, y3, y4, yt⟩⟩ := y
   dsimp only [eV] at D
   try dsimp only at k0 k1 k2 k3 k4 k5 k6 k7 k8 k9
   try dsimp only at hG
   generalize hq : ((ya : Int) == asid) = qb at *
   generalize hdn : decide (asid < 0) = nb at *
   cases one with
   | true =>
    obtain rfl : b = mb := hG
    try clear hG
    cases nb with
    | true =>
     cases b with
     | true =>
      have HST2 : Hid ((l.take (i + 1)).filter (fun x => !goneE asid true va x) = L) := by have := HST.out; rw [Hid]; simpa using this
      go_wp2_with (go_at_call 81; refine D.mono ?_; rintro e w5 ⟨rfl, hb5⟩)
      go_roundw
      case rel => exact ⟨i + 1, A2, c2, by first | rfl | go_num, by rw [HST2.out], by omega, by rw [HST2.out]; exact HO.out.below hb5, HB.out.trans (Below.mono hb5 HB.out.size)⟩
      case measure => simp [RowKit.intOf]; omega
     | false =>
      have HST2 : Hid ((l.take (i + 1)).filter (fun x => !goneE asid true va x) = L ++ [⟨ya, yv, yl, ⟨yk, yo, y1, y2, y3, y4, yt⟩⟩]) := by have := HST.out; rw [Hid]; simpa using this
      go_wp2_with (first | (go_at_call 81; refine D.mono ?_; rintro e w5 ⟨rfl, hb5⟩; have HB5 := Lib.hid hb5; clear hb5; replace k0 := keep_cell HB5.out k0; replace k1 := keep_cell HB5.out k1; replace k2 := keep_cell HB5.out k2; replace k3 := keep_cell HB5.out k3; replace k4 := keep_cell HB5.out k4; replace k5 := keep_cell HB5.out k5; replace k6 := keep_cell HB5.out k6; replace k7 := keep_cell HB5.out k7; replace k8 := keep_cell HB5.out k8; replace k9 := keep_cell HB5.out k9; have gz5 : g < w5.heap.size := Nat.lt_of_lt_of_le gz HB5.out.size) | (at_builtin; refine wpList_append_row (by rfl) _ _ 32 (by rfl) 101 i0 (.agg #[.int .i64 0, .int .u64 0, .int .i64 0, .int .i64 0, .int .u64 0, .bool false, .bool false, .bool false, .bool false, .int .i64 0]) 10 56 Tryz.underlying32 I0.out I1.out I2.out I3.out rfl (by omega) (fun k => w.heap.size ≤ k) (.slice A2 L.length c2) L.length (rowL eL L) (by rfl) ((HO.out.below HB5.out).below (below1 w5 (.cells #[.int .i64 ya, .int .u64 yv, .int .i64 yl, .int .i64 yk, .int .u64 yo, .bool y1, .bool y2, .bool y3, .bool y4, .int .i64 yt] 101))) ⟨w5.heap.size, 0, none⟩ 1 1 [.int .i64 ya, .int .u64 yv, .int .i64 yl, .int .i64 yk, .int .u64 yo, .bool y1, .bool y2, .bool y3, .bool y4, .int .i64 yt] (by rfl) (by omega) rfl (by intro j u hu; rw [Addr.add_mid]; exact range_new w5 #[.int .i64 ya, .int .u64 yv, .int .i64 yl, .int .i64 yk, .int .u64 yo, .bool y1, .bool y2, .bool y3, .bool y4, .int .i64 yt] 101 j u hu) (eL_one ⟨ya, yv, yl, ⟨yk, yo, y1, y2, y3, y4, yt⟩⟩) (by have := HLE.out; unfold maxLen; omega) (by have := HLE.out; omega) ?_; intro A3 c3 W5 hrow5 hkp5))
      go_roundw
      case rel =>
       have hs5 : wr.heap.size ≤ w5.heap.size := Below.size HB5.out
       have hsb := HB.out.size
       refine ⟨i + 1, A3, c3, by first | rfl | go_num, by rw [HST2.out]; simp, by omega, ?_, ?_⟩
       ·rw [HST2.out, rowL_append, rowL_one, List.length_append]
        exact hrow5.mono (fun k _ y => y.elim id (fun z => by rw [World.size_alloc] at z; omega))
       ·exact hkp5.toBelow ((HB.out.trans (Below.mono HB5.out HB.out.size)).alloc (by omega) _) (by simp; omega) (fun k h => h)
      case measure => simp [RowKit.intOf]; omega
    | false =>
     cases b with
     | true =>
      have HST2 : Hid ((l.take (i + 1)).filter (fun x => !goneE asid true va x) = L) := by have := HST.out; rw [Hid]; simpa using this
      go_wp2_with (go_at_call 81; refine D.mono ?_; rintro e w5 ⟨rfl, hb5⟩)
      go_roundw
      case rel => exact ⟨i + 1, A2, c2, by first | rfl | go_num, by rw [HST2.out], by omega, by rw [HST2.out]; exact HO.out.below hb5, HB.out.trans (Below.mono hb5 HB.out.size)⟩
      case measure => simp [RowKit.intOf]; omega
     | false =>
      have HST2 : Hid ((l.take (i + 1)).filter (fun x => !goneE asid true va x) = L ++ [⟨ya, yv, yl, ⟨yk, yo, y1, y2, y3, y4, yt⟩⟩]) := by have := HST.out; rw [Hid]; simpa using this
      go_wp2_with (first | (go_at_call 81; refine D.mono ?_; rintro e w5 ⟨rfl, hb5⟩; have HB5 := Lib.hid hb5; clear hb5; replace k0 := keep_cell HB5.out k0; replace k1 := keep_cell HB5.out k1; replace k2 := keep_cell HB5.out k2; replace k3 := keep_cell HB5.out k3; replace k4 := keep_cell HB5.out k4; replace k5 := keep_cell HB5.out k5; replace k6 := keep_cell HB5.out k6; replace k7 := keep_cell HB5.out k7; replace k8 := keep_cell HB5.out k8; replace k9 := keep_cell HB5.out k9; have gz5 : g < w5.heap.size := Nat.lt_of_lt_of_le gz HB5.out.size) | (at_builtin; refine wpList_append_row (by rfl) _ _ 32 (by rfl) 101 i0 (.agg #[.int .i64 0, .int .u64 0, .int .i64 0, .int .i64 0, .int .u64 0, .bool false, .bool false, .bool false, .bool false, .int .i64 0]) 10 56 Tryz.underlying32 I0.out I1.out I2.out I3.out rfl (by omega) (fun k => w.heap.size ≤ k) (.slice A2 L.length c2) L.length (rowL eL L) (by rfl) ((HO.out.below HB5.out).below (below1 w5 (.cells #[.int .i64 ya, .int .u64 yv, .int .i64 yl, .int .i64 yk, .int .u64 yo, .bool y1, .bool y2, .bool y3, .bool y4, .int .i64 yt] 101))) ⟨w5.heap.size, 0, none⟩ 1 1 [.int .i64 ya, .int .u64 yv, .int .i64 yl, .int .i64 yk, .int .u64 yo, .bool y1, .bool y2, .bool y3, .bool y4, .int .i64 yt] (by rfl) (by omega) rfl (by intro j u hu; rw [Addr.add_mid]; exact range_new w5 #[.int .i64 ya, .int .u64 yv, .int .i64 yl, .int .i64 yk, .int .u64 yo, .bool y1, .bool y2, .bool y3, .bool y4, .int .i64 yt] 101 j u hu) (eL_one ⟨ya, yv, yl, ⟨yk, yo, y1, y2, y3, y4, yt⟩⟩) (by have := HLE.out; unfold maxLen; omega) (by have := HLE.out; omega) ?_; intro A3 c3 W5 hrow5 hkp5))
      go_roundw
      case rel =>
       have hs5 : wr.heap.size ≤ w5.heap.size := Below.size HB5.out
       have hsb := HB.out.size
       refine ⟨i + 1, A3, c3, by first | rfl | go_num, by rw [HST2.out]; simp, by omega, ?_, ?_⟩
       ·rw [HST2.out, rowL_append, rowL_one, List.length_append]
        exact hrow5.mono (fun k _ y => y.elim id (fun z => by rw [World.size_alloc] at z; omega))
       ·exact hkp5.toBelow ((HB.out.trans (Below.mono HB5.out HB.out.size)).alloc (by omega) _) (by simp; omega) (fun k h => h)
      case measure => simp [RowKit.intOf]; omega
   | false =>
    cases nb with
    | true =>
     obtain rfl : b = true := hG
     try clear hG
     have HST2 : Hid ((l.take (i + 1)).filter (fun x => !goneE asid false va x) = L) := by have := HST.out; rw [Hid]; simpa using this
     go_wp2
     go_roundw
     case rel => exact ⟨i + 1, A2, c2, by first | rfl | go_num, by rw [HST2.out], by omega, by rw [HST2.out]; exact HO.out.below (Below.refl wr.heap.size wr), HB.out.trans (Below.mono (Below.refl wr.heap.size wr) HB.out.size)⟩
     case measure => simp [RowKit.intOf]; omega
    | false =>
     obtain rfl : b = qb := hG
     try clear hG
     cases b with
     | true =>
      have HST2 : Hid ((l.take (i + 1)).filter (fun x => !goneE asid false va x) = L) := by have := HST.out; rw [Hid]; simpa using this
      go_wp2
      go_roundw
      case rel => exact ⟨i + 1, A2, c2, by first | rfl | go_num, by rw [HST2.out], by omega, by rw [HST2.out]; exact HO.out.below (Below.refl wr.heap.size wr), HB.out.trans (Below.mono (Below.refl wr.heap.size wr) HB.out.size)⟩
      case measure => simp [RowKit.intOf]; omega
     | false =>
      have HST2 : Hid ((l.take (i + 1)).filter (fun x => !goneE asid false va x) = L ++ [⟨ya, yv, yl, ⟨yk, yo, y1, y2, y3, y4, yt⟩⟩]) := by have := HST.out; rw [Hid]; simpa using this
      go_wp2_with (at_builtin; refine wpList_append_row (by rfl) _ _ 32 (by rfl) 101 i0 (.agg #[.int .i64 0, .int .u64 0, .int .i64 0, .int .i64 0, .int .u64 0, .bool false, .bool false, .bool false, .bool false, .int .i64 0]) 10 56 Tryz.underlying32 I0.out I1.out I2.out I3.out rfl (by omega) (fun k => w.heap.size ≤ k) (.slice A2 L.length c2) L.length (rowL eL L) (by rfl) ((HO.out.below (Below.refl wr.heap.size wr)).below (below1 wr (.cells #[.int .i64 ya, .int .u64 yv, .int .i64 yl, .int .i64 yk, .int .u64 yo, .bool y1, .bool y2, .bool y3, .bool y4, .int .i64 yt] 101))) ⟨wr.heap.size, 0, none⟩ 1 1 [.int .i64 ya, .int .u64 yv, .int .i64 yl, .int .i64 yk, .int .u64 yo, .bool y1, .bool y2, .bool y3, .bool y4, .int .i64 yt] (by rfl) (by omega) rfl (by intro j u hu; rw [Addr.add_mid]; exact range_new wr #[.int .i64 ya, .int .u64 yv, .int .i64 yl, .int .i64 yk, .int .u64 yo, .bool y1, .bool y2, .bool y3, .bool y4, .int .i64 yt] 101 j u hu) (eL_one ⟨ya, yv, yl, ⟨yk, yo, y1, y2, y3, y4, yt⟩⟩) (by have := HLE.out; unfold maxLen; omega) (by have := HLE.out; omega) ?_; intro A3 c3 W5 hrow5 hkp5)
      go_roundw
      case rel =>
       have hs5 : wr.heap.size ≤ wr.heap.size := Below.size (Below.refl wr.heap.size wr)
       have hsb := HB.out.size
       refine ⟨i + 1, A3, c3, by first | rfl | go_num, by rw [HST2.out]; simp, by omega, ?_, ?_⟩
       ·rw [HST2.out, rowL_append, rowL_one, List.length_append]
        exact hrow5.mono (fun k _ y => y.elim id (fun z => by rw [World.size_alloc] at z; omega))
       ·exact hkp5.toBelow ((HB.out.trans (Below.mono (Below.refl wr.heap.size wr) HB.out.size)).alloc (by omega) _) (by simp; omega) (fun k h => h)
      case measure => simp [RowKit.intOf]; omega
  ·obtain rfl : i = l.length := by omega
   have ht : Hid (l.take l.length = l) := List.take_length
   rw [ht.out] at HO ⊢
   obtain ⟨L, hL⟩ : ∃ L, l.filter (fun x => !goneE asid one va x) = L := ⟨_, rfl⟩
   rw [hL] at HO ⊢
   have HLF := Lib.hid hL
   clear hL
   go_wp2
   go_ret
   rw [HLF.out]
   exact ⟨A2, c2, rfl, HO.out.mono (fun k _ z => Or.inr z), HB.out⟩
theorem rinfoK' : (Tryz.prog.info? 122).map (fun i => (i.zero, i.size, i.bytes)) = some (some (.agg #[.int .i64 0, .int .u64 0, .int .i64 0, .int .u64 0]), 4, 32) := by kernel_rfl
set_option maxHeartbeats 2000000 in
theorem rflushK_nat (asid : Int) (one : Bool) (va : Nat) (l : List Mk) (A : Option Addr) (c : Nat) (w : World) (hn : l.length ≤ 1000) (hv : va < 18446744073709551616) (hl : ∀ x ∈ l, 1 ≤ x.level ∧ x.level ≤ 3) (h : RdRow w (.slice A l.length c) l.length (rowL mL l)) :
  Calls Tryz.prog 92 #[.slice A l.length c, .int .i64 asid, .bool one, .int .u64 va] w (RListPost mL 4 (fun _ => False) (l.filter (fun x => !goneM asid one va x)) w) := by
 obtain ⟨i0, hi0, hz0, hz1, hz2⟩ := info_parts rinfoK'
 have I0 := Lib.hid hi0
 have I1 := Lib.hid hz0
 have I2 := Lib.hid hz1
 have I3 := Lib.hid hz2
 have HN := Lib.hid hn
 have HR := Lib.hid h
 have HC : Hid (∀ x ∈ l, ∀ u, Calls Tryz.prog 121 #[mV x, .int .i64 asid, .int .u64 va] u fun e w' => e = .returned (.bool (leadM asid va x)) ∧ Below u.heap.size u w') := fun x hx u => rleads_nat x.asid x.va x.level x.table asid va u (hl x hx).1 (hl x hx).2 hv
 clear hi0 hz0 hz1 hz2 hn h hl
 go_enter Tryz.func92, Tryz.ntmps92
 go_wp2
 go_loopw [9, 10] (fun ov iv wr => ∃ (i : Nat) (A2 : Option Addr) (c2 : Nat), iv = .int .i64 i ∧ ov = .slice A2 ((l.take i).filter (fun x => !goneM asid one va x)).length c2 ∧ i ≤ l.length ∧ Hid (RowAt wr (fun k => w.heap.size ≤ k) 4 (.slice A2 ((l.take i).filter (fun x => !goneM asid one va x)).length c2) ((l.take i).filter (fun x => !goneM asid one va x)).length (rowL mL ((l.take i).filter (fun x => !goneM asid one va x)))) ∧ Hid (Below w.heap.size w wr)) (fun _ iv _ => l.length - (RowKit.intOf iv).toNat)
 case atStart => exact ⟨0, none, 0, rfl, by simp, by omega, by rw [Hid]; simpa [rowL] using RowAt.nil w _ 4, Below.refl _ _⟩
 case round =>
  obtain ⟨i, A2, c2, rfl, rfl, hi, HO, HB⟩ := hrel
  have hn2 : l.length ≤ 1000 := HN.out
  by_cases hlt : i < l.length
  ·obtain ⟨g, o, rfl, hr⟩ := HR.out.get (by omega)
   have hrng : wr.rangeAt g o (rowL mL l) := fun j v hj => keep_cell HB.out (hr j v hj)
   have k0 := row_at0 mL_len hrng i hlt _ rfl
   have k1 := row_at mL_len hrng i hlt 1 _ rfl
   have k2 := row_at mL_len hrng i hlt 2 _ rfl
   have k3 := row_at mL_len hrng i hlt 3 _ rfl
   have i1 : (0 : Int) ≤ (i : Int) := by omega
   have i2 : (i : Int) < (l.length : Int) := by omega
   have hst := filter_take_succ (fun x => !goneM asid one va x) l i hlt
   have hle0 : ((l.take i).filter (fun x => !goneM asid one va x)).length ≤ i := Nat.le_trans (List.length_filter_le _ _) (by simp; omega)
   have HLE := Lib.hid hle0
   have D := HC.out l[i] (List.getElem_mem hlt) wr
   clear hrng hr hle0
   generalize (l.take i).filter (fun x => !goneM asid one va x) = L at *
   generalize l[i] = y at *
   have hG : goneM asid one va y = if one then leadM asid va y else decide (asid < 0) || ((y.asid : Int) == asid) := rfl
   generalize goneM asid one va y = b at *
   generalize leadM asid va y = mb at *
   have HST := Lib.hid hst
   clear hst
   have gz : g < wr.heap.size := World.block_lt_of_cell? wr _ k0
   try dsimp only at gz
   obtain ⟨ya, yv, yl, yt⟩ := y
   dsimp only [mV] at D
   try dsimp only at k0 k1 k2 k3
   try dsimp only at hG
   generalize hq : ((ya : Int) == asid) = qb at *
   generalize hdn : decide (asid < 0) = nb at *
   cases one with
   | true =>
    obtain rfl : b = mb := hG
    try clear hG
    cases nb with
    | true =>
     cases b with
     | true =>
      have HST2 : Hid ((l.take (i + 1)).filter (fun x => !goneM asid true va x) = L) := by have := HST.out; rw [Hid]; simpa using this
      go_wp2_with (go_at_call 121; refine D.mono ?_; rintro e w5 ⟨rfl, hb5⟩)
      go_roundw
      case rel => exact ⟨i + 1, A2, c2, by first | rfl | go_num, by rw [HST2.out], by omega, by rw [HST2.out]; exact HO.out.below hb5, HB.out.trans (Below.mono hb5 HB.out.size)⟩
      case measure => simp [RowKit.intOf]; omega
     | false =>
      have HST2 : Hid ((l.take (i + 1)).filter (fun x => !goneM asid true va x) = L ++ [⟨ya, yv, yl, yt⟩]) := by have := HST.out; rw [Hid]; simpa using this
      go_wp2_with (first | (go_at_call 121; refine D.mono ?_; rintro e w5 ⟨rfl, hb5⟩; have HB5 := Lib.hid hb5; clear hb5; replace k0 := keep_cell HB5.out k0; replace k1 := keep_cell HB5.out k1; replace k2 := keep_cell HB5.out k2; replace k3 := keep_cell HB5.out k3; have gz5 : g < w5.heap.size := Nat.lt_of_lt_of_le gz HB5.out.size) | (at_builtin; refine wpList_append_row (by rfl) _ _ 33 (by rfl) 122 i0 (.agg #[.int .i64 0, .int .u64 0, .int .i64 0, .int .u64 0]) 4 32 Tryz.underlying33 I0.out I1.out I2.out I3.out rfl (by omega) (fun k => w.heap.size ≤ k) (.slice A2 L.length c2) L.length (rowL mL L) (by rfl) ((HO.out.below HB5.out).below (below1 w5 (.cells #[.int .i64 ya, .int .u64 yv, .int .i64 yl, .int .u64 yt] 122))) ⟨w5.heap.size, 0, none⟩ 1 1 [.int .i64 ya, .int .u64 yv, .int .i64 yl, .int .u64 yt] (by rfl) (by omega) rfl (by intro j u hu; rw [Addr.add_mid]; exact range_new w5 #[.int .i64 ya, .int .u64 yv, .int .i64 yl, .int .u64 yt] 122 j u hu) (mL_one ⟨ya, yv, yl, yt⟩) (by have := HLE.out; unfold maxLen; omega) (by have := HLE.out; omega) ?_; intro A3 c3 W5 hrow5 hkp5))
      go_roundw
      case rel =>
       have hs5 : wr.heap.size ≤ w5.heap.size := Below.size HB5.out
       have hsb := HB.out.size
       refine ⟨i + 1, A3, c3, by first | rfl | go_num, by rw [HST2.out]; simp, by omega, ?_, ?_⟩
       ·rw [HST2.out, rowL_append, rowL_one, List.length_append]
        exact hrow5.mono (fun k _ y => y.elim id (fun z => by rw [World.size_alloc] at z; omega))
       ·exact hkp5.toBelow ((HB.out.trans (Below.mono HB5.out HB.out.size)).alloc (by omega) _) (by simp; omega) (fun k h => h)
      case measure => simp [RowKit.intOf]; omega
    | false =>
     cases b with
     | true =>
      have HST2 : Hid ((l.take (i + 1)).filter (fun x => !goneM asid true va x) = L) := by have := HST.out; rw [Hid]; simpa using this
      go_wp2_with (go_at_call 121; refine D.mono ?_; rintro e w5 ⟨rfl, hb5⟩)
      go_roundw
      case rel => exact ⟨i + 1, A2, c2, by first | rfl | go_num, by rw [HST2.out], by omega, by rw [HST2.out]; exact HO.out.below hb5, HB.out.trans (Below.mono hb5 HB.out.size)⟩
      case measure => simp [RowKit.intOf]; omega
     | false =>
      have HST2 : Hid ((l.take (i + 1)).filter (fun x => !goneM asid true va x) = L ++ [⟨ya, yv, yl, yt⟩]) := by have := HST.out; rw [Hid]; simpa using this
      go_wp2_with (first | (go_at_call 121; refine D.mono ?_; rintro e w5 ⟨rfl, hb5⟩; have HB5 := Lib.hid hb5; clear hb5; replace k0 := keep_cell HB5.out k0; replace k1 := keep_cell HB5.out k1; replace k2 := keep_cell HB5.out k2; replace k3 := keep_cell HB5.out k3; have gz5 : g < w5.heap.size := Nat.lt_of_lt_of_le gz HB5.out.size) | (at_builtin; refine wpList_append_row (by rfl) _ _ 33 (by rfl) 122 i0 (.agg #[.int .i64 0, .int .u64 0, .int .i64 0, .int .u64 0]) 4 32 Tryz.underlying33 I0.out I1.out I2.out I3.out rfl (by omega) (fun k => w.heap.size ≤ k) (.slice A2 L.length c2) L.length (rowL mL L) (by rfl) ((HO.out.below HB5.out).below (below1 w5 (.cells #[.int .i64 ya, .int .u64 yv, .int .i64 yl, .int .u64 yt] 122))) ⟨w5.heap.size, 0, none⟩ 1 1 [.int .i64 ya, .int .u64 yv, .int .i64 yl, .int .u64 yt] (by rfl) (by omega) rfl (by intro j u hu; rw [Addr.add_mid]; exact range_new w5 #[.int .i64 ya, .int .u64 yv, .int .i64 yl, .int .u64 yt] 122 j u hu) (mL_one ⟨ya, yv, yl, yt⟩) (by have := HLE.out; unfold maxLen; omega) (by have := HLE.out; omega) ?_; intro A3 c3 W5 hrow5 hkp5))
      go_roundw
      case rel =>
       have hs5 : wr.heap.size ≤ w5.heap.size := Below.size HB5.out
       have hsb := HB.out.size
       refine ⟨i + 1, A3, c3, by first | rfl | go_num, by rw [HST2.out]; simp, by omega, ?_, ?_⟩
       ·rw [HST2.out, rowL_append, rowL_one, List.length_append]
        exact hrow5.mono (fun k _ y => y.elim id (fun z => by rw [World.size_alloc] at z; omega))
       ·exact hkp5.toBelow ((HB.out.trans (Below.mono HB5.out HB.out.size)).alloc (by omega) _) (by simp; omega) (fun k h => h)
      case measure => simp [RowKit.intOf]; omega
   | false =>
    cases nb with
    | true =>
     obtain rfl : b = true := hG
     try clear hG
     have HST2 : Hid ((l.take (i + 1)).filter (fun x => !goneM asid false va x) = L) := by have := HST.out; rw [Hid]; simpa using this
     go_wp2
     go_roundw
     case rel => exact ⟨i + 1, A2, c2, by first | rfl | go_num, by rw [HST2.out], by omega, by rw [HST2.out]; exact HO.out.below (Below.refl wr.heap.size wr), HB.out.trans (Below.mono (Below.refl wr.heap.size wr) HB.out.size)⟩
     case measure => simp [RowKit.intOf]; omega
    | false =>
     obtain rfl : b = qb := hG
     try clear hG
     cases b with
     | true =>
      have HST2 : Hid ((l.take (i + 1)).filter (fun x => !goneM asid false va x) = L) := by have := HST.out; rw [Hid]; simpa using this
      go_wp2
      go_roundw
      case rel => exact ⟨i + 1, A2, c2, by first | rfl | go_num, by rw [HST2.out], by omega, by rw [HST2.out]; exact HO.out.below (Below.refl wr.heap.size wr), HB.out.trans (Below.mono (Below.refl wr.heap.size wr) HB.out.size)⟩
      case measure => simp [RowKit.intOf]; omega
     | false =>
      have HST2 : Hid ((l.take (i + 1)).filter (fun x => !goneM asid false va x) = L ++ [⟨ya, yv, yl, yt⟩]) := by have := HST.out; rw [Hid]; simpa using this
      go_wp2_with (at_builtin; refine wpList_append_row (by rfl) _ _ 33 (by rfl) 122 i0 (.agg #[.int .i64 0, .int .u64 0, .int .i64 0, .int .u64 0]) 4 32 Tryz.underlying33 I0.out I1.out I2.out I3.out rfl (by omega) (fun k => w.heap.size ≤ k) (.slice A2 L.length c2) L.length (rowL mL L) (by rfl) ((HO.out.below (Below.refl wr.heap.size wr)).below (below1 wr (.cells #[.int .i64 ya, .int .u64 yv, .int .i64 yl, .int .u64 yt] 122))) ⟨wr.heap.size, 0, none⟩ 1 1 [.int .i64 ya, .int .u64 yv, .int .i64 yl, .int .u64 yt] (by rfl) (by omega) rfl (by intro j u hu; rw [Addr.add_mid]; exact range_new wr #[.int .i64 ya, .int .u64 yv, .int .i64 yl, .int .u64 yt] 122 j u hu) (mL_one ⟨ya, yv, yl, yt⟩) (by have := HLE.out; unfold maxLen; omega) (by have := HLE.out; omega) ?_; intro A3 c3 W5 hrow5 hkp5)
      go_roundw
      case rel =>
       have hs5 : wr.heap.size ≤ wr.heap.size := Below.size (Below.refl wr.heap.size wr)
       have hsb := HB.out.size
       refine ⟨i + 1, A3, c3, by first | rfl | go_num, by rw [HST2.out]; simp, by omega, ?_, ?_⟩
       ·rw [HST2.out, rowL_append, rowL_one, List.length_append]
        exact hrow5.mono (fun k _ y => y.elim id (fun z => by rw [World.size_alloc] at z; omega))
       ·exact hkp5.toBelow ((HB.out.trans (Below.mono (Below.refl wr.heap.size wr) HB.out.size)).alloc (by omega) _) (by simp; omega) (fun k h => h)
      case measure => simp [RowKit.intOf]; omega
  ·obtain rfl : i = l.length := by omega
   have ht : Hid (l.take l.length = l) := List.take_length
   rw [ht.out] at HO ⊢
   obtain ⟨L, hL⟩ : ∃ L, l.filter (fun x => !goneM asid one va x) = L := ⟨_, rfl⟩
   rw [hL] at HO ⊢
   have HLF := Lib.hid hL
   clear hL
   go_wp2
   go_ret
   rw [HLF.out]
   exact ⟨A2, c2, rfl, HO.out.mono (fun k _ z => Or.inr z), HB.out⟩
end Go.Proofs.YtbapgngngaaojaaGreat
namespace Go.Proofs.YtbapgngngaaojaaGreat
open Go.RowKit Go.Lib
set_option maxRecDepth 100000
set_option maxHeartbeats 1000000 in
theorem rguess_off (sz most root asid va : Nat) (fill led keep : Bool) (A1 A2 A3 A4 : Option Addr) (n1 n2 n3 n4 c1 c2 c3 c4 : Nat) (w : World) :
  Calls Tryz.prog 44 #[xV sz most root asid false (.slice A1 n1 c1) (.slice A2 n2 c2) (.slice A3 n3 c3) (.slice A4 n4 c4), .int .u64 va, .agg #[.bool fill, .bool led, .bool keep]] w fun e w' => e = .returned (xV sz most root asid false (.slice A1 n1 c1) (.slice A2 n2 c2) (.slice A3 n3 c3) (.slice A4 n4 c4)) ∧ Below w.heap.size w w' := by
 unfold xV
 go_enter Tryz.func44, Tryz.ntmps44
 go_upto_region 1 with fail
 generalize hW : World.alloc (World.alloc (World.alloc w _) _) _ = W
 have HXB : Hid (Box W w.heap.size (xC sz most root asid false (.slice A1 n1 c1) (.slice A2 n2 c2) (.slice A3 n3 c3) (.slice A4 n4 c4))) := by
  rw [← hW]
  exact ((Box.new w (xC sz most root asid false (.slice A1 n1 c1) (.slice A2 n2 c2) (.slice A3 n3 c3) (.slice A4 n4 c4)) 36).below (below1 _ _)).below (below1 _ _)
 have H6B : Hid (Box W (w.heap.size + 2) (xC 0 0 0 0 false (.slice none 0 0) (.slice none 0 0) (.slice none 0 0) (.slice none 0 0))) := by
  rw [← hW]
  exact Box.new' ((w.alloc (.cells (xC sz most root asid false (.slice A1 n1 c1) (.slice A2 n2 c2) (.slice A3 n3 c3) (.slice A4 n4 c4)).toArray 36)).alloc (.cells #[.bool fill, .bool led, .bool keep] 41)) _ (by simp) (xC 0 0 0 0 false (.slice none 0 0) (.slice none 0 0) (.slice none 0 0) (.slice none 0 0)) 36
 have HB0 : Hid (Below w.heap.size w W) := by rw [← hW]; exact ((below1 w _).alloc (by simp) _).alloc (by simp; omega) _
 clear hW
 have BX := HXB.out
 have x0 := BX.at 0 _ rfl
 have x1 := BX.at 1 _ rfl
 have x2 := BX.at 2 _ rfl
 have x3 := BX.at 3 _ rfl
 have x4 := BX.at 4 _ rfl
 have x5 := BX.at 5 _ rfl
 have x6 := BX.at 6 _ rfl
 have x7 := BX.at 7 _ rfl
 have x8 := BX.at 8 _ rfl
 have fx := BX.2.1
 have zx := BX.2.2
 have BP := H6B.out
 have p0 := BP.at 0 _ rfl
 have p1 := BP.at 1 _ rfl
 have p2 := BP.at 2 _ rfl
 have p3 := BP.at 3 _ rfl
 have p4 := BP.at 4 _ rfl
 have p5 := BP.at 5 _ rfl
 have p6 := BP.at 6 _ rfl
 have p7 := BP.at 7 _ rfl
 have p8 := BP.at 8 _ rfl
 have fp := BP.2.1
 have zp := BP.2.2
 clear BX BP fx
 go_wp2
 refine bodyPost_ret (v := xV sz most root asid false (.slice A1 n1 c1) (.slice A2 n2 c2) (.slice A3 n3 c3) (.slice A4 n4 c4)) (by simp [results, Tryz.results44, go_sem, zp, p0, p1, p2, p3, p4, p5, p6, p7, p8, xV]) rfl ?_
 rw [set9_eq]
 exact ⟨rfl, below_setCells HB0.out (b := w.heap.size + 1 + 1) (by omega) 0 _⟩
def flushE (l : List Ent) (asid : Int) (one : Bool) (va : Nat) : List Ent := l.filter (fun x => !goneE asid one va x)
def flushK (l : List Mk) (asid : Int) (one : Bool) (va : Nat) : List Mk := l.filter (fun x => !goneM asid one va x)
/-- What the document's flush leaves: rows of its own. -/
def RFlushPost (sz most root asid : Nat) (on : Bool) (vw vp : Value) (es : List Ent) (ks : List Mk) (w : World) (e : Ending) (w' : World) : Prop :=
 ∃ A2 c2 A3 c3, e = .returned (xV sz most root asid on vw (.slice A2 es.length c2) (.slice A3 ks.length c3) vp) ∧ RowAt w' (fun k => w.heap.size ≤ k) 10 (.slice A2 es.length c2) es.length (rowL eL es) ∧ RowAt w' (fun k => w.heap.size ≤ k) 4 (.slice A3 ks.length c3) ks.length (rowL mL ks) ∧ Below w.heap.size w w'
end Go.Proofs.YtbapgngngaaojaaGreat
namespace Go.Proofs.YtbapgngngaaojaaGreat
open Go.RowKit Go.Lib
set_option maxRecDepth 100000
set_option maxHeartbeats 3000000 in
theorem rxflush_nat (sz most root asid : Nat) (on : Bool) (es : List Ent) (ks : List Mk) (a2 : Int) (one : Bool) (va : Nat) (A1 A2 A3 A4 : Option Addr) (n1 n4 c1 c2 c3 c4 : Nat) (w : World) (hv : va < 18446744073709551616)
  (hen : es.length ≤ 1000) (hkn : ks.length ≤ 1000) (hel : ∀ y ∈ es, y.level ≤ 3) (hkl : ∀ y ∈ ks, 1 ≤ y.level ∧ y.level ≤ 3) (h2 : RdRow w (.slice A2 es.length c2) es.length (rowL eL es)) (h3 : RdRow w (.slice A3 ks.length c3) ks.length (rowL mL ks)) :
  Calls Tryz.prog 46 #[xV sz most root asid on (.slice A1 n1 c1) (.slice A2 es.length c2) (.slice A3 ks.length c3) (.slice A4 n4 c4), .int .i64 a2, .bool one, .int .u64 va] w (RFlushPost sz most root asid on (.slice A1 n1 c1) (.slice A4 n4 c4) (flushE es a2 one va) (flushK ks a2 one va) w) := by
 have C1 : Hid (∀ u, Below w.heap.size w u → Calls Tryz.prog 91 #[.slice A2 es.length c2, .int .i64 a2, .bool one, .int .u64 va] u (RListPost eL 10 (fun _ => False) (flushE es a2 one va) u)) := fun u hb => rflushE_nat a2 one va es A2 c2 u hen hv hel (h2.below hb)
 have C2 : Hid (∀ u, Below w.heap.size w u → Calls Tryz.prog 92 #[.slice A3 ks.length c3, .int .i64 a2, .bool one, .int .u64 va] u (RListPost mL 4 (fun _ => False) (flushK ks a2 one va) u)) := fun u hb => rflushK_nat a2 one va ks A3 c3 u hkn hv hkl (h3.below hb)
 generalize flushE es a2 one va = E at *
 generalize flushK ks a2 one va = K at *
 clear h2 h3 hen hkn hel hkl hv
 unfold xV
 go_enter Tryz.func46, Tryz.ntmps46
 go_upto_region 1 with fail
 generalize hW : World.alloc (World.alloc w _) _ = W
 have HXB : Hid (Box W w.heap.size (xC sz most root asid on (.slice A1 n1 c1) (.slice A2 es.length c2) (.slice A3 ks.length c3) (.slice A4 n4 c4))) := by
  rw [← hW]
  exact (Box.new w (xC sz most root asid on (.slice A1 n1 c1) (.slice A2 es.length c2) (.slice A3 ks.length c3) (.slice A4 n4 c4)) 36).below (below1 _ _)
 have H6B : Hid (Box W (w.heap.size + 1) (xC 0 0 0 0 false (.slice none 0 0) (.slice none 0 0) (.slice none 0 0) (.slice none 0 0))) := by
  rw [← hW]
  exact Box.new' (w.alloc (.cells (xC sz most root asid on (.slice A1 n1 c1) (.slice A2 es.length c2) (.slice A3 ks.length c3) (.slice A4 n4 c4)).toArray 36)) _ (by simp) (xC 0 0 0 0 false (.slice none 0 0) (.slice none 0 0) (.slice none 0 0) (.slice none 0 0)) 36
 have HB0 : Hid (Below w.heap.size w W) := by rw [← hW]; exact (below1 w _).alloc (by simp) _
 clear hW
 have BX := HXB.out
 have x0 := BX.at 0 _ rfl
 have x1 := BX.at 1 _ rfl
 have x2 := BX.at 2 _ rfl
 have x3 := BX.at 3 _ rfl
 have x4 := BX.at 4 _ rfl
 have x5 := BX.at 5 _ rfl
 have x6 := BX.at 6 _ rfl
 have x7 := BX.at 7 _ rfl
 have x8 := BX.at 8 _ rfl
 have fx := BX.2.1
 have zx := BX.2.2
 clear BX
 go_upto_region 2 with (go_at_call 91; refine (C1.out _ HB0.out).mono ?_; rintro e w1 ⟨A5, c5, rfl, hrow, hb1⟩; have HROW5 := Lib.hid hrow; have HB1 := Lib.hid hb1; clear hrow; have x3' := keep_cell hb1 x3; have fx' : w1.frozen? ⟨w.heap.size, 3, none⟩ = false := keep_frozen hb1 zx (fx 3); clear hb1)
 have HX1 : Hid (Box (w1.setCell ⟨w.heap.size, 3, none⟩ (.slice A5 E.length c5)) w.heap.size (xC sz most root asid on (.slice A1 n1 c1) (.slice A5 E.length c5) (.slice A3 ks.length c3) (.slice A4 n4 c4))) := (HXB.out.below HB1.out).setAt 3 (by simp [xC]) _
 have hk1 : Kp (fun k => k = w.heap.size) w1 (w1.setCell ⟨w.heap.size, 3, none⟩ (.slice A5 E.length c5)) := (Kp.refl (fun k => k = w.heap.size) w1).setCell (p := ⟨w.heap.size, 3, none⟩) (.inl rfl) _
 have hz0 : w.heap.size + 1 < W.heap.size := H6B.out.2.2
 have H61 : Hid (Box (w1.setCell ⟨w.heap.size, 3, none⟩ (.slice A5 E.length c5)) (w.heap.size + 1) (xC 0 0 0 0 false (.slice none 0 0) (.slice none 0 0) (.slice none 0 0) (.slice none 0 0))) := (H6B.out.below HB1.out).kept hk1 (by omega)
 have HB2 : Hid (Below w.heap.size w (w1.setCell ⟨w.heap.size, 3, none⟩ (.slice A5 E.length c5))) := hk1.toBelow (HB0.out.trans (HB1.out.mono HB0.out.size)) (Nat.le_trans HB0.out.size HB1.out.size) (fun k e => by omega)
 have HR5 : Hid (RowAt (w1.setCell ⟨w.heap.size, 3, none⟩ (.slice A5 E.length c5)) (fun k => W.heap.size ≤ k) 10 (.slice A5 E.length c5) E.length (rowL eL E)) := (HROW5.out.mono (fun k _ y => y.elim (fun f => f.elim) id)).far (by omega) _ _
 have hz1 : W.heap.size ≤ w1.heap.size := HB1.out.size
 clear hk1 HROW5 HB1 x0 x1 x2 x3 x4 x5 x6 x7 x8 fx zx x3' fx' HXB H6B HB0
 have hz2 : (w1.setCell ⟨w.heap.size, 3, none⟩ (.slice A5 E.length c5)).heap.size = w1.heap.size := World.size_setCell _ _ _
 generalize w1.setCell _ _ = W2 at *
 have BX := HX1.out
 have x0 := BX.at 0 _ rfl
 have x1 := BX.at 1 _ rfl
 have x2 := BX.at 2 _ rfl
 have x3 := BX.at 3 _ rfl
 have x4 := BX.at 4 _ rfl
 have x5 := BX.at 5 _ rfl
 have x6 := BX.at 6 _ rfl
 have x7 := BX.at 7 _ rfl
 have x8 := BX.at 8 _ rfl
 have fx := BX.2.1
 have zx := BX.2.2
 clear BX
 go_upto_region 3 with (go_at_call 92; refine (C2.out _ HB2.out).mono ?_; rintro e w3 ⟨A6, c6, rfl, hrow, hb1⟩; have HROW6 := Lib.hid hrow; have HB3 := Lib.hid hb1; clear hrow; have x4' := keep_cell hb1 x4; have fx' : w3.frozen? ⟨w.heap.size, 4, none⟩ = false := keep_frozen hb1 zx (fx 4); clear hb1)
 have HX3 : Hid (Box (w3.setCell ⟨w.heap.size, 4, none⟩ (.slice A6 K.length c6)) w.heap.size (xC sz most root asid on (.slice A1 n1 c1) (.slice A5 E.length c5) (.slice A6 K.length c6) (.slice A4 n4 c4))) := (HX1.out.below HB3.out).setAt 4 (by simp [xC]) _
 have hk1 : Kp (fun k => k = w.heap.size) w3 (w3.setCell ⟨w.heap.size, 4, none⟩ (.slice A6 K.length c6)) := (Kp.refl (fun k => k = w.heap.size) w3).setCell (p := ⟨w.heap.size, 4, none⟩) (.inl rfl) _
 have H63 : Hid (Box (w3.setCell ⟨w.heap.size, 4, none⟩ (.slice A6 K.length c6)) (w.heap.size + 1) (xC 0 0 0 0 false (.slice none 0 0) (.slice none 0 0) (.slice none 0 0) (.slice none 0 0))) := (H61.out.below HB3.out).kept hk1 (by omega)
 have HB4 : Hid (Below w.heap.size w (w3.setCell ⟨w.heap.size, 4, none⟩ (.slice A6 K.length c6))) := hk1.toBelow (HB2.out.trans (HB3.out.mono HB2.out.size)) (Nat.le_trans HB2.out.size HB3.out.size) (fun k e => by omega)
 have HR7 : Hid (RowAt (w3.setCell ⟨w.heap.size, 4, none⟩ (.slice A6 K.length c6)) (fun k => W.heap.size ≤ k) 10 (.slice A5 E.length c5) E.length (rowL eL E)) := (HR5.out.below HB3.out).far (by omega) _ _
 have HR6 : Hid (RowAt (w3.setCell ⟨w.heap.size, 4, none⟩ (.slice A6 K.length c6)) (fun k => W2.heap.size ≤ k) 4 (.slice A6 K.length c6) K.length (rowL mL K)) := (HROW6.out.mono (fun k _ y => y.elim (fun f => f.elim) id)).far (by omega) _ _
 clear hk1 HROW6 HB3 x0 x1 x2 x3 x4 x5 x6 x7 x8 fx zx x4' fx' HX1 H61 HB2 HR5
 generalize w3.setCell _ _ = W4 at *
 have BX := HX3.out
 have x0 := BX.at 0 _ rfl
 have x1 := BX.at 1 _ rfl
 have x2 := BX.at 2 _ rfl
 have x3 := BX.at 3 _ rfl
 have x4 := BX.at 4 _ rfl
 have x5 := BX.at 5 _ rfl
 have x6 := BX.at 6 _ rfl
 have x7 := BX.at 7 _ rfl
 have x8 := BX.at 8 _ rfl
 have fx := BX.2.1
 have zx := BX.2.2
 have BP := H63.out
 have p0 := BP.at 0 _ rfl
 have p1 := BP.at 1 _ rfl
 have p2 := BP.at 2 _ rfl
 have p3 := BP.at 3 _ rfl
 have p4 := BP.at 4 _ rfl
 have p5 := BP.at 5 _ rfl
 have p6 := BP.at 6 _ rfl
 have p7 := BP.at 7 _ rfl
 have p8 := BP.at 8 _ rfl
 have fp := BP.2.1
 have zp := BP.2.2
 clear BX BP fx
 go_wp2
 refine bodyPost_ret (v := xV sz most root asid on (.slice A1 n1 c1) (.slice A5 E.length c5) (.slice A6 K.length c6) (.slice A4 n4 c4)) (by simp [results, Tryz.results46, go_sem, zp, p0, p1, p2, p3, p4, p5, p6, p7, p8, xV]) rfl ?_
 rw [set9_eq]
 have hk : Kp (fun k => k = w.heap.size + 1) W4 (W4.setCells (w.heap.size + 1) 0 (xC sz most root asid on (.slice A1 n1 c1) (.slice A5 E.length c5) (.slice A6 K.length c6) (.slice A4 n4 c4))) := (Kp.refl (fun k => k = w.heap.size + 1) W4).setCells (.inl rfl) 0 _
 exact ⟨A5, c5, A6, c6, rfl, (HR7.out.kept hk (fun k y e => by omega)).mono (fun k _ y => by omega), (HR6.out.kept hk (fun k y e => by omega)).mono (fun k _ y => by omega), hk.toBelow HB4.out HB4.out.size (fun k e => by omega)⟩
end Go.Proofs.YtbapgngngaaojaaGreat
