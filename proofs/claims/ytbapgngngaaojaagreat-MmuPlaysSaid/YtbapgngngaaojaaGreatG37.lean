/- The law's opened, where the machine may not hold so many (or none), and where the words are too many. Plain: the document's example, in numbers. The walk of the law's anchor: the document's example is so. The walk of the ninth reference's table. -/
import Derived.Test.YtbapgngngaaojaaGreatG25
import Derived.Test.YtbapgngngaaojaaGreatG27
import Derived.KernelRfl
import Derived.Test.YtbapgngngaaojaaGreatG24
set_option linter.unusedSimpArgs false
set_option linter.unusedVariables false
namespace Go.Proofs.YtbapgngngaaojaaGreat
open Go.RowKit Go.Lib
set_option maxRecDepth 100000
def xJ (sz : Nat) (most : Int) (root asid : Nat) (on : Bool) (v1 v2 v3 v4 : Value) : List Value := [.int .u64 sz, v1, .int .i64 most, v2, v3, .bool on, .int .u64 root, .int .i64 asid, v4]
def xW (sz : Nat) (most : Int) (root asid : Nat) (on : Bool) (v1 v2 v3 v4 : Value) : Value := .agg #[.int .u64 sz, v1, .int .i64 most, v2, v3, .bool on, .int .u64 root, .int .i64 asid, v4]
def OpenBad (most : Int) (ws : List (Nat × Nat)) (w : World) (e : Ending) (w' : World) : Prop :=
 ∃ A c, e = .returned (.tuple #[.pointer none, xW 1048576 most 0 0 false (.slice A ws.length c) (.slice none 0 0) (.slice none 0 0) (.slice none 0 0), .bool false]) ∧ Below w.heap.size w w'
theorem tlbNew_bad (most : Int) (w : World) (h : most < 1 ∨ 64 < most) : Calls Tryz.prog 75 #[.int .i64 most] w fun e w' => e = .returned (.tuple #[.pointer none, .int .i64 12]) ∧ Below w.heap.size w w' := by
 have hcase : (decide (most < 1) = true ∧ most < 1) ∨ (decide (most < 1) = false ∧ decide (64 < most) = true) := by
  by_cases h1 : most < 1
  ·exact .inl ⟨decide_eq_true h1, h1⟩
  ·exact .inr ⟨decide_eq_false h1, decide_eq_true (h.resolve_left h1)⟩
 clear h
 rcases hcase with ⟨d1, h1⟩ | ⟨d1, d2⟩
 ·clear h1
  go_enter Tryz.func75, Tryz.ntmps75
  go_wp2
  go_ret2
  exact ⟨rfl, Below.refl _ _⟩
 ·go_enter Tryz.func75, Tryz.ntmps75
  go_wp2
  go_ret2
  exact ⟨rfl, Below.refl _ _⟩
theorem mnew_bad (m : Nat) (most : Int) (w : World) (h : most < 1 ∨ 64 < most) : Calls Tryz.prog 32 #[.pointer (some ⟨m, 0, none⟩), .int .i64 most] w fun e w' => e = .returned (.tuple #[.pointer none, .int .i64 12]) ∧ Below w.heap.size w w' := by
 have C1 := Lib.hid (tlbNew_bad most w h)
 clear h
 go_enter Tryz.func32, Tryz.ntmps32
 go_wp2_with (go_at_call 75; refine C1.out.mono ?_; rintro e w1 ⟨rfl, hb⟩; have HB := Lib.hid hb; clear hb)
 go_ret2
 exact ⟨rfl, HB.out⟩
/-- What stands while the words are written. -/
structure LJ (w : World) (g5 g9 m : Nat) (most : Int) (rd : Nat → Nat) (ws : List (Nat × Nat)) (A : Option Addr) (c : Nat) (Fm Or : Nat → Prop) (u : World) : Prop where
 y : Box u g9 (xJ 1048576 most 0 0 false (.slice A ws.length c) (.slice none 0 0) (.slice none 0 0) (.slice none 0 0))
 z : Box u g5 (xC 0 0 0 0 false (.slice none 0 0) (.slice none 0 0) (.slice none 0 0) (.slice none 0 0))
 mem : MemAt u Fm m 1048576 rd
 row : RowAt u Or 2 (.slice A ws.length c) ws.length (rowL wL ws)
 fm : ∀ k, Fm k → w.heap.size ≤ k ∧ k < u.heap.size ∧ k ≠ g5 ∧ k ≠ g9
 or : ∀ k, Or k → w.heap.size ≤ k ∧ k < u.heap.size ∧ ¬ Fm k ∧ k ≠ g5 ∧ k ≠ g9
 b : Below w.heap.size w u
 ge : w.heap.size ≤ g5 ∧ w.heap.size ≤ g9 ∧ g5 ≠ g9
section
variable {w u u' : World} {g5 g9 m : Nat} {most : Int} {rd rd' : Nat → Nat} {ws ws' : List (Nat × Nat)} {A A' : Option Addr} {c c' : Nat} {Fm Or : Nat → Prop}
theorem LJ.below (h : LJ w g5 g9 m most rd ws A c Fm Or u) (hb : Below u.heap.size u u') : LJ w g5 g9 m most rd ws A c Fm Or u' :=
 ⟨h.y.below hb, h.z.below hb, h.mem.below hb, h.row.below hb, fun k y => ⟨(h.fm k y).1, Nat.lt_of_lt_of_le (h.fm k y).2.1 hb.size, (h.fm k y).2.2⟩, fun k y => ⟨(h.or k y).1, Nat.lt_of_lt_of_le (h.or k y).2.1 hb.size, (h.or k y).2.2⟩, h.b.trans (hb.mono h.b.size), h.ge⟩
theorem LJ.wrote {v : Value} {e : Ending} (h : LJ w g5 g9 m most rd ws A c Fm Or u) (hp : PutPost Fm m 1048576 rd' v u e u') : LJ w g5 g9 m most rd' ws A c (Gr Fm u u') Or u' := by
 obtain ⟨-, hm, hk⟩ := hp
 have hs := hk.size
 have h5 := h.z.2.2
 have h9 := h.y.2.2
 refine ⟨h.y.kept hk (fun y => (h.fm _ y).2.2.2 rfl), h.z.kept hk (fun y => (h.fm _ y).2.2.1 rfl), hm.mono (fun k hk y => y.imp id (fun z => ⟨z, hk⟩)), h.row.kept hk (fun k ho hf => (h.or k ho).2.2.1 hf), ?_, ?_, hk.toBelow h.b h.b.size (fun k y => (h.fm k y).1), h.ge⟩
 ·rintro k (y | y)
  ·have := h.fm k y; exact ⟨this.1, by omega, this.2.2⟩
  ·have := h.b.size; exact ⟨by omega, y.2, by omega, by omega⟩
 ·intro k y
  have := h.or k y
  exact ⟨this.1, by omega, Gr.not this.2.2.1 this.2.1, this.2.2.2⟩
theorem LJ.put (h : LJ w g5 g9 m most rd ws A c Fm Or u) (hb : Below u.heap.size u u') (hr : RowAt u' (fun k => u.heap.size ≤ k) 2 (.slice A' ws'.length c') ws'.length (rowL wL ws')) :
  LJ w g5 g9 m most rd ws' A' c' Fm (fun k => u.heap.size ≤ k ∧ k < u'.heap.size) ((u'.setCell ⟨g9, 0, none⟩ (.int .u64 (1048576 : Nat))).setCell ⟨g9, 1, none⟩ (.slice A' ws'.length c')) := by
 have h2 := h.below hb
 have hs := hb.size
 have hk : Kp (fun k => k = g9) u' ((u'.setCell ⟨g9, 0, none⟩ (.int .u64 (1048576 : Nat))).setCell ⟨g9, 1, none⟩ (.slice A' ws'.length c')) := ((Kp.refl (fun k => k = g9) u').setCell (p := ⟨g9, 0, none⟩) (.inl rfl) _).setCell (p := ⟨g9, 1, none⟩) (.inl rfl) _
 have hz : ((u'.setCell ⟨g9, 0, none⟩ (.int .u64 (1048576 : Nat))).setCell ⟨g9, 1, none⟩ (.slice A' ws'.length c')).heap.size = u'.heap.size := by rw [World.size_setCell, World.size_setCell]
 refine ⟨(h2.y.setAt 0 (by simp [xJ]) _).setAt 1 (by simp [xJ]) _, h2.z.kept hk h.ge.2.2, h2.mem.kept hk (fun k y => (h2.fm k y).2.2.2), ?_, ?_, ?_, hk.toBelow h2.b h2.b.size (fun k e => by rw [e]; exact h.ge.2.1), h.ge⟩
 ·refine (hr.kept hk (fun k y e => ?_)).mono (fun k hk y => ⟨y, by omega⟩)
  have := h.y.2.2
  omega
 ·rw [hz]; exact h2.fm
 ·intro k y
  have h5 := h.z.2.2
  have h9 := h.y.2.2
  have hb := h.b.size
  refine ⟨by omega, by omega, fun f => ?_, by omega, by omega⟩
  have := h.fm k f
  omega
theorem LJ.same (h : LJ w g5 g9 m most rd ws A c Fm Or u) (hb : Below u.heap.size u u') :
  LJ w g5 g9 m most rd ws A c Fm Or ((u'.setCell ⟨g9, 0, none⟩ (.int .u64 (1048576 : Nat))).setCell ⟨g9, 1, none⟩ (.slice A ws.length c)) := by
 have h2 := h.below hb
 have hk : Kp (fun k => k = g9) u' ((u'.setCell ⟨g9, 0, none⟩ (.int .u64 (1048576 : Nat))).setCell ⟨g9, 1, none⟩ (.slice A ws.length c)) := ((Kp.refl (fun k => k = g9) u').setCell (p := ⟨g9, 0, none⟩) (.inl rfl) _).setCell (p := ⟨g9, 1, none⟩) (.inl rfl) _
 have hz : ((u'.setCell ⟨g9, 0, none⟩ (.int .u64 (1048576 : Nat))).setCell ⟨g9, 1, none⟩ (.slice A ws.length c)).heap.size = u'.heap.size := by rw [World.size_setCell, World.size_setCell]
 refine ⟨(h2.y.setAt 0 (by simp [xJ]) _).setAt 1 (by simp [xJ]) _, h2.z.kept hk h.ge.2.2, h2.mem.kept hk (fun k y => (h2.fm k y).2.2.2), h2.row.kept hk (fun k y => (h2.or k y).2.2.2.2), ?_, ?_, hk.toBelow h2.b h2.b.size (fun k e => by rw [e]; exact h.ge.2.1), h.ge⟩
 ·rw [hz]; exact h2.fm
 ·rw [hz]; exact h2.or
end
set_option maxHeartbeats 2000000 in
theorem opened_bad (most : Int) (l : List (Nat × Nat)) (A0 : Option Addr) (c0 : Nat) (w : World) (h1 : most < 1 ∨ 64 < most) (hn : l.length ≤ 60) (hl : ∀ s ∈ l, s.1 < 18446744073709551616 ∧ s.2 < 18446744073709551616) (hrow : RdRow w (.slice A0 l.length c0) l.length (rowL wL l)) :
  Calls Tryz.prog 8 #[.slice A0 l.length c0, .int .i64 most] w (OpenBad most (wsI 1048576 l) w) := by
 have HROW := Lib.hid hrow
 have HL := Lib.hid hl
 have HM := Lib.hid h1
 clear hrow hl h1
 have d60 : decide ((60 : Int) < (l.length : Int)) = false := by simp; omega
 have HN := Lib.hid hn
 clear hn
 go_enter Tryz.func8, Tryz.ntmps8
 go_upto_region 1 with fail
 have HB0 : Hid (Below w.heap.size w (w.alloc (.cells #[.int .u64 0, .slice none 0 0, .int .i64 0, .slice none 0 0, .slice none 0 0, .bool false, .int .u64 0, .int .i64 0, .slice none 0 0] 36))) := below1 _ _
 have HZ0 : Hid (Box (w.alloc (.cells #[.int .u64 0, .slice none 0 0, .int .i64 0, .slice none 0 0, .slice none 0 0, .bool false, .int .u64 0, .int .i64 0, .slice none 0 0] 36)) w.heap.size (xC 0 0 0 0 false (.slice none 0 0) (.slice none 0 0) (.slice none 0 0) (.slice none 0 0))) := Box.new w (xC 0 0 0 0 false (.slice none 0 0) (.slice none 0 0) (.slice none 0 0) (.slice none 0 0)) 36
 generalize World.alloc w _ = W0 at *
 go_upto_region 2 with (go_at_call 30; refine (memNew_nat 1048576 W0 (by omega) (by omega) (by omega)).mono ?_; rintro e w1 ⟨m, rfl, hm1, hb1⟩; have HM1 := Lib.hid hm1; have HB1 := Lib.hid hb1; clear hm1 hb1)
 go_upto_region 3 with fail
 have HY : Hid (Box (w1.alloc (.cells #[.int .u64 1048576, .slice none 0 0, .int .i64 most, .slice none 0 0, .slice none 0 0, .bool false, .int .u64 0, .int .i64 0, .slice none 0 0] 36)) w1.heap.size (xJ 1048576 most 0 0 false (.slice none 0 0) (.slice none 0 0) (.slice none 0 0) (.slice none 0 0))) := Box.new w1 (xJ 1048576 most 0 0 false (.slice none 0 0) (.slice none 0 0) (.slice none 0 0) (.slice none 0 0)) 36
 have HB2 : Hid (Below w1.heap.size w1 (w1.alloc (.cells #[.int .u64 1048576, .slice none 0 0, .int .i64 most, .slice none 0 0, .slice none 0 0, .bool false, .int .u64 0, .int .i64 0, .slice none 0 0] 36))) := below1 _ _
 generalize World.alloc w1 _ = W2 at *
 have HLI : Hid (LJ w w.heap.size w1.heap.size m most (rdM (wsI 1048576 (l.take 0))) (wsI 1048576 (l.take 0)) none 0 (fun k => W0.heap.size ≤ k ∧ k < w1.heap.size) noF W2) := by
  have hs0 : w.heap.size < W0.heap.size := HZ0.out.2.2
  have hs1 := HB1.out.size
  have hb02 : Below W0.heap.size W0 W2 := HB1.out.trans (HB2.out.mono HB1.out.size)
  refine ⟨HY.out, HZ0.out.below hb02, ?_, RowAt.nil _ _ _, ?_, fun k y => y.elim, HB0.out.trans (hb02.mono HB0.out.size), ⟨by omega, by omega, by omega⟩⟩
  ·exact (HM1.out.mono (fun k hk y => ⟨y, hk⟩)).below HB2.out
  ·intro k y
   have := HB2.out.size
   exact ⟨by omega, by omega, by omega, by omega⟩
 have hg5 : w.heap.size < w1.heap.size := by have := HZ0.out.2.2; have := HB1.out.size; omega
 clear HB0 HZ0 HM1 HB1 HY HB2
 generalize hg9 : w1.heap.size = g9 at *
 clear hg9
 generalize hgw : w.heap.size = g5 at *
 go_wp2
 go_loopw [35] (fun iv wr => ∃ (i : Nat) (A : Option Addr) (c : Nat) (Fm Or : Nat → Prop), iv = .int .i64 i ∧ i ≤ l.length ∧ Hid (LJ w g5 g9 m most (rdM (wsI 1048576 (l.take i))) (wsI 1048576 (l.take i)) A c Fm Or wr)) (fun iv _ => l.length - (RowKit.intOf iv).toNat)
 case atStart => exact ⟨0, none, 0, _, _, rfl, by omega, HLI⟩
 case round =>
  obtain ⟨i, A, c, Fm, Or, rfl, hi, HI⟩ := hrel
  have hn2 : l.length ≤ 60 := HN.out
  by_cases hlt : i < l.length
  ·obtain ⟨g, o, rfl, hr⟩ := HROW.out.get (by omega)
   have hrng : wr.rangeAt g o (rowL wL l) := fun j v hj => keep_cell HI.out.b (hr j v hj)
   have k0 := row_at0 wL_len hrng i hlt _ rfl
   have k1 := row_at wL_len hrng i hlt 1 _ rfl
   have i1 : (0 : Int) ≤ (i : Int) := by omega
   have i2 : (i : Int) < (l.length : Int) := by omega
   have HST := Lib.hid (wsI_take 1048576 l i hlt)
   have hwl : (wsI 1048576 (l.take i)).length ≤ 60 := Nat.le_trans (wsI_len _ _) (by rw [List.length_take]; omega)
   have HWL := Lib.hid hwl
   have hyl := HL.out _ (List.getElem_mem hlt)
   clear hrng hr hwl
   generalize wsI 1048576 (l.take i) = ws at *
   generalize l[i] = y at *
   obtain ⟨ya, yx⟩ := y
   dsimp only at k0 k1 hyl HST
   obtain ⟨hya, hyx⟩ := hyl
   have C1 : Hid (Calls Tryz.prog 29 #[.pointer (some ⟨m, 0, none⟩), .int .u64 ya, .int .u64 yx] (wr.alloc (.cells #[.int .u64 ya, .int .u64 yx] 81)) (PutPost Fm m 1048576 (writeP 1048576 (rdM ws) ya yx) (.int .i64 (mayP 1048576 ya)) (wr.alloc (.cells #[.int .u64 ya, .int .u64 yx] 81)))) :=
    write_nat (HI.out.below (below1 _ _)).mem ya yx (by omega) (by omega) hya hyx
   have C2 := Lib.hid (fun u h => rwrite_nat 1048576 ya yx ws A c u hya (by have := HWL.out; omega) h)
   have HBN : Hid (Box (wr.alloc (.cells #[.int .u64 ya, .int .u64 yx] 81)) wr.heap.size [.int .u64 ya, .int .u64 yx]) := Box.new wr [.int .u64 ya, .int .u64 yx] 81
   have HI2 := Lib.hid (HI.out.below (below1 wr (.cells #[.int .u64 ya, .int .u64 yx] 81)))
   have hnf : ¬ Fm wr.heap.size := fun y => by have := (HI.out.fm _ y).2.1; omega
   have HNF := Lib.hid hnf
   clear hnf HI
   go_upto_region 9 with (go_at_call 29; refine C1.out.mono ?_; rintro e w5 hp; have he := hp.1; have HI5 := Lib.hid (HI2.out.wrote hp); have HBN5 := Lib.hid (HBN.out.kept hp.2.2 HNF.out); clear hp; subst he)
   have b0 := HBN5.out.at 0 _ rfl
   have b1 := HBN5.out.at 1 _ rfl
   have y0 := HI5.out.y.at 0 _ rfl
   have y1 := HI5.out.y.at 1 _ rfl
   have hz9 := HI5.out.y.2.2
   have hfz := HI5.out.y.2.1
   have C3 := Lib.hid (C2.out w5 HI5.out.row.rd)
   have HWP := Lib.hid (writeP_rdM 1048576 ya yx ws)
   rw [HWP.out] at HI5
   clear C1 C2 HBN HI2 HNF HBN5 k0 k1 hya hyx HWP
   by_cases hm : mayP 1048576 ya = 0
   ·rw [if_pos hm] at HST HI5
    rw [hm] at C3
    go_wp2_with (go_at_call 31; refine C3.out.mono ?_; rintro e w6 ⟨hq, hb6⟩; replace hq := hq.resolve_left (fun h => h.1 rfl); obtain ⟨-, A2, c2, rfl, hrow6⟩ := hq; have HB6 := Lib.hid hb6; have HR6 := Lib.hid hrow6; clear hb6 hrow6; have yf0 : w6.cell? ⟨g9, 0, none⟩ = some (.int .u64 1048576) := keep_cell HB6.out y0; have yf1 := keep_cell HB6.out y1; have yz9 : g9 < w6.heap.size := Nat.lt_of_lt_of_le hz9 HB6.out.size; have yff : ∀ j, w6.frozen? ⟨g9, j, none⟩ = false := fun j => (keep_frozen HB6.out hz9 (hfz j)))
    go_roundw
    case rel => exact ⟨i + 1, A2, c2, _, _, by first | rfl | go_num, by omega, by rw [HST.out]; exact HI5.out.put HB6.out HR6.out⟩
    case measure => simp [RowKit.intOf]; omega
   ·rw [if_neg hm] at HST HI5
    go_wp2_with (go_at_call 31; refine C3.out.mono ?_; rintro e w6 ⟨hq, hb6⟩; replace hq := hq.resolve_right (fun h => hm h.1); obtain ⟨-, rfl⟩ := hq; have HB6 := Lib.hid hb6; clear hb6; have yf0 : w6.cell? ⟨g9, 0, none⟩ = some (.int .u64 1048576) := keep_cell HB6.out y0; have yf1 := keep_cell HB6.out y1; have yz9 : g9 < w6.heap.size := Nat.lt_of_lt_of_le hz9 HB6.out.size; have yff : ∀ j, w6.frozen? ⟨g9, j, none⟩ = false := fun j => (keep_frozen HB6.out hz9 (hfz j)))
    go_roundw
    case rel => exact ⟨i + 1, A, c, _, _, by first | rfl | go_num, by omega, by rw [HST.out]; exact HI5.out.same HB6.out⟩
    case measure => simp [RowKit.intOf]; omega
  ·obtain rfl : i = l.length := by omega
   have ht : Hid (l.take l.length = l) := List.take_length
   rw [ht.out] at HI
   clear ht HL HROW HLI
   generalize wsI 1048576 l = ws at *
   have C1 := Lib.hid (mnew_bad m most wr HM.out)
   go_upto_region 12 with (go_at_call 32; refine C1.out.mono ?_; rintro e w6 ⟨rfl, hb⟩; have HB6 := Lib.hid hb; clear hb)
   have BY := HI.out.y.below HB6.out
   have y0 := BY.at 0 _ rfl
   have y1 := BY.at 1 _ rfl
   have y2 := BY.at 2 _ rfl
   have y3 := BY.at 3 _ rfl
   have y4 := BY.at 4 _ rfl
   have y5 := BY.at 5 _ rfl
   have y6 := BY.at 6 _ rfl
   have y7 := BY.at 7 _ rfl
   have y8 := BY.at 8 _ rfl
   have BZ := HI.out.z.below HB6.out
   have z0 := BZ.at 0 _ rfl
   have z1 := BZ.at 1 _ rfl
   have z2 := BZ.at 2 _ rfl
   have z3 := BZ.at 3 _ rfl
   have z4 := BZ.at 4 _ rfl
   have z5 := BZ.at 5 _ rfl
   have z6 := BZ.at 6 _ rfl
   have z7 := BZ.at 7 _ rfl
   have z8 := BZ.at 8 _ rfl
   have fz := BZ.2.1
   have zz := BZ.2.2
   have hne : ¬ g5 = g9 := by omega
   have hne2 : ¬ g9 = g5 := by omega
   clear C1 BY BZ
   go_region
   all_goals
    go_wp2_with fail
    refine bodyPost_ret (v := .tuple #[.pointer none, xW 1048576 most 0 0 false (.slice A ws.length c) (.slice none 0 0) (.slice none 0 0) (.slice none 0 0), .bool false]) (by simp [results, Tryz.results8, go_sem, zz, z0, z1, z2, z3, z4, z5, z6, z7, z8, xW]) rfl ?_
    rw [set9_eq]
    have hfin : ∀ n, Kp (fun k => k = g5) w6 (((World.setCells w6 g5 0 (xJ 1048576 most 0 0 false (.slice A ws.length c) (.slice none 0 0) (.slice none 0 0) (.slice none 0 0)))).drewN n) := fun n => ((Kp.refl (fun k => k = g5) w6).setCells (.inl rfl) 0 _).drewN n
    have hfin2 := hfin 1
    have hI := HI.out
    have hs := HB6.out.size
    have hbs := hI.b.size
    rw [hgw] at hbs
    have hb := hI.b.trans (HB6.out.mono hI.b.size)
    exact ⟨A, c, rfl, hfin2.toBelow hb hb.size (fun k e => by omega)⟩
theorem opened_longJ (most : Int) (n : Nat) (A0 : Option Addr) (c0 : Nat) (w : World) (hn : 60 < n) :
  Calls Tryz.prog 8 #[.slice A0 n c0, .int .i64 most] w fun e w' => e = .returned (.tuple #[.pointer none, xW 1048576 most 0 0 false (.slice none 0 0) (.slice none 0 0) (.slice none 0 0) (.slice none 0 0), .bool false]) ∧ Below w.heap.size w w' := by
 have d60 : decide ((60 : Int) < (n : Int)) = true := by simp; omega
 have HN := Lib.hid hn
 clear hn
 go_enter Tryz.func8, Tryz.ntmps8
 go_upto_region 1 with fail
 have HB0 : Hid (Below w.heap.size w (w.alloc (.cells #[.int .u64 0, .slice none 0 0, .int .i64 0, .slice none 0 0, .slice none 0 0, .bool false, .int .u64 0, .int .i64 0, .slice none 0 0] 36))) := below1 _ _
 have HZ0 : Hid (Box (w.alloc (.cells #[.int .u64 0, .slice none 0 0, .int .i64 0, .slice none 0 0, .slice none 0 0, .bool false, .int .u64 0, .int .i64 0, .slice none 0 0] 36)) w.heap.size (xC 0 0 0 0 false (.slice none 0 0) (.slice none 0 0) (.slice none 0 0) (.slice none 0 0))) := Box.new w (xC 0 0 0 0 false (.slice none 0 0) (.slice none 0 0) (.slice none 0 0) (.slice none 0 0)) 36
 generalize World.alloc w _ = W0 at *
 go_upto_region 2 with (go_at_call 30; refine (memNew_nat 1048576 W0 (by omega) (by omega) (by omega)).mono ?_; rintro e w1 ⟨m, rfl, hm1, hb1⟩; have HM1 := Lib.hid hm1; have HB1 := Lib.hid hb1; clear hm1 hb1)
 go_upto_region 3 with fail
 have HY : Hid (Box (w1.alloc (.cells #[.int .u64 1048576, .slice none 0 0, .int .i64 most, .slice none 0 0, .slice none 0 0, .bool false, .int .u64 0, .int .i64 0, .slice none 0 0] 36)) w1.heap.size (xJ 1048576 most 0 0 false (.slice none 0 0) (.slice none 0 0) (.slice none 0 0) (.slice none 0 0))) := Box.new w1 (xJ 1048576 most 0 0 false (.slice none 0 0) (.slice none 0 0) (.slice none 0 0) (.slice none 0 0)) 36
 have HB2 : Hid (Below w1.heap.size w1 (w1.alloc (.cells #[.int .u64 1048576, .slice none 0 0, .int .i64 most, .slice none 0 0, .slice none 0 0, .bool false, .int .u64 0, .int .i64 0, .slice none 0 0] 36))) := below1 _ _
 generalize World.alloc w1 _ = W2 at *
 have hb02 : Below W0.heap.size W0 W2 := HB1.out.trans (HB2.out.mono HB1.out.size)
 have HBW : Hid (Below w.heap.size w W2) := HB0.out.trans (hb02.mono HB0.out.size)
 have BY := HY.out
 have y0 := BY.at 0 _ rfl
 have y1 := BY.at 1 _ rfl
 have y2 := BY.at 2 _ rfl
 have y3 := BY.at 3 _ rfl
 have y4 := BY.at 4 _ rfl
 have y5 := BY.at 5 _ rfl
 have y6 := BY.at 6 _ rfl
 have y7 := BY.at 7 _ rfl
 have y8 := BY.at 8 _ rfl
 have BZ := HZ0.out.below hb02
 have z0 := BZ.at 0 _ rfl
 have z1 := BZ.at 1 _ rfl
 have z2 := BZ.at 2 _ rfl
 have z3 := BZ.at 3 _ rfl
 have z4 := BZ.at 4 _ rfl
 have z5 := BZ.at 5 _ rfl
 have z6 := BZ.at 6 _ rfl
 have z7 := BZ.at 7 _ rfl
 have z8 := BZ.at 8 _ rfl
 have fz := BZ.2.1
 have zz := BZ.2.2
 have hg5 : w.heap.size < w1.heap.size := by have := HZ0.out.2.2; have := HB1.out.size; omega
 clear BY BZ HB0 HZ0 HM1 HB1 HY HB2 hb02
 generalize hg9 : w1.heap.size = g9 at *
 clear hg9
 generalize hgw : w.heap.size = g5 at *
 have hne : ¬ g5 = g9 := by omega
 have hne2 : ¬ g9 = g5 := by omega
 go_wp2_with fail
 go_region
 all_goals
  go_wp2_with fail
  refine bodyPost_ret (v := .tuple #[.pointer none, xW 1048576 most 0 0 false (.slice none 0 0) (.slice none 0 0) (.slice none 0 0) (.slice none 0 0), .bool false]) (by simp [results, Tryz.results8, go_sem, zz, z0, z1, z2, z3, z4, z5, z6, z7, z8, xW]) rfl ?_
  rw [set9_eq]
  have hfin : ∀ n, Kp (fun k => k = g5) W2 (((World.setCells W2 g5 0 (xJ 1048576 most 0 0 false (.slice none 0 0) (.slice none 0 0) (.slice none 0 0) (.slice none 0 0)))).drewN n) := fun n => ((Kp.refl (fun k => k = g5) W2).setCells (.inl rfl) 0 _).drewN n
  have hfin2 := hfin 1
  rw [hgw]
  refine ⟨rfl, hfin2.toBelow HBW.out ?_ (fun k e => by omega)⟩
  omega
end Go.Proofs.YtbapgngngaaojaaGreat
namespace Go.Proofs.YtbapgngngaaojaaGreat
def exW : List (Nat × Nat) := [(4096, 8195), (8192, 12291), (12288, 16387), (16392, 27021597764247363), (20496, 77)]
def exS1 : St := (setP (st0 1048576 (rdM (wsI 1048576 exW)) 4) 281474976714752).2
def exA : ((Nat × Nat) × Nat) × St := accessM exS1 1 4112 0 true false false
def exS3 : St := { exA.2 with rd := writeP exA.2.sz exA.2.rd 16392 0 }
def exB : ((Nat × Nat) × Nat) × St := accessM exS3 1 4112 0 false false false
def exS5 : St := flushVaM exB.2 1 4096
def exC : ((Nat × Nat) × Nat) × St := accessM exS5 1 4112 0 false false false
theorem ex_set : (setP (st0 1048576 (rdM (wsI 1048576 exW)) 4) 281474976714752).1 = 0 := by kernel_rfl
theorem ex_a : exA.1 = ((0, 0), 77) := by kernel_rfl
theorem ex_b : exB.1 = ((0, 0), 77) := by kernel_rfl
theorem ex_bad : soundM exB.2 = false := by kernel_rfl
theorem ex_c : exC.1 = ((1, 3), 0) := by kernel_rfl
theorem ex_good : soundM exC.2 = true := by kernel_rfl
end Go.Proofs.YtbapgngngaaojaaGreat
namespace Go.Proofs.YtbapgngngaaojaaGreat
open Go.RowKit Go.Lib
set_option maxRecDepth 100000
theorem eqA_Result (d : Nat) (w : World) (x0 y0 x1 y1 x2 y2 : Int) :
  (Op.equalIn (d + 4) 69 (.agg #[.int .i64 x0, .int .i64 x1, .int .u64 x2]) (.agg #[.int .i64 y0, .int .i64 y1, .int .u64 y2])).run Tryz.prog w = .ok ((x0 == y0 && (x1 == y1)) && (x2 == y2)) w := by
 refine eqA_of Tryz.underlying69 (by kernel_rfl) ?_
 refine eqf_cons (by rfl) (by go_simp) (by go_simp) (eqA_Fault (d + 1) w _ _ _ _) ?_
 exact eqf_last (by rfl) (by go_simp; rfl) (by go_simp; rfl) (by go_simp)
attribute [local go_sem high] eqA_Result eqA_Fault
set_option maxHeartbeats 2000000 in
theorem anchor_nat (w : World) : Calls Tryz.prog 7 #[] w fun e w' => e = .returned (.bool true) ∧ Below w.heap.size w w' := by
 have C1 : Hid (∀ g u, Below w.heap.size w u → u.rangeAt g 0 (rowL wL exW) → Calls Tryz.prog 8 #[.slice (some ⟨g, 0, none⟩) 5 5, .int .i64 4] u fun e w' => ∃ x m pt pk B A c n, e = .returned (.tuple #[.pointer (some ⟨x, 0, none⟩), xV 1048576 4 0 0 false (.slice A n c) (.slice none 0 0) (.slice none 0 0) (.slice none 0 0), .bool true]) ∧ MB x m pt pk (.slice none 0 0) (st0 1048576 (rdM (wsI 1048576 exW)) 4) B w w') := fun g u hb hr => by
  refine (opened_nat 4 exW (some ⟨g, 0, none⟩) 5 u (by omega) (by omega) (by decide) (by decide) ⟨_, _, rfl, fun _ => ⟨g, 0, rfl, hr⟩⟩).mono ?_
  rintro e w' ⟨x, m, pt, pk, Fm, A, c, rfl, ho⟩
  obtain ⟨B, hB, -⟩ := ho.mb hb
  exact ⟨x, m, pt, pk, B, A, c, _, rfl, hB⟩
 go_enter Tryz.func7, Tryz.ntmps7
 go_upto_region 2 with (go_at_call 8; refine (C1.out w.heap.size _ (below1 _ _) (by intro j v hv; exact range_new w _ _ j v hv)).mono ?_; rintro e w1 ⟨x, m, pt, pk, B, A, c, n, rfl, hB⟩; have HM1 := Lib.hid hB; clear hB; dsimp only [xV])
 have HM2 : Hid (MB x m pt pk (.slice none 0 0) (st0 1048576 (rdM (wsI 1048576 exW)) 4) B w (w1.alloc (.cells #[.int .u64 1048576, .slice A n c, .int .i64 4, .slice none 0 0, .slice none 0 0, .bool false, .int .u64 0, .int .i64 0, .slice none 0 0] 36))) := HM1.out.below (below1 _ _)
 generalize World.alloc w1 _ = W at *
 have C2 : Hid (Calls Tryz.prog 9 #[.pointer (some ⟨x, 0, none⟩), .int .u64 281474976714752] W fun e w' => e = .returned (.int .i64 0) ∧ MB x m pt pk (.slice none 0 0) exS1 B w w' ∧ Kp (KB B w) W w') := by
  have h := HM2.out.set 281474976714752 (by omega)
  rw [ex_set] at h
  exact h
 clear HM1 HM2 C1
 go_upto_region 4 with (go_at_call 9; refine C2.out.mono ?_; rintro e w2 ⟨rfl, hm, -⟩; have HM3 := Lib.hid hm; clear hm)
 have C3 : Hid (Calls Tryz.prog 21 #[.pointer (some ⟨x, 0, none⟩), .int .i64 1, .int .u64 4112, .int .u64 0, .agg #[.bool true, .bool false, .bool false]] w2 fun e w' => e = .returned (.agg #[.int .i64 0, .int .i64 0, .int .u64 77]) ∧ MB x m pt pk (.slice none 0 0) exA.2 B w w' ∧ Kp (KB B w) w2 w') := by
  have h := HM3.out.access 1 4112 0 (by omega) (by omega) true false false
  rw [show accessM exS1 1 4112 0 true false false = exA from rfl, ex_a] at h
  exact h
 clear C2 HM3
 go_upto_region 5 with (go_at_call 21; refine C3.out.mono ?_; rintro e w3 ⟨rfl, hm, -⟩; have HM4 := Lib.hid hm; clear hm)
 have HA : Hid (Box (w3.alloc (.cells #[.int .i64 0, .int .i64 0, .int .u64 77] 69)) w3.heap.size [.int .i64 0, .int .i64 0, .int .u64 77]) := Box.new w3 [.int .i64 0, .int .i64 0, .int .u64 77] 69
 have HM5 : Hid (MB x m pt pk (.slice none 0 0) exA.2 (fun k => B k ∨ k = w3.heap.size) w (w3.alloc (.cells #[.int .i64 0, .int .i64 0, .int .u64 77] 69))) := HM4.out.add (below1 _ _) (Nat.le_refl _) HA.out.2.2
 clear C3 HM4
 generalize World.alloc w3 _ = W3 at *
 generalize w3.heap.size = g4 at *
 have C4 := Lib.hid HM5.out.memory
 have C5 : Hid (Calls Tryz.prog 29 #[.pointer (some ⟨m, 0, none⟩), .int .u64 16392, .int .u64 0] W3 fun e w' => (∃ k : Int, e = .returned (.int .i64 k)) ∧ MB x m pt pk (.slice none 0 0) exS3 (fun k => B k ∨ k = g4) w w' ∧ Kp (KB (fun k => B k ∨ k = g4) w) W3 w') :=
  (HM5.out.write 16392 0 (by omega) (by omega)).mono fun e w' h => ⟨⟨_, h.1⟩, h.2⟩
 go_upto_region 6 with (first | (go_at_call 19; refine C4.out.mono ?_; rintro e w4 ⟨rfl, rfl⟩) | (go_at_call 29; refine C5.out.mono ?_; rintro e w5 ⟨⟨k5, rfl⟩, hm, hk⟩; have HM6 := Lib.hid hm; have HA2 := Lib.hid (HA.out.mb hk (.inr rfl)); clear hm hk))
 have C6 : Hid (Calls Tryz.prog 21 #[.pointer (some ⟨x, 0, none⟩), .int .i64 1, .int .u64 4112, .int .u64 0, .agg #[.bool false, .bool false, .bool false]] w5 fun e w' => e = .returned (.agg #[.int .i64 0, .int .i64 0, .int .u64 77]) ∧ MB x m pt pk (.slice none 0 0) exB.2 (fun k => B k ∨ k = g4) w w' ∧ Kp (KB (fun k => B k ∨ k = g4) w) w5 w') := by
  have h := HM6.out.access 1 4112 0 (by omega) (by omega) false false false
  rw [show accessM exS3 1 4112 0 false false false = exB from rfl, ex_b] at h
  exact h
 clear C4 C5 HA HM5 HM6
 go_upto_region 7 with (go_at_call 21; refine C6.out.mono ?_; rintro e w6 ⟨rfl, hm, hk⟩; have HM7 := Lib.hid hm; have HA3 := Lib.hid (HA2.out.mb hk (.inr rfl)); clear hm hk)
 have HB : Hid (Box (w6.alloc (.cells #[.int .i64 0, .int .i64 0, .int .u64 77] 69)) w6.heap.size [.int .i64 0, .int .i64 0, .int .u64 77]) := Box.new w6 [.int .i64 0, .int .i64 0, .int .u64 77] 69
 have HA4 := Lib.hid (HA3.out.below (below1 w6 (.cells #[.int .i64 0, .int .i64 0, .int .u64 77] 69)))
 have HM8 : Hid (MB x m pt pk (.slice none 0 0) exB.2 (fun k => (B k ∨ k = g4) ∨ k = w6.heap.size) w (w6.alloc (.cells #[.int .i64 0, .int .i64 0, .int .u64 77] 69))) := HM7.out.add (below1 _ _) (Nat.le_refl _) HB.out.2.2
 clear C6 HM7 HA2 HA3
 generalize World.alloc w6 _ = W6 at *
 generalize w6.heap.size = g5 at *
 have C7 : Hid (Calls Tryz.prog 17 #[.pointer (some ⟨x, 0, none⟩)] W6 fun e w' => e = .returned (.bool false) ∧ Below W6.heap.size W6 w') := by
  have h := HM8.out.sound
  rw [ex_bad] at h
  exact h
 go_upto_region 8 with (go_at_call 17; refine C7.out.mono ?_; rintro e w7 ⟨rfl, hb⟩; have HM9 := Lib.hid (HM8.out.below hb); have HA5 := Lib.hid (HA4.out.below hb); have HB5 := Lib.hid (HB.out.below hb); clear hb)
 have C8 := Lib.hid (HM9.out.flushVa 1 4096 (by omega))
 clear C7 HM8 HA4 HB
 go_upto_region 9 with (go_at_call 27; refine C8.out.mono ?_; rintro e w8 ⟨rfl, hm, hk⟩; have HM10 := Lib.hid hm; have HA6 := Lib.hid (HA5.out.mb hk (.inl (.inr rfl))); have HB6 := Lib.hid (HB5.out.mb hk (.inr rfl)); clear hm hk)
 have C9 : Hid (Calls Tryz.prog 21 #[.pointer (some ⟨x, 0, none⟩), .int .i64 1, .int .u64 4112, .int .u64 0, .agg #[.bool false, .bool false, .bool false]] w8 fun e w' => e = .returned (.agg #[.int .i64 1, .int .i64 3, .int .u64 0]) ∧ MB x m pt pk (.slice none 0 0) exC.2 (fun k => (B k ∨ k = g4) ∨ k = g5) w w' ∧ Kp (KB (fun k => (B k ∨ k = g4) ∨ k = g5) w) w8 w') := by
  have h := HM10.out.access 1 4112 0 (by omega) (by omega) false false false
  rw [show accessM (flushVaM exB.2 1 4096) 1 4112 0 false false false = exC from rfl, ex_c] at h
  exact h
 clear C8 HM9 HM10 HA5 HB5
 go_upto_region 10 with (go_at_call 21; refine C9.out.mono ?_; rintro e w9 ⟨rfl, hm, hk⟩; have HM11 := Lib.hid hm; have HA7 := Lib.hid (HA6.out.mb hk (.inl (.inr rfl))); have HB7 := Lib.hid (HB6.out.mb hk (.inr rfl)); clear hm hk)
 have HC : Hid (Box (w9.alloc (.cells #[.int .i64 1, .int .i64 3, .int .u64 0] 69)) w9.heap.size [.int .i64 1, .int .i64 3, .int .u64 0]) := Box.new w9 [.int .i64 1, .int .i64 3, .int .u64 0] 69
 have HA8 := Lib.hid (HA7.out.below (below1 w9 (.cells #[.int .i64 1, .int .i64 3, .int .u64 0] 69)))
 have HB8 := Lib.hid (HB7.out.below (below1 w9 (.cells #[.int .i64 1, .int .i64 3, .int .u64 0] 69)))
 have HM12 : Hid (MB x m pt pk (.slice none 0 0) exC.2 (fun k => (B k ∨ k = g4) ∨ k = g5) w (w9.alloc (.cells #[.int .i64 1, .int .i64 3, .int .u64 0] 69))) := HM11.out.below (below1 _ _)
 clear C9 HA6 HB6 HA7 HB7 HM11
 generalize World.alloc w9 _ = W9 at *
 generalize w9.heap.size = g7 at *
 have C10 : Hid (Calls Tryz.prog 17 #[.pointer (some ⟨x, 0, none⟩)] W9 fun e w' => e = .returned (.bool true) ∧ Below W9.heap.size W9 w') := by
  have h := HM12.out.sound
  rw [ex_good] at h
  exact h
 have a0 := HA8.out.at 0 _ rfl
 have a1 := HA8.out.at 1 _ rfl
 have a2 := HA8.out.at 2 _ rfl
 have b0 := HB8.out.at 0 _ rfl
 have b1 := HB8.out.at 1 _ rfl
 have b2 := HB8.out.at 2 _ rfl
 have c0 := HC.out.at 0 _ rfl
 have c1 := HC.out.at 1 _ rfl
 have c2 := HC.out.at 2 _ rfl
 go_wp2_with (go_at_call 17; refine C10.out.mono ?_; rintro e w10 ⟨rfl, hb⟩; have HBF := Lib.hid (HM12.out.base.trans (hb.mono HM12.out.base.size)); clear hb)
 go_ret
 exact ⟨rfl, HBF.out⟩
end Go.Proofs.YtbapgngngaaojaaGreat
namespace Go.Proofs.YtbapgngngaaojaaGreat
open Go.RowKit Go.Lib
set_option maxRecDepth 100000
@[local go_sem] theorem field_L3 (v0 v1 v2 v3 v4 v5 v6 v7 v8 v9 v10 : Value) (w : World) : (Instr.field 106 (.agg #[v0, v1, v2, v3, v4, v5, v6, v7, v8, v9, v10]) 3).run Tryz.prog w = .ok v10 w := by kernel_rfl
set_option maxHeartbeats 2000000 in
theorem rtable_nat (sz most root asid va level : Nat) (on : Bool) (ws : List (Nat × Nat)) (A1 A2 A3 A4 : Option Addr) (n2 n3 n4 c1 c2 c3 c4 : Nat) (w : World) (ht : Tb root) (hl : level ≤ 3) (hv : va < 18446744073709551616) (hn : ws.length ≤ 1000000) (hws : ∀ a, rdM ws a < 18446744073709551616) (hsz : sz < 9223372036854775808) (h1 : RdRow w (.slice A1 ws.length c1) ws.length (rowL wL ws)) :
  Calls Tryz.prog 89 #[xV sz most root asid on (.slice A1 ws.length c1) (.slice A2 n2 c2) (.slice A3 n3 c3) (.slice A4 n4 c4), .int .u64 va, .int .i64 level] w fun e w' => e = .returned (.tuple #[.int .u64 (tableGo (fromP sz (rdM ws) 0 root va).steps level 0 root).1, .bool (tableGo (fromP sz (rdM ws) 0 root va).steps level 0 root).2]) ∧ Below w.heap.size w w' := by
 have C3 : Hid (∀ u, Below w.heap.size w u → Calls Tryz.prog 83 #[.agg #[.int .u64 sz, .slice A1 ws.length c1], .int .i64 0, .int .u64 root, .int .u64 va] u (RFromPost (fromP sz (rdM ws) 0 root va) u)) := fun u hb =>
  rfrom_nat sz 0 root va ws A1 c1 u (by omega) ht hv hn hws hsz (h1.below hb)
 have C4 : Hid (∀ i : Nat, i ≤ 3 → ∀ x : Nat, x < 18446744073709551616 → ∀ w, Calls Tryz.prog 123 #[.int .i64 i, .int .u64 x] w (RDecPost (decP i x) w)) := fun i hi x hx w => rdecode_nat i x w hx hi
 have hfo := fromP_ok sz (rdM ws) 0 root va
 have hst : ∀ y ∈ (fromP sz (rdM ws) 0 root va).steps, y.2 < 18446744073709551616 := fun y hy => by rw [hfo.1.1 y hy]; exact hws _
 have hs4 := hfo.2.1
 clear hfo
 generalize fromP sz (rdM ws) 0 root va = F at *
 obtain ⟨Fl, Fd, Ff, st⟩ := F
 dsimp only at hst hs4 ⊢
 obtain ⟨R, hR⟩ : ∃ R, tableGo st level 0 root = R := ⟨_, rfl⟩
 rw [hR]
 have HR := Lib.hid hR
 have HST := Lib.hid hst
 have HS4 := Lib.hid hs4
 clear hR hst hs4 hws hn h1 hv hsz ht
 unfold xV
 go_enter Tryz.func89, Tryz.ntmps89
 go_upto_region 1 with fail
 have HXB : Hid (Box (w.alloc (.cells #[.int .u64 sz, .slice A1 ws.length c1, .int .i64 most, .slice A2 n2 c2, .slice A3 n3 c3, .bool on, .int .u64 root, .int .i64 asid, .slice A4 n4 c4] 36)) w.heap.size (xC sz most root asid on (.slice A1 ws.length c1) (.slice A2 n2 c2) (.slice A3 n3 c3) (.slice A4 n4 c4))) := Box.new w (xC sz most root asid on (.slice A1 ws.length c1) (.slice A2 n2 c2) (.slice A3 n3 c3) (.slice A4 n4 c4)) 36
 have HB0 : Hid (Below w.heap.size w (w.alloc (.cells #[.int .u64 sz, .slice A1 ws.length c1, .int .i64 most, .slice A2 n2 c2, .slice A3 n3 c3, .bool on, .int .u64 root, .int .i64 asid, .slice A4 n4 c4] 36))) := below1 _ _
 generalize World.alloc w _ = W at *
 have x0 := HXB.out.at 0 _ rfl
 have x1 := HXB.out.at 1 _ rfl
 have x6 := HXB.out.at 6 _ rfl
 go_upto_region 3 with (go_at_call 83; refine (C3.out _ HB0.out).mono ?_; rintro e wc ⟨A, c, rfl, hrow, hb⟩; dsimp only [lV]; have HROW := Lib.hid hrow.rd; have HWC : Hid (Below w.heap.size w wc) := HB0.out.trans (hb.mono HB0.out.size); clear hrow hb)
 clear x0 x1 x6 HXB
 go_wp2
 go_loopw [8, 10] (fun av iv wr => ∃ (i at_ : Nat), iv = .int .i64 i ∧ av = .int .u64 at_ ∧ i ≤ level ∧ Hid (tableGo st (level - i) i at_ = R) ∧ Hid (Below wc.heap.size wc wr)) (fun _ iv _ => level - (RowKit.intOf iv).toNat)
 case atStart => exact ⟨0, root, rfl, rfl, by omega, HR, Below.refl _ _⟩
 case round =>
  obtain ⟨i, at_, rfl, rfl, hi, HS, HB⟩ := hrel
  by_cases hlt : i < level
  ·have d1 : decide ((i : Int) < (level : Int)) = true := by simp; omega
   have HS1 : Hid ((match st[i]? with
    | none => (0, false)
    | some s => match decP i s.2 with
     | none => (0, false)
     | some d => if d.kind = 1 then tableGo st (level - (i + 1)) (i + 1) d.out else (0, false)) = R) := by
    have := HS.out
    rw [show level - i = (level - (i + 1)) + 1 by omega] at this
    exact this
   clear HS
   by_cases hls : i < st.length
   ·rw [List.getElem?_eq_getElem hls] at HS1
    have hcs := stepCells_at st i hls
    obtain ⟨A', c', hsl, hrr⟩ := HROW.out
    obtain ⟨rfl, -, rfl⟩ := Value.slice.inj hsl
    obtain ⟨g, o, rfl, hrg⟩ := hrr (by omega)
    have k1 : wr.cell? ⟨g, o + i * 2 + 1, none⟩ = some (.int .u64 st[i].2) := keep_cell HB.out (by have := hrg _ _ hcs.2; rwa [← Nat.add_assoc] at this)
    have hxw := HST.out st[i] (List.getElem_mem hls)
    have d2 : decide ((st.length : Int) ≤ (i : Int)) = false := by simp; omega
    clear hcs hrr hrg hsl
    generalize st[i] = y at *
    obtain ⟨sa, sw⟩ := y
    dsimp only at k1 hxw HS1
    have C2 := Lib.hid (C4.out i (by omega) sw hxw)
    cases hd : decP i sw with
    | none =>
     rw [hd] at HS1 C2
     have HS2 : Hid ((0, false) = R) := HS1.out
     clear hd HS1
     go_wp2_with fail
     refine (C2.out _).mono ?_
     rintro e w2 ⟨rfl, hb2⟩
     have HB2 : Hid (Below wc.heap.size wc w2) := HB.out.trans (hb2.mono HB.out.size)
     clear hb2
     simp only [Option.getD_none, Option.isSome_none, dV, zeroD]
     go_wp2
     go_ret2
     exact ⟨by rw [← HS2.out]; rfl, (HWC.out.trans (HB2.out.mono HWC.out.size)).alloc (Nat.le_trans HWC.out.size HB2.out.size) _⟩
    | some d =>
     rw [hd] at HS1 C2
     clear hd
     obtain ⟨K, out, b1, b2, b3, b4, attr⟩ := d
     dsimp only at HS1
     by_cases hK : K = 1
     ·subst hK
      rw [if_pos rfl] at HS1
      go_wp2_with fail
      refine (C2.out _).mono ?_
      rintro e w2 ⟨rfl, hb2⟩
      have HB2 : Hid (Below wc.heap.size wc w2) := HB.out.trans (hb2.mono HB.out.size)
      clear hb2
      simp only [Option.getD_some, Option.isSome_some, dV]
      go_wp2
      exact ⟨⟨i + 1, out, by first | rfl | go_num, rfl, by omega, HS1, HB2.out.alloc HB2.out.size _⟩, by simp [RowKit.intOf]; omega⟩
     ·rw [if_neg hK] at HS1
      have hk1 : ((K : Int) != 1) = true := by rw [bne_iff_ne]; omega
      go_wp2_with fail
      refine (C2.out _).mono ?_
      rintro e w2 ⟨rfl, hb2⟩
      have HB2 : Hid (Below wc.heap.size wc w2) := HB.out.trans (hb2.mono HB.out.size)
      clear hb2
      simp only [Option.getD_some, Option.isSome_some, dV]
      go_wp2
      go_ret2
      exact ⟨by rw [← HS1.out]; rfl, (HWC.out.trans (HB2.out.mono HWC.out.size)).alloc (Nat.le_trans HWC.out.size HB2.out.size) _⟩
   ·have d2 : decide ((st.length : Int) ≤ (i : Int)) = true := by simp; omega
    rw [List.getElem?_eq_none (by omega)] at HS1
    have HS2 : Hid ((0, false) = R) := HS1.out
    clear HS1
    go_wp2
    go_ret2
    exact ⟨by rw [← HS2.out]; rfl, HWC.out.trans (HB.out.mono HWC.out.size)⟩
  ·have d1 : decide ((i : Int) < (level : Int)) = false := by simp; omega
   obtain rfl : i = level := by omega
   have HS2 : Hid ((at_, true) = R) := by have := HS.out; rw [Nat.sub_self] at this; exact this
   go_wp2
   go_ret2
   exact ⟨by rw [← HS2.out]; rfl, HWC.out.trans (HB.out.mono HWC.out.size)⟩
end Go.Proofs.YtbapgngngaaojaaGreat
