/- The walk of the ninth reference's Drop. The ninth reference's Guess, on or off; and its Write. The document's machine as lists, and what a step of the law leaves. The law's step: the kinds 2, 6, 7, 8, of any machine of the document's. -/
import Derived.Test.YtbapgngngaaojaaGreatG30
import Derived.Test.YtbapgngngaaojaaGreatG28
import Derived.Test.YtbapgngngaaojaaGreatG10
import Derived.Test.YtbapgngngaaojaaGreatG25
import Derived.Test.YtbapgngngaaojaaGreatG29
set_option linter.unusedSimpArgs false
set_option linter.unusedVariables false
namespace Go.Proofs.YtbapgngngaaojaaGreat
open Go.RowKit Go.Lib
set_option maxRecDepth 100000
/-- What is left without a place; all, if it's the other list's. -/
def leftL {α : Type} (all : Bool) (n : Int) (l : List α) : List α := if all then l else dropL l n
theorem leftL_len {α : Type} (all : Bool) (n : Int) (l : List α) : (leftL all n l).length ≤ l.length := by
 unfold leftL dropL
 split
 ·exact Nat.le_refl _
 ·split
  ·rw [List.length_eraseIdx]; split <;> omega
  ·exact Nat.le_refl _
theorem leftL_all {α : Type} (n : Int) (l : List α) (i : Nat) (h : i < l.length) : leftL true n (l.take (i + 1)) = leftL true n (l.take i) ++ [l[i]] := by
 unfold leftL
 rw [if_pos rfl, if_pos rfl, List.take_succ_eq_append_getElem h]
theorem leftL_ne {α : Type} (n : Int) (l : List α) (i : Nat) (h : i < l.length) (hn : ((i : Int) != n) = true) : leftL false n (l.take (i + 1)) = leftL false n (l.take i) ++ [l[i]] := by
 have hn2 : (i : Int) ≠ n := by simpa using hn
 show dropL _ n = dropL _ n ++ _
 unfold dropL
 rw [List.take_succ_eq_append_getElem h]
 split
 ·have hl : (l.take i).length = i := by rw [List.length_take]; omega
  by_cases hc : n.toNat < i
  ·rw [List.eraseIdx_append_of_lt_length (by omega)]
  ·rw [List.eraseIdx_of_length_le (by rw [List.length_append, hl]; simp; omega), List.eraseIdx_of_length_le (by omega)]
 ·rfl
theorem leftL_eq {α : Type} (n : Int) (l : List α) (i : Nat) (h : i < l.length) (hn : ((i : Int) != n) = false) : leftL false n (l.take (i + 1)) = leftL false n (l.take i) := by
 have hn2 : (i : Int) = n := by simpa using hn
 show dropL _ n = dropL _ n
 unfold dropL
 rw [if_pos (by omega), if_pos (by omega)]
 have hl : (l.take i).length = i := by rw [List.length_take]; omega
 have e1 : (l.take i ++ [l[i]]).eraseIdx n.toNat = l.take i := by
  rw [List.eraseIdx_append_of_length_le (by omega), hl, show n.toNat - i = 0 by omega]
  simp
 have e2 : (l.take i).eraseIdx n.toNat = l.take i := List.eraseIdx_of_length_le (by omega)
 rw [List.take_succ_eq_append_getElem h, e1, e2]
set_option maxHeartbeats 4000000 in
theorem rxdrop_nat (sz most root asid : Nat) (on : Bool) (es : List Ent) (ks : List Mk) (n : Int) (mark : Bool) (A1 A2 A3 A4 : Option Addr) (n1 n4 c1 c2 c3 c4 : Nat) (w : World)
  (hen : es.length ≤ 1000) (hkn : ks.length ≤ 1000) (h2 : RdRow w (.slice A2 es.length c2) es.length (rowL eL es)) (h3 : RdRow w (.slice A3 ks.length c3) ks.length (rowL mL ks)) :
  Calls Tryz.prog 45 #[xV sz most root asid on (.slice A1 n1 c1) (.slice A2 es.length c2) (.slice A3 ks.length c3) (.slice A4 n4 c4), .int .i64 n, .bool mark] w (RFlushPost sz most root asid on (.slice A1 n1 c1) (.slice A4 n4 c4) (leftL mark n es) (leftL (!mark) n ks) w) := by
 obtain ⟨i0, hi0, hz0, hz1, hz2⟩ := info_parts rinfoE
 have I0 := Lib.hid hi0
 have I1 := Lib.hid hz0
 have I2 := Lib.hid hz1
 have I3 := Lib.hid hz2
 clear hi0 hz0 hz1 hz2
 obtain ⟨j0, hi0, hz0, hz1, hz2⟩ := info_parts rinfoK'
 have J0 := Lib.hid hi0
 have J1 := Lib.hid hz0
 have J2 := Lib.hid hz1
 have J3 := Lib.hid hz2
 have HEN := Lib.hid hen
 have HKN := Lib.hid hkn
 have HR2 := Lib.hid h2
 have HR3 := Lib.hid h3
 clear hi0 hz0 hz1 hz2 hen hkn h2 h3
 unfold xV
 go_enter Tryz.func45, Tryz.ntmps45
 go_upto_region 1 with fail
 generalize hW : World.alloc (World.alloc w _) _ = W
 have HXB : Hid (Box W w.heap.size (xC sz most root asid on (.slice A1 n1 c1) (.slice A2 es.length c2) (.slice A3 ks.length c3) (.slice A4 n4 c4))) := by
  rw [← hW]
  exact (Box.new w (xC sz most root asid on (.slice A1 n1 c1) (.slice A2 es.length c2) (.slice A3 ks.length c3) (.slice A4 n4 c4)) 36).below (below1 _ _)
 have H6B : Hid (Box W (w.heap.size + 1) (xC 0 0 0 0 false (.slice none 0 0) (.slice none 0 0) (.slice none 0 0) (.slice none 0 0))) := by
  rw [← hW]
  exact Box.new' (w.alloc (.cells (xC sz most root asid on (.slice A1 n1 c1) (.slice A2 es.length c2) (.slice A3 ks.length c3) (.slice A4 n4 c4)).toArray 36)) _ (by simp) (xC 0 0 0 0 false (.slice none 0 0) (.slice none 0 0) (.slice none 0 0) (.slice none 0 0)) 36
 have HB0 : Hid (Below w.heap.size w W) := by rw [← hW]; exact (below1 w _).alloc (by simp) _
 clear hW
 have hen2 : es.length ≤ 1000 := HEN.out
 have hkn2 : ks.length ≤ 1000 := HKN.out
 go_wp2
 go_loopw [7, 8] (fun ov iv wr => ∃ (i : Nat) (B2 : Option Addr) (d2 : Nat), iv = .int .i64 i ∧ ov = .slice B2 (leftL mark n (es.take i)).length d2 ∧ i ≤ es.length ∧ Hid (RowAt wr (fun k => W.heap.size ≤ k) 10 (.slice B2 (leftL mark n (es.take i)).length d2) (leftL mark n (es.take i)).length (rowL eL (leftL mark n (es.take i)))) ∧ Hid (Below W.heap.size W wr)) (fun _ iv _ => es.length - (RowKit.intOf iv).toNat)
 case atStart => exact ⟨0, none, 0, rfl, by cases mark <;> simp [leftL, dropL], by omega, by rw [Hid]; cases mark <;> simpa [leftL, dropL, rowL] using RowAt.nil W _ 10, Below.refl _ _⟩
 case round =>
  obtain ⟨i, B2, d2, rfl, rfl, hi, HO, HB⟩ := hrel
  have x3 := (HXB.out.below HB.out).at 3 _ rfl
  by_cases hlt : i < es.length
  ·obtain ⟨g, o, rfl, hr⟩ := HR2.out.get (by omega)
   have hrng : wr.rangeAt g o (rowL eL es) := fun j v hj => keep_cell HB.out (keep_cell HB0.out (hr j v hj))
   have k0 := row_at0 eL_len hrng i hlt _ rfl
   have k1 := row_at eL_len hrng i hlt 1 _ rfl
   have k2 := row_at eL_len hrng i hlt 2 _ rfl
   have k3 := row_at eL_len hrng i hlt 3 _ rfl
   have k4 := row_at eL_len hrng i hlt 4 _ rfl
   have k5 := row_at eL_len hrng i hlt 5 _ rfl
   have k6 := row_at eL_len hrng i hlt 6 _ rfl
   have k7 := row_at eL_len hrng i hlt 7 _ rfl
   have k8 := row_at eL_len hrng i hlt 8 _ rfl
   have k9 := row_at eL_len hrng i hlt 9 _ rfl
   have i1 : (0 : Int) ≤ (i : Int) := by omega
   have i2 : (i : Int) < (es.length : Int) := by omega
   have HLE : Hid ((leftL mark n (es.take i)).length ≤ i) := Nat.le_trans (leftL_len _ _ _) (by simp; omega)
   have T1 := Lib.hid (leftL_all n es i hlt)
   have T2 := Lib.hid (leftL_ne n es i hlt)
   have T3 := Lib.hid (leftL_eq n es i hlt)
   clear hrng hr
   generalize hL : leftL mark n (es.take i) = L at *
   generalize es[i] = y at *
   obtain ⟨ya, yv, yl, ⟨yk, yo, y1, y2, y3, y4, yt⟩⟩ := y
   have gz : g < wr.heap.size := World.block_lt_of_cell? wr _ k0
   try dsimp only at gz
   try dsimp only at k0 k1 k2 k3 k4 k5 k6 k7 k8 k9
   cases mark with
   | true =>
    have HST2 : Hid (leftL true n (es.take (i + 1)) = L ++ [⟨ya, yv, yl, ⟨yk, yo, y1, y2, y3, y4, yt⟩⟩]) := by rw [Hid, T1.out, hL]
    clear hL T1 T2 T3
    go_wp2_with (at_builtin; refine wpList_append_row (by rfl) _ _ 32 (by rfl) 101 i0 (.agg #[.int .i64 0, .int .u64 0, .int .i64 0, .int .i64 0, .int .u64 0, .bool false, .bool false, .bool false, .bool false, .int .i64 0]) 10 56 Tryz.underlying32 I0.out I1.out I2.out I3.out rfl (by omega) (fun k => W.heap.size ≤ k) (.slice B2 L.length d2) L.length (rowL eL L) (by rfl) (HO.out.below (below1 wr (.cells #[.int .i64 ya, .int .u64 yv, .int .i64 yl, .int .i64 yk, .int .u64 yo, .bool y1, .bool y2, .bool y3, .bool y4, .int .i64 yt] 101))) ⟨wr.heap.size, 0, none⟩ 1 1 [.int .i64 ya, .int .u64 yv, .int .i64 yl, .int .i64 yk, .int .u64 yo, .bool y1, .bool y2, .bool y3, .bool y4, .int .i64 yt] (by rfl) (by omega) rfl (by intro j u hu; rw [Addr.add_mid]; exact range_new wr #[.int .i64 ya, .int .u64 yv, .int .i64 yl, .int .i64 yk, .int .u64 yo, .bool y1, .bool y2, .bool y3, .bool y4, .int .i64 yt] 101 j u hu) (eL_one ⟨ya, yv, yl, ⟨yk, yo, y1, y2, y3, y4, yt⟩⟩) (by have := HLE.out; unfold maxLen; omega) (by have := HLE.out; omega) ?_; intro A6 c6 W5 hrow5 hkp5)
    go_roundw
    case rel =>
     have hsb := HB.out.size
     refine ⟨i + 1, A6, c6, by first | rfl | go_num, by rw [HST2.out]; simp, by omega, ?_, ?_⟩
     ·rw [HST2.out, rowL_append, rowL_one, List.length_append]
      exact hrow5.mono (fun k _ y => y.elim id (fun z => by rw [World.size_alloc] at z; omega))
     ·exact hkp5.toBelow (HB.out.alloc (by omega) _) (by simp; omega) (fun k h => h)
    case measure => simp [RowKit.intOf]; omega
   | false =>
    obtain ⟨q, hq⟩ : ∃ q, ((i : Int) != n) = q := ⟨_, rfl⟩
    cases q with
    | true =>
     have HST2 : Hid (leftL false n (es.take (i + 1)) = L ++ [⟨ya, yv, yl, ⟨yk, yo, y1, y2, y3, y4, yt⟩⟩]) := by rw [Hid, T2.out hq, hL]
     clear hL T1 T2 T3
     go_wp2_with (at_builtin; refine wpList_append_row (by rfl) _ _ 32 (by rfl) 101 i0 (.agg #[.int .i64 0, .int .u64 0, .int .i64 0, .int .i64 0, .int .u64 0, .bool false, .bool false, .bool false, .bool false, .int .i64 0]) 10 56 Tryz.underlying32 I0.out I1.out I2.out I3.out rfl (by omega) (fun k => W.heap.size ≤ k) (.slice B2 L.length d2) L.length (rowL eL L) (by rfl) (HO.out.below (below1 wr (.cells #[.int .i64 ya, .int .u64 yv, .int .i64 yl, .int .i64 yk, .int .u64 yo, .bool y1, .bool y2, .bool y3, .bool y4, .int .i64 yt] 101))) ⟨wr.heap.size, 0, none⟩ 1 1 [.int .i64 ya, .int .u64 yv, .int .i64 yl, .int .i64 yk, .int .u64 yo, .bool y1, .bool y2, .bool y3, .bool y4, .int .i64 yt] (by rfl) (by omega) rfl (by intro j u hu; rw [Addr.add_mid]; exact range_new wr #[.int .i64 ya, .int .u64 yv, .int .i64 yl, .int .i64 yk, .int .u64 yo, .bool y1, .bool y2, .bool y3, .bool y4, .int .i64 yt] 101 j u hu) (eL_one ⟨ya, yv, yl, ⟨yk, yo, y1, y2, y3, y4, yt⟩⟩) (by have := HLE.out; unfold maxLen; omega) (by have := HLE.out; omega) ?_; intro A6 c6 W5 hrow5 hkp5)
     go_roundw
     case rel =>
      have hsb := HB.out.size
      refine ⟨i + 1, A6, c6, by first | rfl | go_num, by rw [HST2.out]; simp, by omega, ?_, ?_⟩
      ·rw [HST2.out, rowL_append, rowL_one, List.length_append]
       exact hrow5.mono (fun k _ y => y.elim id (fun z => by rw [World.size_alloc] at z; omega))
      ·exact hkp5.toBelow (HB.out.alloc (by omega) _) (by simp; omega) (fun k h => h)
     case measure => simp [RowKit.intOf]; omega
    | false =>
     have HST2 : Hid (leftL false n (es.take (i + 1)) = L) := by rw [Hid, T3.out hq, hL]
     clear hL T1 T2 T3
     go_wp2
     go_roundw
     case rel => exact ⟨i + 1, B2, d2, by first | rfl | go_num, by rw [HST2.out], by omega, by rw [HST2.out]; exact HO, HB⟩
     case measure => simp [RowKit.intOf]; omega
  ·obtain rfl : i = es.length := by omega
   have ht : Hid (es.take es.length = es) := List.take_length
   rw [ht.out] at HO ⊢
   obtain ⟨E, hE⟩ : ∃ E, leftL mark n es = E := ⟨_, rfl⟩
   rw [hE] at HO ⊢
   have HEE := Lib.hid hE
   clear hE hlt hi
   obtain ⟨wz, rfl⟩ : ∃ u, u = wr := ⟨wr, rfl⟩
   go_wp2
   go_loopw [9, 10] (fun ov iv wr => ∃ (i : Nat) (B2 : Option Addr) (d2 : Nat), iv = .int .i64 i ∧ ov = .slice B2 (leftL (!mark) n (ks.take i)).length d2 ∧ i ≤ ks.length ∧ Hid (RowAt wr (fun k => wz.heap.size ≤ k) 4 (.slice B2 (leftL (!mark) n (ks.take i)).length d2) (leftL (!mark) n (ks.take i)).length (rowL mL (leftL (!mark) n (ks.take i)))) ∧ Hid (Below wz.heap.size wz wr)) (fun _ iv _ => ks.length - (RowKit.intOf iv).toNat)
   case atStart => exact ⟨0, none, 0, rfl, by cases mark <;> simp [leftL, dropL], by omega, by rw [Hid]; cases mark <;> simpa [leftL, dropL, rowL] using RowAt.nil wz _ 4, Below.refl _ _⟩
   case round =>
    have HOE := HO
    have HBE := HB
    clear HO HB x3
    obtain ⟨i, B3, d3, rfl, rfl, hi, HO, HB⟩ := hrel
    have x4 := ((HXB.out.below HBE.out).below HB.out).at 4 _ rfl
    by_cases hlt : i < ks.length
    ·obtain ⟨g, o, rfl, hr⟩ := HR3.out.get (by omega)
     have hrng : wr.rangeAt g o (rowL mL ks) := fun j v hj => keep_cell HB.out (keep_cell HBE.out (keep_cell HB0.out (hr j v hj)))
     have k0 := row_at0 mL_len hrng i hlt _ rfl
     have k1 := row_at mL_len hrng i hlt 1 _ rfl
     have k2 := row_at mL_len hrng i hlt 2 _ rfl
     have k3 := row_at mL_len hrng i hlt 3 _ rfl
     have i1 : (0 : Int) ≤ (i : Int) := by omega
     have i2 : (i : Int) < (ks.length : Int) := by omega
     have HLE : Hid ((leftL (!mark) n (ks.take i)).length ≤ i) := Nat.le_trans (leftL_len _ _ _) (by simp; omega)
     have T1 := Lib.hid (leftL_all n ks i hlt)
     have T2 := Lib.hid (leftL_ne n ks i hlt)
     have T3 := Lib.hid (leftL_eq n ks i hlt)
     clear hrng hr
     generalize hL : leftL (!mark) n (ks.take i) = L at *
     generalize ks[i] = y at *
     obtain ⟨ya, yv, yl, yt⟩ := y
     have gz : g < wr.heap.size := World.block_lt_of_cell? wr _ k0
     try dsimp only at gz
     try dsimp only at k0 k1 k2 k3
     cases mark with
     | false =>
      have HST2 : Hid (leftL (!false) n (ks.take (i + 1)) = L ++ [⟨ya, yv, yl, yt⟩]) := by
       have h1 : leftL true n (ks.take i) = L := hL
       rw [Hid, Bool.not_false, T1.out, h1]
      clear hL T1 T2 T3
      go_wp2_with (at_builtin; refine wpList_append_row (by rfl) _ _ 33 (by rfl) 122 j0 (.agg #[.int .i64 0, .int .u64 0, .int .i64 0, .int .u64 0]) 4 32 Tryz.underlying33 J0.out J1.out J2.out J3.out rfl (by omega) (fun k => wz.heap.size ≤ k) (.slice B3 L.length d3) L.length (rowL mL L) (by rfl) (HO.out.below (below1 wr (.cells #[.int .i64 ya, .int .u64 yv, .int .i64 yl, .int .u64 yt] 122))) ⟨wr.heap.size, 0, none⟩ 1 1 [.int .i64 ya, .int .u64 yv, .int .i64 yl, .int .u64 yt] (by rfl) (by omega) rfl (by intro j u hu; rw [Addr.add_mid]; exact range_new wr #[.int .i64 ya, .int .u64 yv, .int .i64 yl, .int .u64 yt] 122 j u hu) (mL_one ⟨ya, yv, yl, yt⟩) (by have := HLE.out; unfold maxLen; omega) (by have := HLE.out; omega) ?_; intro A6 c6 W5 hrow5 hkp5)
      go_roundw
      case rel =>
       have hsb := HB.out.size
       refine ⟨i + 1, A6, c6, by first | rfl | go_num, by rw [HST2.out]; simp, by omega, ?_, ?_⟩
       ·rw [HST2.out, rowL_append, rowL_one, List.length_append]
        exact hrow5.mono (fun k _ y => y.elim id (fun z => by rw [World.size_alloc] at z; omega))
       ·exact hkp5.toBelow (HB.out.alloc (by omega) _) (by simp; omega) (fun k h => h)
      case measure => simp [RowKit.intOf]; omega
     | true =>
      obtain ⟨q, hq⟩ : ∃ q, ((i : Int) != n) = q := ⟨_, rfl⟩
      have h1 : leftL false n (ks.take i) = L := hL
      cases q with
      | true =>
       have HST2 : Hid (leftL (!true) n (ks.take (i + 1)) = L ++ [⟨ya, yv, yl, yt⟩]) := by rw [Hid, Bool.not_true, T2.out hq, h1]
       clear hL T1 T2 T3 h1
       go_wp2_with (at_builtin; refine wpList_append_row (by rfl) _ _ 33 (by rfl) 122 j0 (.agg #[.int .i64 0, .int .u64 0, .int .i64 0, .int .u64 0]) 4 32 Tryz.underlying33 J0.out J1.out J2.out J3.out rfl (by omega) (fun k => wz.heap.size ≤ k) (.slice B3 L.length d3) L.length (rowL mL L) (by rfl) (HO.out.below (below1 wr (.cells #[.int .i64 ya, .int .u64 yv, .int .i64 yl, .int .u64 yt] 122))) ⟨wr.heap.size, 0, none⟩ 1 1 [.int .i64 ya, .int .u64 yv, .int .i64 yl, .int .u64 yt] (by rfl) (by omega) rfl (by intro j u hu; rw [Addr.add_mid]; exact range_new wr #[.int .i64 ya, .int .u64 yv, .int .i64 yl, .int .u64 yt] 122 j u hu) (mL_one ⟨ya, yv, yl, yt⟩) (by have := HLE.out; unfold maxLen; omega) (by have := HLE.out; omega) ?_; intro A6 c6 W5 hrow5 hkp5)
       go_roundw
       case rel =>
        have hsb := HB.out.size
        refine ⟨i + 1, A6, c6, by first | rfl | go_num, by rw [HST2.out]; simp, by omega, ?_, ?_⟩
        ·rw [HST2.out, rowL_append, rowL_one, List.length_append]
         exact hrow5.mono (fun k _ y => y.elim id (fun z => by rw [World.size_alloc] at z; omega))
        ·exact hkp5.toBelow (HB.out.alloc (by omega) _) (by simp; omega) (fun k h => h)
       case measure => simp [RowKit.intOf]; omega
      | false =>
       have HST2 : Hid (leftL (!true) n (ks.take (i + 1)) = L) := by rw [Hid, Bool.not_true, T3.out hq, h1]
       clear hL T1 T2 T3 h1
       go_wp2
       go_roundw
       case rel => exact ⟨i + 1, B3, d3, by first | rfl | go_num, by rw [HST2.out], by omega, by rw [HST2.out]; exact HO, HB⟩
       case measure => simp [RowKit.intOf]; omega
    ·obtain rfl : i = ks.length := by omega
     have ht : Hid (ks.take ks.length = ks) := List.take_length
     rw [ht.out] at HO ⊢
     obtain ⟨K, hK⟩ : ∃ K, leftL (!mark) n ks = K := ⟨_, rfl⟩
     rw [hK] at HO ⊢
     have HKK := Lib.hid hK
     clear hK hlt hi x4 hen2 hkn2
     have HX3 : Hid (Box wr w.heap.size (xC sz most root asid on (.slice A1 n1 c1) (.slice A2 es.length c2) (.slice A3 ks.length c3) (.slice A4 n4 c4))) := (HXB.out.below HBE.out).below HB.out
     have H63 : Hid (Box wr (w.heap.size + 1) (xC 0 0 0 0 false (.slice none 0 0) (.slice none 0 0) (.slice none 0 0) (.slice none 0 0))) := (H6B.out.below HBE.out).below HB.out
     have HB4 : Hid (Below w.heap.size w wr) := HB0.out.trans ((HBE.out.trans (HB.out.mono HBE.out.size)).mono HB0.out.size)
     have HOE2 := Lib.hid (HOE.out.below HB.out)
     have hz0 : w.heap.size + 1 < W.heap.size := H6B.out.2.2
     have hz1 : W.heap.size ≤ wz.heap.size := HBE.out.size
     clear HXB H6B HB0 HOE HBE HB
     have BX := HX3.out
     have x0 := BX.at 0 _ rfl
     have x1 := BX.at 1 _ rfl
     have x2 := BX.at 2 _ rfl
     have x3 := BX.at 3 _ rfl
     have x4 := BX.at 4 _ rfl
     have x5 := BX.at 5 _ rfl
     have x6 := BX.at 6 _ rfl
     have x7 := BX.at 7 _ rfl
     have x8 := BX.at 8 _ rfl
     have fx := BX.2.1
     have zx := BX.2.2
     have BP := H63.out
     have p0 := BP.at 0 _ rfl
     have p1 := BP.at 1 _ rfl
     have p2 := BP.at 2 _ rfl
     have p3 := BP.at 3 _ rfl
     have p4 := BP.at 4 _ rfl
     have p5 := BP.at 5 _ rfl
     have p6 := BP.at 6 _ rfl
     have p7 := BP.at 7 _ rfl
     have p8 := BP.at 8 _ rfl
     have fp := BP.2.1
     have zp := BP.2.2
     clear BX BP
     go_wp2
     refine bodyPost_ret (v := xV sz most root asid on (.slice A1 n1 c1) (.slice B2 E.length d2) (.slice B3 K.length d3) (.slice A4 n4 c4)) (by simp [results, Tryz.results45, go_sem, zx, zp, p0, p1, p2, p3, p4, p5, p6, p7, p8, xV]) rfl ?_
     rw [set9_eq]
     have hk : Kp (fun k => k = w.heap.size ∨ k = w.heap.size + 1) wr (((wr.setCell ⟨w.heap.size, 3, none⟩ (.slice B2 E.length d2)).setCell ⟨w.heap.size, 4, none⟩ (.slice B3 K.length d3)).setCells (w.heap.size + 1) 0 (xC sz most root asid on (.slice A1 n1 c1) (.slice B2 E.length d2) (.slice B3 K.length d3) (.slice A4 n4 c4))) := (((Kp.refl (fun k => k = w.heap.size ∨ k = w.heap.size + 1) wr).setCell (p := ⟨w.heap.size, 3, none⟩) (.inl (.inl rfl)) _).setCell (p := ⟨w.heap.size, 4, none⟩) (.inl (.inl rfl)) _).setCells (.inl (.inr rfl)) 0 _
     rw [HEE.out, HKK.out]
     exact ⟨B2, d2, B3, d3, rfl, (HOE2.out.kept hk (fun k y e => by omega)).mono (fun k _ y => by omega), (HO.out.kept hk (fun k y e => by omega)).mono (fun k _ y => by omega), hk.toBelow HB4.out HB4.out.size (fun k e => by omega)⟩
end Go.Proofs.YtbapgngngaaojaaGreat
namespace Go.Proofs.YtbapgngngaaojaaGreat
open Go.RowKit Go.Lib
set_option maxRecDepth 100000
def regO (on : Bool) (root asid : Nat) : Option (Nat × Nat) := if on then some (root, asid) else none
def RGPost (ok : Nat → Prop) (sz most root asid : Nat) (on : Bool) (vw vp : Value) (S : St) (w : World) (e : Ending) (w' : World) : Prop :=
 ∃ A2 c2 A3 c3, e = .returned (xV sz most root asid on vw (.slice A2 S.es.length c2) (.slice A3 S.ks.length c3) vp) ∧ RowAt w' (fun k => ok k ∨ w.heap.size ≤ k) 10 (.slice A2 S.es.length c2) S.es.length (rowL eL S.es) ∧ RowAt w' (fun k => ok k ∨ w.heap.size ≤ k) 4 (.slice A3 S.ks.length c3) S.ks.length (rowL mL S.ks) ∧ Below w.heap.size w w'
theorem rguess_any {ok : Nat → Prop} (sz most root asid va : Nat) (on : Bool) (ws : List (Nat × Nat)) (es : List Ent) (ks : List Mk) (fill led keep : Bool) (A1 A2 A3 A4 : Option Addr) (n4 c1 c2 c3 c4 : Nat) (w : World) (hs : OkSt ⟨sz, rdM ws, most, es, ks, regO on root asid⟩) (hv : va < 18446744073709551616) (hn : ws.length ≤ 999999) (hws : ∀ a, rdM ws a < 18446744073709551616) (hok : ∀ k, ok k → k < w.heap.size)
  (h1 : RowAt w ok 2 (.slice A1 ws.length c1) ws.length (rowL wL ws)) (h2 : RowAt w ok 10 (.slice A2 es.length c2) es.length (rowL eL es)) (h3 : RowAt w ok 4 (.slice A3 ks.length c3) ks.length (rowL mL ks)) :
  Calls Tryz.prog 44 #[xV sz most root asid on (.slice A1 ws.length c1) (.slice A2 es.length c2) (.slice A3 ks.length c3) (.slice A4 n4 c4), .int .u64 va, .agg #[.bool fill, .bool led, .bool keep]] w (RGPost ok sz most root asid on (.slice A1 ws.length c1) (.slice A4 n4 c4) (guessM ⟨sz, rdM ws, most, es, ks, regO on root asid⟩ va fill led keep) w) := by
 cases on with
 | true => exact (rguess_nat sz most root asid va ws es ks fill led keep A1 A2 A3 A4 n4 c1 c2 c3 c4 w hs hv hn hws hok h1 h2 h3).mono (fun e w' h => h)
 | false =>
  refine (rguess_off sz most root asid va fill led keep A1 A2 A3 A4 ws.length es.length ks.length n4 c1 c2 c3 c4 w).mono ?_
  rintro e w' ⟨rfl, hb⟩
  exact ⟨A2, c2, A3, c3, rfl, (h2.below hb).mono (fun k _ y => .inl y), (h3.below hb).mono (fun k _ y => .inl y), hb⟩
theorem guessM_keeps (s : St) (va : Nat) (fill led keep : Bool) : (guessM s va fill led keep).sz = s.sz ∧ (guessM s va fill led keep).rd = s.rd ∧ (guessM s va fill led keep).most = s.most ∧ (guessM s va fill led keep).reg = s.reg := by
 unfold guessM
 split
 ·exact ⟨rfl, rfl, rfl, rfl⟩
 ·split
  ·exact walkM_keeps _ _ _ _ _ _ _
  ·exact ⟨rfl, rfl, rfl, rfl⟩
theorem guessM_okSt {s : St} (h : OkSt s) (va : Nat) (fill led keep : Bool) : OkSt (guessM s va fill led keep) := by
 unfold guessM
 split
 ·exact h
 ·rename_i hr
  split
  ·exact walkM_okSt h hr va fill led keep
  ·exact h
/-- A state that is the document's over these words and this register. -/
def YSt (sz most root asid : Nat) (on : Bool) (ws : List (Nat × Nat)) (s : St) : Prop := OkSt s ∧ s = ⟨sz, rdM ws, most, s.es, s.ks, regO on root asid⟩
theorem YSt.guess {sz most root asid : Nat} {on : Bool} {ws : List (Nat × Nat)} {s : St} (h : YSt sz most root asid on ws s) (va : Nat) (fill led keep : Bool) : YSt sz most root asid on ws (guessM s va fill led keep) := by
 refine ⟨guessM_okSt h.1 va fill led keep, ?_⟩
 have hk := guessM_keeps s va fill led keep
 have h1 : s.sz = sz := by rw [h.2]
 have h2 : s.rd = rdM ws := by rw [h.2]
 have h3 : s.most = most := by rw [h.2]
 have h4 : s.reg = regO on root asid := by rw [h.2]
 rw [h1, h2, h3, h4] at hk
 generalize guessM s va fill led keep = g at *
 obtain ⟨a, b, c, d, e, f⟩ := g
 obtain ⟨rfl, rfl, rfl, rfl⟩ := hk
 rfl
theorem ext_at {ok ok2 : Nat → Prop} {w : World} {sz : Nat} {v : Value} {n : Nat} {cs : List Value} (h : RowAt w ok sz v n cs) (hs : ∀ k, ok k → ok2 k) : RowAt w (fun k => ok2 k ∧ k < w.heap.size) sz v n cs := h.mono (fun k hk y => ⟨hs k y, hk⟩)
def RWritePost (ok : Nat → Prop) (sz most root asid : Nat) (on : Bool) (vw ve vk vp : Value) (M : Nat) (ws : List (Nat × Nat)) (S : St) (w : World) (e : Ending) (w' : World) : Prop :=
 ((M ≠ 0 ∧ e = .returned (.tuple #[xV sz most root asid on vw ve vk vp, .int .i64 M])) ∨ (M = 0 ∧ ∃ A1 c1 A2 c2 A3 c3, e = .returned (.tuple #[xV sz most root asid on (.slice A1 ws.length c1) (.slice A2 S.es.length c2) (.slice A3 S.ks.length c3) vp, .int .i64 0]) ∧
  RowAt w' (fun k => ok k ∨ w.heap.size ≤ k) 2 (.slice A1 ws.length c1) ws.length (rowL wL ws) ∧ RowAt w' (fun k => ok k ∨ w.heap.size ≤ k) 10 (.slice A2 S.es.length c2) S.es.length (rowL eL S.es) ∧ RowAt w' (fun k => ok k ∨ w.heap.size ≤ k) 4 (.slice A3 S.ks.length c3) S.ks.length (rowL mL S.ks))) ∧ Below w.heap.size w w'
set_option maxHeartbeats 2000000 in
theorem rxwrite_bad {ok : Nat → Prop} (sz most root asid at_ v : Nat) (on : Bool) (ws ws2 : List (Nat × Nat)) (S : St) (A1 A2 A3 A4 : Option Addr) (n2 n3 n4 c1 c2 c3 c4 : Nat) (w : World) (ha : at_ < 18446744073709551616) (hn : ws.length ≤ 1000000) (hm : mayP sz at_ ≠ 0)
  (h1 : RdRow w (.slice A1 ws.length c1) ws.length (rowL wL ws)) :
  Calls Tryz.prog 50 #[xV sz most root asid on (.slice A1 ws.length c1) (.slice A2 n2 c2) (.slice A3 n3 c3) (.slice A4 n4 c4), .int .u64 at_, .int .u64 v] w (RWritePost ok sz most root asid on (.slice A1 ws.length c1) (.slice A2 n2 c2) (.slice A3 n3 c3) (.slice A4 n4 c4) (mayP sz at_) ws2 S w) := by
 have C1 : Hid (∀ u, Below w.heap.size w u → Calls Tryz.prog 31 #[.agg #[.int .u64 sz, .slice A1 ws.length c1], .int .u64 at_, .int .u64 v] u fun e w' => e = .returned (.tuple #[.agg #[.int .u64 sz, .slice A1 ws.length c1], .int .i64 (mayP sz at_)]) ∧ Below u.heap.size u w') := fun u hb =>
  (rwrite_nat sz at_ v ws A1 c1 u ha hn (h1.below hb)).mono fun e w' h => ⟨by rcases h.1 with h | h; exact h.2; exact absurd h.1 hm, h.2⟩
 generalize mayP sz at_ = M at *
 have d1 : ((M : Int) != 0) = true := by simp; omega
 have HM := Lib.hid hm
 clear h1 hm hn
 unfold xV
 go_enter Tryz.func50, Tryz.ntmps50
 go_upto_region 1 with fail
 generalize hW : World.alloc (World.alloc w _) _ = W
 have HXB : Hid (Box W w.heap.size (xC sz most root asid on (.slice A1 ws.length c1) (.slice A2 n2 c2) (.slice A3 n3 c3) (.slice A4 n4 c4))) := by
  rw [← hW]
  exact (Box.new w (xC sz most root asid on (.slice A1 ws.length c1) (.slice A2 n2 c2) (.slice A3 n3 c3) (.slice A4 n4 c4)) 36).below (below1 _ _)
 have H6B : Hid (Box W (w.heap.size + 1) (xC 0 0 0 0 false (.slice none 0 0) (.slice none 0 0) (.slice none 0 0) (.slice none 0 0))) := by
  rw [← hW]
  exact Box.new' (w.alloc (.cells (xC sz most root asid on (.slice A1 ws.length c1) (.slice A2 n2 c2) (.slice A3 n3 c3) (.slice A4 n4 c4)).toArray 36)) _ (by simp) (xC 0 0 0 0 false (.slice none 0 0) (.slice none 0 0) (.slice none 0 0) (.slice none 0 0)) 36
 have HB0 : Hid (Below w.heap.size w W) := by rw [← hW]; exact (below1 w _).alloc (by simp) _
 clear hW
 have x0 := HXB.out.at 0 _ rfl
 have x1 := HXB.out.at 1 _ rfl
 go_upto_region 2 with (go_at_call 31; refine (C1.out _ HB0.out).mono ?_; rintro e w1 ⟨rfl, hb1⟩; have HB1 := Lib.hid hb1; clear hb1)
 have HBX : Hid (Below W.heap.size W (w1.alloc (.cells #[.int .u64 sz, .slice A1 ws.length c1] 31))) := HB1.out.alloc HB1.out.size _
 generalize World.alloc w1 _ = W3 at *
 have HB3 : Hid (Below w.heap.size w W3) := HB0.out.trans (HBX.out.mono HB0.out.size)
 replace HXB := Lib.hid (HXB.out.below HBX.out)
 replace H6B := Lib.hid (H6B.out.below HBX.out)
 clear x0 x1 HB1 HBX HB0
 have BX := HXB.out
 have x0 := BX.at 0 _ rfl
 have x1 := BX.at 1 _ rfl
 have x2 := BX.at 2 _ rfl
 have x3 := BX.at 3 _ rfl
 have x4 := BX.at 4 _ rfl
 have x5 := BX.at 5 _ rfl
 have x6 := BX.at 6 _ rfl
 have x7 := BX.at 7 _ rfl
 have x8 := BX.at 8 _ rfl
 have fx := BX.2.1
 have zx := BX.2.2
 have BP := H6B.out
 have p0 := BP.at 0 _ rfl
 have p1 := BP.at 1 _ rfl
 have p2 := BP.at 2 _ rfl
 have p3 := BP.at 3 _ rfl
 have p4 := BP.at 4 _ rfl
 have p5 := BP.at 5 _ rfl
 have p6 := BP.at 6 _ rfl
 have p7 := BP.at 7 _ rfl
 have p8 := BP.at 8 _ rfl
 have fp := BP.2.1
 have zp := BP.2.2
 clear BX BP fx
 go_wp2
 refine bodyPost_ret (v := .tuple #[xV sz most root asid on (.slice A1 ws.length c1) (.slice A2 n2 c2) (.slice A3 n3 c3) (.slice A4 n4 c4), .int .i64 M]) (by simp [results, Tryz.results50, go_sem, zp, p0, p1, p2, p3, p4, p5, p6, p7, p8, xV]) rfl ?_
 rw [set9_eq]
 exact ⟨.inl ⟨HM.out, rfl⟩, below_setCells HB3.out (by omega) 0 _⟩
end Go.Proofs.YtbapgngngaaojaaGreat
namespace Go.Proofs.YtbapgngngaaojaaGreat
open Go.RowKit Go.Lib
set_option maxRecDepth 100000
/-- The document's machine. -/
structure Yr where
 sz : Nat
 most : Nat
 root : Nat
 asid : Nat
 on : Bool
 ws : List (Nat × Nat)
 es : List Ent
 ks : List Mk
 ps : List Pl
/-- Where its rows lie. -/
structure Sl where
 A1 : Option Addr
 c1 : Nat
 A2 : Option Addr
 c2 : Nat
 A3 : Option Addr
 c3 : Nat
 A4 : Option Addr
 c4 : Nat
def yV (y : Yr) (q : Sl) : Value := xV y.sz y.most y.root y.asid y.on (.slice q.A1 y.ws.length q.c1) (.slice q.A2 y.es.length q.c2) (.slice q.A3 y.ks.length q.c3) (.slice q.A4 y.ps.length q.c4)
def YAt (ok : Nat → Prop) (y : Yr) (q : Sl) (w : World) : Prop :=
 RowAt w ok 2 (.slice q.A1 y.ws.length q.c1) y.ws.length (rowL wL y.ws) ∧ RowAt w ok 10 (.slice q.A2 y.es.length q.c2) y.es.length (rowL eL y.es) ∧ RowAt w ok 4 (.slice q.A3 y.ks.length q.c3) y.ks.length (rowL mL y.ks) ∧ RowAt w ok 4 (.slice q.A4 y.ps.length q.c4) y.ps.length (rowL pL y.ps)
theorem YAt.mono {ok ok2 : Nat → Prop} {y : Yr} {q : Sl} {w : World} (h : YAt ok y q w) (hs : ∀ k, k < w.heap.size → ok k → ok2 k) : YAt ok2 y q w := ⟨h.1.mono hs, h.2.1.mono hs, h.2.2.1.mono hs, h.2.2.2.mono hs⟩
theorem YAt.kept {ok F : Nat → Prop} {y : Yr} {q : Sl} {w w' : World} (h : YAt ok y q w) (hk : Kp F w w') (hn : ∀ k, ok k → ¬ F k) : YAt ok y q w' := ⟨h.1.kept hk hn, h.2.1.kept hk hn, h.2.2.1.kept hk hn, h.2.2.2.kept hk hn⟩
theorem YAt.below {ok : Nat → Prop} {y : Yr} {q : Sl} {w w' : World} (h : YAt ok y q w) (hb : Below w.heap.size w w') : YAt ok y q w' := ⟨h.1.below hb, h.2.1.below hb, h.2.2.1.below hb, h.2.2.2.below hb⟩
/-- What a function of the document's machine answers: G of it. -/
def YP (ok : Nat → Prop) (y : Yr) (G : Value → Value) (w : World) (e : Ending) (w' : World) : Prop :=
 ∃ q, e = .returned (G (yV y q)) ∧ YAt (fun k => ok k ∨ w.heap.size ≤ k) y q w' ∧ Below w.heap.size w w'
/-- Behind the last write of blocks of the step's own. -/
theorem YAt.fin {R B E : Nat → Prop} {y : Yr} {q : Sl} {a b : Nat} {w1 w2 w' : World} (h : YAt (fun k => R k ∨ w1.heap.size ≤ k) y q w2) (hk : Kp E w2 w') (he : ∀ k, E k → a ≤ k ∧ k < w1.heap.size) (hR : ∀ k, R k → B k) (hb : ∀ k, B k → k < a) (ha : a ≤ w1.heap.size) : YAt (fun k => (R k ∨ a ≤ k) ∧ ((B k ∨ (a ≤ k ∧ k < b)) ∨ (w1.heap.size ≤ k ∧ k < w2.heap.size))) y q w' := by
 have h2 : YAt (fun k => (R k ∨ w1.heap.size ≤ k) ∧ k < w2.heap.size) y q w2 := h.mono (fun k hk y => ⟨y, hk⟩)
 refine (h2.kept hk (fun k z e => ?_)).mono (fun k _ z => ?_)
 ·have := he k e
  rcases z.1 with z | z
  ·have := hb k (hR k z); omega
  ·omega
 ·rcases z.1 with u | u
  ·exact ⟨.inl u, .inl (.inl (hR k u))⟩
  ·exact ⟨.inr (by omega), .inr ⟨u, z.2⟩⟩
/-- What a step leaves of both machines: the document's rows are old ones, or new. -/
def StepQ (x m pt pk : Nat) (pv : Value) (R B : Nat → Prop) (w0 : World) (S : St) (y : Yr) (b : Bool) (w : World) (e : Ending) (w' : World) : Prop :=
 ∃ q B', e = .returned (.tuple #[yV y q, .bool b]) ∧ MB x m pt pk pv S B' w0 w' ∧ YAt (fun k => (R k ∨ w.heap.size ≤ k) ∧ B' k) y q w' ∧ (∀ k, B k → B' k) ∧ Kp (KB B w0) w w'
end Go.Proofs.YtbapgngngaaojaaGreat
namespace Go.Proofs.YtbapgngngaaojaaGreat
open Go.RowKit Go.Lib
set_option maxRecDepth 100000
set_option maxHeartbeats 2000000 in
theorem stepq_guess {x m pt pk : Nat} {pv : Value} {s : St} {B : Nat → Prop} {w0 w : World} (h : MB x m pt pk pv s B w0 w) (y y2 : Yr) (q : Sl) (sort n : Int) (va wd : Nat) (hva : va < 18446744073709551616) (f l k : Bool) {R : Nat → Prop} (hR : ∀ k, R k → B k) (hr : YAt R y q w)
  (hc : ∀ u, (∀ k, R k → k < u.heap.size) → YAt R y q u → Calls Tryz.prog 44 #[yV y q, .int .u64 va, .agg #[.bool f, .bool l, .bool k]] u (YP R y2 (fun v => v) u)) :
  Calls Tryz.prog 14 #[.pointer (some ⟨x, 0, none⟩), yV y q, .agg #[.int .i64 2, .int .i64 sort, .int .i64 n, .int .u64 va, .int .u64 wd, .bool f, .bool l, .bool k]] w (StepQ x m pt pk pv R B w0 (guessM s va f l k) y2 true w) := by
 have HC := Lib.hid hc
 clear hc
 unfold yV xV at HC
 have HQ := Lib.hid hr
 have HRB := Lib.hid hR
 have HM := Lib.hid h
 have HBM : Hid (∀ k, B k → k < w.heap.size) := fun k z => h.mine z
 clear h hr hR
 unfold yV xV
 go_enter Tryz.func14, Tryz.ntmps14
 go_upto_region 2 with fail
 generalize hW : World.alloc (World.alloc (World.alloc (World.alloc w _) _) _) _ = W
 have HX : Hid (Box W w.heap.size (xC y.sz y.most y.root y.asid y.on (.slice q.A1 y.ws.length q.c1) (.slice q.A2 y.es.length q.c2) (.slice q.A3 y.ks.length q.c3) (.slice q.A4 y.ps.length q.c4))) := by
  rw [← hW]
  exact (((Box.new w (xC y.sz y.most y.root y.asid y.on (.slice q.A1 y.ws.length q.c1) (.slice q.A2 y.es.length q.c2) (.slice q.A3 y.ks.length q.c3) (.slice q.A4 y.ps.length q.c4)) 36).below (below1 _ _)).below (below1 _ _)).below (below1 _ _)
 have HO : Hid (Box W (w.heap.size + 1) (oC 2 sort n va wd f l k)) := by
  rw [← hW]
  exact ((Box.new' (w.alloc (.cells (xC y.sz y.most y.root y.asid y.on (.slice q.A1 y.ws.length q.c1) (.slice q.A2 y.es.length q.c2) (.slice q.A3 y.ks.length q.c3) (.slice q.A4 y.ps.length q.c4)).toArray 36)) _ (by simp) (oC 2 sort n va wd f l k) 55).below (below1 _ _)).below (below1 _ _)
 have HZ : Hid (Box W (w.heap.size + 2) (xC 0 0 0 0 false (.slice none 0 0) (.slice none 0 0) (.slice none 0 0) (.slice none 0 0))) := by
  rw [← hW]
  exact (Box.new' ((w.alloc (.cells (xC y.sz y.most y.root y.asid y.on (.slice q.A1 y.ws.length q.c1) (.slice q.A2 y.es.length q.c2) (.slice q.A3 y.ks.length q.c3) (.slice q.A4 y.ps.length q.c4)).toArray 36)).alloc (.cells (oC 2 sort n va wd f l k).toArray 55)) _ (by simp) (xC 0 0 0 0 false (.slice none 0 0) (.slice none 0 0) (.slice none 0 0) (.slice none 0 0)) 36).below (below1 _ _)
 have HB0 : Hid (Below w.heap.size w W) := by rw [← hW]; exact (((below1 w _).alloc (by simp) _).alloc (by simp; omega) _).alloc (by simp; omega) _
 have HH : Hid (Box W (w.heap.size + 3) [.bool f, .bool l, .bool k]) := by
  rw [← hW]
  exact Box.new' (((w.alloc (.cells (xC y.sz y.most y.root y.asid y.on (.slice q.A1 y.ws.length q.c1) (.slice q.A2 y.es.length q.c2) (.slice q.A3 y.ks.length q.c3) (.slice q.A4 y.ps.length q.c4)).toArray 36)).alloc (.cells (oC 2 sort n va wd f l k).toArray 55)).alloc (.cells (xC 0 0 0 0 false (.slice none 0 0) (.slice none 0 0) (.slice none 0 0) (.slice none 0 0)).toArray 36)) _ (by simp) [.bool f, .bool l, .bool k] 41
 clear hW
 have hz9 : w.heap.size + 3 < W.heap.size := HH.out.2.2
 have HM2 := Lib.hid (HM.out.adds HB0.out)
 have HQW := Lib.hid (HQ.out.below HB0.out)
 clear HQ
 have o0 := HO.out.at 0 _ rfl
 have o2 := HO.out.at 2 _ rfl
 have o3 := HO.out.at 3 _ rfl
 have o5 := HO.out.at 5 _ rfl
 have o6 := HO.out.at 6 _ rfl
 have o7 := HO.out.at 7 _ rfl
 have C1 := Lib.hid (HM2.out.guess va hva f l k)
 generalize hS2 : (guessM s va f l k) = S2 at *
 clear hS2
 go_wp2_with (first | (go_at_call 24; refine C1.out.mono ?_; rintro e w1 ⟨rfl, hm, hk⟩; have HM3 := Lib.hid hm; have HK3 := Lib.hid hk; have HX3 := Lib.hid (HX.out.mb hk (.inr (by omega))); have HZ3 := Lib.hid (HZ.out.mb hk (.inr (by omega))); have HO3 := Lib.hid (HO.out.mb hk (.inr (by omega))); have HH3 := Lib.hid (HH.out.mb hk (.inr (by omega))); have HQ3 := Lib.hid (HQW.out.kept hk (fun k y z => z.1 (.inl (HRB.out k y)))); clear hm hk o0; have x0 := HX3.out.at 0 _ rfl; have x1 := HX3.out.at 1 _ rfl; have x2 := HX3.out.at 2 _ rfl; have x3 := HX3.out.at 3 _ rfl; have x4 := HX3.out.at 4 _ rfl; have x5 := HX3.out.at 5 _ rfl; have x6 := HX3.out.at 6 _ rfl; have x7 := HX3.out.at 7 _ rfl; have x8 := HX3.out.at 8 _ rfl; have t0 := HH3.out.at 0 _ rfl; have t1 := HH3.out.at 1 _ rfl; have t2 := HH3.out.at 2 _ rfl; have o2 := HO3.out.at 2 _ rfl; have o3 := HO3.out.at 3 _ rfl) | (go_at_call 44; refine (HC.out _ (fun k y => HM3.out.mine (.inl (HRB.out k y))) HQ3.out).mono ?_; rintro e w2 ⟨q2, rfl, hg, hb⟩; dsimp only [yV, xV]; have HG := Lib.hid hg; have HB2 := Lib.hid hb; have HZ4 := Lib.hid (HZ3.out.below hb); clear hg hb; have p0 := HZ4.out.at 0 _ rfl; have p1 := HZ4.out.at 1 _ rfl; have p2 := HZ4.out.at 2 _ rfl; have p3 := HZ4.out.at 3 _ rfl; have p4 := HZ4.out.at 4 _ rfl; have p5 := HZ4.out.at 5 _ rfl; have p6 := HZ4.out.at 6 _ rfl; have p7 := HZ4.out.at 7 _ rfl; have p8 := HZ4.out.at 8 _ rfl; have fp := HZ4.out.2.1; have zp := HZ4.out.2.2))
 refine bodyPost_ret (v := .tuple #[yV y2 q2, .bool true]) (by simp [results, Tryz.results14, go_sem, zp, p0, p1, p2, p3, p4, p5, p6, p7, p8, yV, xV]) rfl ?_
 rw [set9_eq]
 have hk : Kp (fun k => k = w.heap.size + 1 + 1) w2 (w2.setCells (w.heap.size + 1 + 1) 0 (xC y2.sz y2.most y2.root y2.asid y2.on (.slice q2.A1 y2.ws.length q2.c1) (.slice q2.A2 y2.es.length q2.c2) (.slice q2.A3 y2.ks.length q2.c3) (.slice q2.A4 y2.ps.length q2.c4))) := (Kp.refl (fun k => k = w.heap.size + 1 + 1) w2).setCells (.inl rfl) 0 _
 have hz1 : W.heap.size ≤ w1.heap.size := HK3.out.size
 have hk2 : Kp (KB B w0) w w1 := (Kp.ofBelow HB0.out).trans HK3.out (fun i y => .inl ⟨fun z => y.1 (.inl z), y.2⟩)
 exact ⟨q2, _, rfl, (HM3.out.adds HB2.out).own (hk.mono (fun k y => .inl (.inr (by omega)))), HG.out.fin hk (fun k e => by omega) HRB.out HBM.out (by omega), fun k y => .inl (.inl y), (hk2.below HB2.out).trans hk (fun i y => .inr (by omega))⟩
set_option maxHeartbeats 2000000 in
theorem stepq_flushva {x m pt pk : Nat} {pv : Value} {s : St} {B : Nat → Prop} {w0 w : World} (h : MB x m pt pk pv s B w0 w) (y y2 : Yr) (q : Sl) (sort n : Int) (va wd : Nat) (hva : va < 18446744073709551616) (f l k : Bool) {R : Nat → Prop} (hR : ∀ k, R k → B k) (hr : YAt R y q w)
  (hc : ∀ u, (∀ k, R k → k < u.heap.size) → YAt R y q u → Calls Tryz.prog 46 #[yV y q, .int .i64 n, .bool true, .int .u64 va] u (YP R y2 (fun v => v) u)) :
  Calls Tryz.prog 14 #[.pointer (some ⟨x, 0, none⟩), yV y q, .agg #[.int .i64 6, .int .i64 sort, .int .i64 n, .int .u64 va, .int .u64 wd, .bool f, .bool l, .bool k]] w (StepQ x m pt pk pv R B w0 (flushVaM s n va) y2 true w) := by
 have HC := Lib.hid hc
 clear hc
 unfold yV xV at HC
 have HQ := Lib.hid hr
 have HRB := Lib.hid hR
 have HM := Lib.hid h
 have HBM : Hid (∀ k, B k → k < w.heap.size) := fun k z => h.mine z
 clear h hr hR
 unfold yV xV
 go_enter Tryz.func14, Tryz.ntmps14
 go_upto_region 2 with fail
 generalize hW : World.alloc (World.alloc (World.alloc (World.alloc w _) _) _) _ = W
 have HX : Hid (Box W w.heap.size (xC y.sz y.most y.root y.asid y.on (.slice q.A1 y.ws.length q.c1) (.slice q.A2 y.es.length q.c2) (.slice q.A3 y.ks.length q.c3) (.slice q.A4 y.ps.length q.c4))) := by
  rw [← hW]
  exact (((Box.new w (xC y.sz y.most y.root y.asid y.on (.slice q.A1 y.ws.length q.c1) (.slice q.A2 y.es.length q.c2) (.slice q.A3 y.ks.length q.c3) (.slice q.A4 y.ps.length q.c4)) 36).below (below1 _ _)).below (below1 _ _)).below (below1 _ _)
 have HO : Hid (Box W (w.heap.size + 1) (oC 6 sort n va wd f l k)) := by
  rw [← hW]
  exact ((Box.new' (w.alloc (.cells (xC y.sz y.most y.root y.asid y.on (.slice q.A1 y.ws.length q.c1) (.slice q.A2 y.es.length q.c2) (.slice q.A3 y.ks.length q.c3) (.slice q.A4 y.ps.length q.c4)).toArray 36)) _ (by simp) (oC 6 sort n va wd f l k) 55).below (below1 _ _)).below (below1 _ _)
 have HZ : Hid (Box W (w.heap.size + 2) (xC 0 0 0 0 false (.slice none 0 0) (.slice none 0 0) (.slice none 0 0) (.slice none 0 0))) := by
  rw [← hW]
  exact (Box.new' ((w.alloc (.cells (xC y.sz y.most y.root y.asid y.on (.slice q.A1 y.ws.length q.c1) (.slice q.A2 y.es.length q.c2) (.slice q.A3 y.ks.length q.c3) (.slice q.A4 y.ps.length q.c4)).toArray 36)).alloc (.cells (oC 6 sort n va wd f l k).toArray 55)) _ (by simp) (xC 0 0 0 0 false (.slice none 0 0) (.slice none 0 0) (.slice none 0 0) (.slice none 0 0)) 36).below (below1 _ _)
 have HB0 : Hid (Below w.heap.size w W) := by rw [← hW]; exact (((below1 w _).alloc (by simp) _).alloc (by simp; omega) _).alloc (by simp; omega) _
 have HH : Hid (Box W (w.heap.size + 3) [.bool f, .bool l, .bool k]) := by
  rw [← hW]
  exact Box.new' (((w.alloc (.cells (xC y.sz y.most y.root y.asid y.on (.slice q.A1 y.ws.length q.c1) (.slice q.A2 y.es.length q.c2) (.slice q.A3 y.ks.length q.c3) (.slice q.A4 y.ps.length q.c4)).toArray 36)).alloc (.cells (oC 6 sort n va wd f l k).toArray 55)).alloc (.cells (xC 0 0 0 0 false (.slice none 0 0) (.slice none 0 0) (.slice none 0 0) (.slice none 0 0)).toArray 36)) _ (by simp) [.bool f, .bool l, .bool k] 41
 clear hW
 have hz9 : w.heap.size + 3 < W.heap.size := HH.out.2.2
 have HM2 := Lib.hid (HM.out.adds HB0.out)
 have HQW := Lib.hid (HQ.out.below HB0.out)
 clear HQ
 have o0 := HO.out.at 0 _ rfl
 have o2 := HO.out.at 2 _ rfl
 have o3 := HO.out.at 3 _ rfl
 have o5 := HO.out.at 5 _ rfl
 have o6 := HO.out.at 6 _ rfl
 have o7 := HO.out.at 7 _ rfl
 have C1 := Lib.hid (HM2.out.flushVa n va hva)
 generalize hS2 : (flushVaM s n va) = S2 at *
 clear hS2
 go_wp2_with (first | (go_at_call 27; refine C1.out.mono ?_; rintro e w1 ⟨rfl, hm, hk⟩; have HM3 := Lib.hid hm; have HK3 := Lib.hid hk; have HX3 := Lib.hid (HX.out.mb hk (.inr (by omega))); have HZ3 := Lib.hid (HZ.out.mb hk (.inr (by omega))); have HO3 := Lib.hid (HO.out.mb hk (.inr (by omega))); have HH3 := Lib.hid (HH.out.mb hk (.inr (by omega))); have HQ3 := Lib.hid (HQW.out.kept hk (fun k y z => z.1 (.inl (HRB.out k y)))); clear hm hk o0; have x0 := HX3.out.at 0 _ rfl; have x1 := HX3.out.at 1 _ rfl; have x2 := HX3.out.at 2 _ rfl; have x3 := HX3.out.at 3 _ rfl; have x4 := HX3.out.at 4 _ rfl; have x5 := HX3.out.at 5 _ rfl; have x6 := HX3.out.at 6 _ rfl; have x7 := HX3.out.at 7 _ rfl; have x8 := HX3.out.at 8 _ rfl; have t0 := HH3.out.at 0 _ rfl; have t1 := HH3.out.at 1 _ rfl; have t2 := HH3.out.at 2 _ rfl; have o2 := HO3.out.at 2 _ rfl; have o3 := HO3.out.at 3 _ rfl) | (go_at_call 46; refine (HC.out _ (fun k y => HM3.out.mine (.inl (HRB.out k y))) HQ3.out).mono ?_; rintro e w2 ⟨q2, rfl, hg, hb⟩; dsimp only [yV, xV]; have HG := Lib.hid hg; have HB2 := Lib.hid hb; have HZ4 := Lib.hid (HZ3.out.below hb); clear hg hb; have p0 := HZ4.out.at 0 _ rfl; have p1 := HZ4.out.at 1 _ rfl; have p2 := HZ4.out.at 2 _ rfl; have p3 := HZ4.out.at 3 _ rfl; have p4 := HZ4.out.at 4 _ rfl; have p5 := HZ4.out.at 5 _ rfl; have p6 := HZ4.out.at 6 _ rfl; have p7 := HZ4.out.at 7 _ rfl; have p8 := HZ4.out.at 8 _ rfl; have fp := HZ4.out.2.1; have zp := HZ4.out.2.2))
 refine bodyPost_ret (v := .tuple #[yV y2 q2, .bool true]) (by simp [results, Tryz.results14, go_sem, zp, p0, p1, p2, p3, p4, p5, p6, p7, p8, yV, xV]) rfl ?_
 rw [set9_eq]
 have hk : Kp (fun k => k = w.heap.size + 1 + 1) w2 (w2.setCells (w.heap.size + 1 + 1) 0 (xC y2.sz y2.most y2.root y2.asid y2.on (.slice q2.A1 y2.ws.length q2.c1) (.slice q2.A2 y2.es.length q2.c2) (.slice q2.A3 y2.ks.length q2.c3) (.slice q2.A4 y2.ps.length q2.c4))) := (Kp.refl (fun k => k = w.heap.size + 1 + 1) w2).setCells (.inl rfl) 0 _
 have hz1 : W.heap.size ≤ w1.heap.size := HK3.out.size
 have hk2 : Kp (KB B w0) w w1 := (Kp.ofBelow HB0.out).trans HK3.out (fun i y => .inl ⟨fun z => y.1 (.inl z), y.2⟩)
 exact ⟨q2, _, rfl, (HM3.out.adds HB2.out).own (hk.mono (fun k y => .inl (.inr (by omega)))), HG.out.fin hk (fun k e => by omega) HRB.out HBM.out (by omega), fun k y => .inl (.inl y), (hk2.below HB2.out).trans hk (fun i y => .inr (by omega))⟩
set_option maxHeartbeats 2000000 in
theorem stepq_flushall {x m pt pk : Nat} {pv : Value} {s : St} {B : Nat → Prop} {w0 w : World} (h : MB x m pt pk pv s B w0 w) (y y2 : Yr) (q : Sl) (sort n : Int) (va wd : Nat) (hva : va < 18446744073709551616) (f l k : Bool) {R : Nat → Prop} (hR : ∀ k, R k → B k) (hr : YAt R y q w)
  (hc : ∀ u, (∀ k, R k → k < u.heap.size) → YAt R y q u → Calls Tryz.prog 46 #[yV y q, .int .i64 (-1), .bool false, .int .u64 0] u (YP R y2 (fun v => v) u)) :
  Calls Tryz.prog 14 #[.pointer (some ⟨x, 0, none⟩), yV y q, .agg #[.int .i64 8, .int .i64 sort, .int .i64 n, .int .u64 va, .int .u64 wd, .bool f, .bool l, .bool k]] w (StepQ x m pt pk pv R B w0 (flushAllM s) y2 true w) := by
 have HC := Lib.hid hc
 clear hc
 unfold yV xV at HC
 have HQ := Lib.hid hr
 have HRB := Lib.hid hR
 have HM := Lib.hid h
 have HBM : Hid (∀ k, B k → k < w.heap.size) := fun k z => h.mine z
 clear h hr hR
 unfold yV xV
 go_enter Tryz.func14, Tryz.ntmps14
 go_upto_region 2 with fail
 generalize hW : World.alloc (World.alloc (World.alloc (World.alloc w _) _) _) _ = W
 have HX : Hid (Box W w.heap.size (xC y.sz y.most y.root y.asid y.on (.slice q.A1 y.ws.length q.c1) (.slice q.A2 y.es.length q.c2) (.slice q.A3 y.ks.length q.c3) (.slice q.A4 y.ps.length q.c4))) := by
  rw [← hW]
  exact (((Box.new w (xC y.sz y.most y.root y.asid y.on (.slice q.A1 y.ws.length q.c1) (.slice q.A2 y.es.length q.c2) (.slice q.A3 y.ks.length q.c3) (.slice q.A4 y.ps.length q.c4)) 36).below (below1 _ _)).below (below1 _ _)).below (below1 _ _)
 have HO : Hid (Box W (w.heap.size + 1) (oC 8 sort n va wd f l k)) := by
  rw [← hW]
  exact ((Box.new' (w.alloc (.cells (xC y.sz y.most y.root y.asid y.on (.slice q.A1 y.ws.length q.c1) (.slice q.A2 y.es.length q.c2) (.slice q.A3 y.ks.length q.c3) (.slice q.A4 y.ps.length q.c4)).toArray 36)) _ (by simp) (oC 8 sort n va wd f l k) 55).below (below1 _ _)).below (below1 _ _)
 have HZ : Hid (Box W (w.heap.size + 2) (xC 0 0 0 0 false (.slice none 0 0) (.slice none 0 0) (.slice none 0 0) (.slice none 0 0))) := by
  rw [← hW]
  exact (Box.new' ((w.alloc (.cells (xC y.sz y.most y.root y.asid y.on (.slice q.A1 y.ws.length q.c1) (.slice q.A2 y.es.length q.c2) (.slice q.A3 y.ks.length q.c3) (.slice q.A4 y.ps.length q.c4)).toArray 36)).alloc (.cells (oC 8 sort n va wd f l k).toArray 55)) _ (by simp) (xC 0 0 0 0 false (.slice none 0 0) (.slice none 0 0) (.slice none 0 0) (.slice none 0 0)) 36).below (below1 _ _)
 have HB0 : Hid (Below w.heap.size w W) := by rw [← hW]; exact (((below1 w _).alloc (by simp) _).alloc (by simp; omega) _).alloc (by simp; omega) _
 have HH : Hid (Box W (w.heap.size + 3) [.bool f, .bool l, .bool k]) := by
  rw [← hW]
  exact Box.new' (((w.alloc (.cells (xC y.sz y.most y.root y.asid y.on (.slice q.A1 y.ws.length q.c1) (.slice q.A2 y.es.length q.c2) (.slice q.A3 y.ks.length q.c3) (.slice q.A4 y.ps.length q.c4)).toArray 36)).alloc (.cells (oC 8 sort n va wd f l k).toArray 55)).alloc (.cells (xC 0 0 0 0 false (.slice none 0 0) (.slice none 0 0) (.slice none 0 0) (.slice none 0 0)).toArray 36)) _ (by simp) [.bool f, .bool l, .bool k] 41
 clear hW
 have hz9 : w.heap.size + 3 < W.heap.size := HH.out.2.2
 have HM2 := Lib.hid (HM.out.adds HB0.out)
 have HQW := Lib.hid (HQ.out.below HB0.out)
 clear HQ
 have o0 := HO.out.at 0 _ rfl
 have o2 := HO.out.at 2 _ rfl
 have o3 := HO.out.at 3 _ rfl
 have o5 := HO.out.at 5 _ rfl
 have o6 := HO.out.at 6 _ rfl
 have o7 := HO.out.at 7 _ rfl
 have C1 := Lib.hid (HM2.out.flushAll)
 generalize hS2 : (flushAllM s) = S2 at *
 clear hS2
 go_wp2_with (first | (go_at_call 15; refine C1.out.mono ?_; rintro e w1 ⟨rfl, hm, hk⟩; have HM3 := Lib.hid hm; have HK3 := Lib.hid hk; have HX3 := Lib.hid (HX.out.mb hk (.inr (by omega))); have HZ3 := Lib.hid (HZ.out.mb hk (.inr (by omega))); have HO3 := Lib.hid (HO.out.mb hk (.inr (by omega))); have HH3 := Lib.hid (HH.out.mb hk (.inr (by omega))); have HQ3 := Lib.hid (HQW.out.kept hk (fun k y z => z.1 (.inl (HRB.out k y)))); clear hm hk o0; have x0 := HX3.out.at 0 _ rfl; have x1 := HX3.out.at 1 _ rfl; have x2 := HX3.out.at 2 _ rfl; have x3 := HX3.out.at 3 _ rfl; have x4 := HX3.out.at 4 _ rfl; have x5 := HX3.out.at 5 _ rfl; have x6 := HX3.out.at 6 _ rfl; have x7 := HX3.out.at 7 _ rfl; have x8 := HX3.out.at 8 _ rfl; have t0 := HH3.out.at 0 _ rfl; have t1 := HH3.out.at 1 _ rfl; have t2 := HH3.out.at 2 _ rfl; have o2 := HO3.out.at 2 _ rfl; have o3 := HO3.out.at 3 _ rfl) | (go_at_call 46; refine (HC.out _ (fun k y => HM3.out.mine (.inl (HRB.out k y))) HQ3.out).mono ?_; rintro e w2 ⟨q2, rfl, hg, hb⟩; dsimp only [yV, xV]; have HG := Lib.hid hg; have HB2 := Lib.hid hb; have HZ4 := Lib.hid (HZ3.out.below hb); clear hg hb; have p0 := HZ4.out.at 0 _ rfl; have p1 := HZ4.out.at 1 _ rfl; have p2 := HZ4.out.at 2 _ rfl; have p3 := HZ4.out.at 3 _ rfl; have p4 := HZ4.out.at 4 _ rfl; have p5 := HZ4.out.at 5 _ rfl; have p6 := HZ4.out.at 6 _ rfl; have p7 := HZ4.out.at 7 _ rfl; have p8 := HZ4.out.at 8 _ rfl; have fp := HZ4.out.2.1; have zp := HZ4.out.2.2))
 refine bodyPost_ret (v := .tuple #[yV y2 q2, .bool true]) (by simp [results, Tryz.results14, go_sem, zp, p0, p1, p2, p3, p4, p5, p6, p7, p8, yV, xV]) rfl ?_
 rw [set9_eq]
 have hk : Kp (fun k => k = w.heap.size + 1 + 1) w2 (w2.setCells (w.heap.size + 1 + 1) 0 (xC y2.sz y2.most y2.root y2.asid y2.on (.slice q2.A1 y2.ws.length q2.c1) (.slice q2.A2 y2.es.length q2.c2) (.slice q2.A3 y2.ks.length q2.c3) (.slice q2.A4 y2.ps.length q2.c4))) := (Kp.refl (fun k => k = w.heap.size + 1 + 1) w2).setCells (.inl rfl) 0 _
 have hz1 : W.heap.size ≤ w1.heap.size := HK3.out.size
 have hk2 : Kp (KB B w0) w w1 := (Kp.ofBelow HB0.out).trans HK3.out (fun i y => .inl ⟨fun z => y.1 (.inl z), y.2⟩)
 exact ⟨q2, _, rfl, (HM3.out.adds HB2.out).own (hk.mono (fun k y => .inl (.inr (by omega)))), HG.out.fin hk (fun k e => by omega) HRB.out HBM.out (by omega), fun k y => .inl (.inl y), (hk2.below HB2.out).trans hk (fun i y => .inr (by omega))⟩
set_option maxHeartbeats 2000000 in
theorem stepq_flushas {x m pt pk : Nat} {pv : Value} {s : St} {B : Nat → Prop} {w0 w : World} (h : MB x m pt pk pv s B w0 w) (y y2 : Yr) (q : Sl) (sort n : Int) (va wd : Nat) (hva : va < 18446744073709551616) (f l k : Bool)(hd : decide (n < 0) = false) {R : Nat → Prop} (hR : ∀ k, R k → B k) (hr : YAt R y q w)
  (hc : ∀ u, (∀ k, R k → k < u.heap.size) → YAt R y q u → Calls Tryz.prog 46 #[yV y q, .int .i64 n, .bool false, .int .u64 0] u (YP R y2 (fun v => v) u)) :
  Calls Tryz.prog 14 #[.pointer (some ⟨x, 0, none⟩), yV y q, .agg #[.int .i64 7, .int .i64 sort, .int .i64 n, .int .u64 va, .int .u64 wd, .bool f, .bool l, .bool k]] w (StepQ x m pt pk pv R B w0 (flushAsM s n) y2 true w) := by
 have HC := Lib.hid hc
 clear hc
 unfold yV xV at HC
 have HQ := Lib.hid hr
 have HRB := Lib.hid hR
 have HM := Lib.hid h
 have HBM : Hid (∀ k, B k → k < w.heap.size) := fun k z => h.mine z
 clear h hr hR
 unfold yV xV
 go_enter Tryz.func14, Tryz.ntmps14
 go_upto_region 2 with fail
 generalize hW : World.alloc (World.alloc (World.alloc (World.alloc w _) _) _) _ = W
 have HX : Hid (Box W w.heap.size (xC y.sz y.most y.root y.asid y.on (.slice q.A1 y.ws.length q.c1) (.slice q.A2 y.es.length q.c2) (.slice q.A3 y.ks.length q.c3) (.slice q.A4 y.ps.length q.c4))) := by
  rw [← hW]
  exact (((Box.new w (xC y.sz y.most y.root y.asid y.on (.slice q.A1 y.ws.length q.c1) (.slice q.A2 y.es.length q.c2) (.slice q.A3 y.ks.length q.c3) (.slice q.A4 y.ps.length q.c4)) 36).below (below1 _ _)).below (below1 _ _)).below (below1 _ _)
 have HO : Hid (Box W (w.heap.size + 1) (oC 7 sort n va wd f l k)) := by
  rw [← hW]
  exact ((Box.new' (w.alloc (.cells (xC y.sz y.most y.root y.asid y.on (.slice q.A1 y.ws.length q.c1) (.slice q.A2 y.es.length q.c2) (.slice q.A3 y.ks.length q.c3) (.slice q.A4 y.ps.length q.c4)).toArray 36)) _ (by simp) (oC 7 sort n va wd f l k) 55).below (below1 _ _)).below (below1 _ _)
 have HZ : Hid (Box W (w.heap.size + 2) (xC 0 0 0 0 false (.slice none 0 0) (.slice none 0 0) (.slice none 0 0) (.slice none 0 0))) := by
  rw [← hW]
  exact (Box.new' ((w.alloc (.cells (xC y.sz y.most y.root y.asid y.on (.slice q.A1 y.ws.length q.c1) (.slice q.A2 y.es.length q.c2) (.slice q.A3 y.ks.length q.c3) (.slice q.A4 y.ps.length q.c4)).toArray 36)).alloc (.cells (oC 7 sort n va wd f l k).toArray 55)) _ (by simp) (xC 0 0 0 0 false (.slice none 0 0) (.slice none 0 0) (.slice none 0 0) (.slice none 0 0)) 36).below (below1 _ _)
 have HB0 : Hid (Below w.heap.size w W) := by rw [← hW]; exact (((below1 w _).alloc (by simp) _).alloc (by simp; omega) _).alloc (by simp; omega) _
 have HH : Hid (Box W (w.heap.size + 3) [.bool f, .bool l, .bool k]) := by
  rw [← hW]
  exact Box.new' (((w.alloc (.cells (xC y.sz y.most y.root y.asid y.on (.slice q.A1 y.ws.length q.c1) (.slice q.A2 y.es.length q.c2) (.slice q.A3 y.ks.length q.c3) (.slice q.A4 y.ps.length q.c4)).toArray 36)).alloc (.cells (oC 7 sort n va wd f l k).toArray 55)).alloc (.cells (xC 0 0 0 0 false (.slice none 0 0) (.slice none 0 0) (.slice none 0 0) (.slice none 0 0)).toArray 36)) _ (by simp) [.bool f, .bool l, .bool k] 41
 clear hW
 have hz9 : w.heap.size + 3 < W.heap.size := HH.out.2.2
 have HM2 := Lib.hid (HM.out.adds HB0.out)
 have HQW := Lib.hid (HQ.out.below HB0.out)
 clear HQ
 have o0 := HO.out.at 0 _ rfl
 have o2 := HO.out.at 2 _ rfl
 have o3 := HO.out.at 3 _ rfl
 have o5 := HO.out.at 5 _ rfl
 have o6 := HO.out.at 6 _ rfl
 have o7 := HO.out.at 7 _ rfl
 have C1 := Lib.hid (HM2.out.flushAs n)
 generalize hS2 : (flushAsM s n) = S2 at *
 clear hS2
 go_wp2_with (first | (go_at_call 16; refine C1.out.mono ?_; rintro e w1 ⟨rfl, hm, hk⟩; have HM3 := Lib.hid hm; have HK3 := Lib.hid hk; have HX3 := Lib.hid (HX.out.mb hk (.inr (by omega))); have HZ3 := Lib.hid (HZ.out.mb hk (.inr (by omega))); have HO3 := Lib.hid (HO.out.mb hk (.inr (by omega))); have HH3 := Lib.hid (HH.out.mb hk (.inr (by omega))); have HQ3 := Lib.hid (HQW.out.kept hk (fun k y z => z.1 (.inl (HRB.out k y)))); clear hm hk o0; have x0 := HX3.out.at 0 _ rfl; have x1 := HX3.out.at 1 _ rfl; have x2 := HX3.out.at 2 _ rfl; have x3 := HX3.out.at 3 _ rfl; have x4 := HX3.out.at 4 _ rfl; have x5 := HX3.out.at 5 _ rfl; have x6 := HX3.out.at 6 _ rfl; have x7 := HX3.out.at 7 _ rfl; have x8 := HX3.out.at 8 _ rfl; have t0 := HH3.out.at 0 _ rfl; have t1 := HH3.out.at 1 _ rfl; have t2 := HH3.out.at 2 _ rfl; have o2 := HO3.out.at 2 _ rfl; have o3 := HO3.out.at 3 _ rfl) | (go_at_call 46; refine (HC.out _ (fun k y => HM3.out.mine (.inl (HRB.out k y))) HQ3.out).mono ?_; rintro e w2 ⟨q2, rfl, hg, hb⟩; dsimp only [yV, xV]; have HG := Lib.hid hg; have HB2 := Lib.hid hb; have HZ4 := Lib.hid (HZ3.out.below hb); clear hg hb; have p0 := HZ4.out.at 0 _ rfl; have p1 := HZ4.out.at 1 _ rfl; have p2 := HZ4.out.at 2 _ rfl; have p3 := HZ4.out.at 3 _ rfl; have p4 := HZ4.out.at 4 _ rfl; have p5 := HZ4.out.at 5 _ rfl; have p6 := HZ4.out.at 6 _ rfl; have p7 := HZ4.out.at 7 _ rfl; have p8 := HZ4.out.at 8 _ rfl; have fp := HZ4.out.2.1; have zp := HZ4.out.2.2))
 refine bodyPost_ret (v := .tuple #[yV y2 q2, .bool true]) (by simp [results, Tryz.results14, go_sem, zp, p0, p1, p2, p3, p4, p5, p6, p7, p8, yV, xV]) rfl ?_
 rw [set9_eq]
 have hk : Kp (fun k => k = w.heap.size + 1 + 1) w2 (w2.setCells (w.heap.size + 1 + 1) 0 (xC y2.sz y2.most y2.root y2.asid y2.on (.slice q2.A1 y2.ws.length q2.c1) (.slice q2.A2 y2.es.length q2.c2) (.slice q2.A3 y2.ks.length q2.c3) (.slice q2.A4 y2.ps.length q2.c4))) := (Kp.refl (fun k => k = w.heap.size + 1 + 1) w2).setCells (.inl rfl) 0 _
 have hz1 : W.heap.size ≤ w1.heap.size := HK3.out.size
 have hk2 : Kp (KB B w0) w w1 := (Kp.ofBelow HB0.out).trans HK3.out (fun i y => .inl ⟨fun z => y.1 (.inl z), y.2⟩)
 exact ⟨q2, _, rfl, (HM3.out.adds HB2.out).own (hk.mono (fun k y => .inl (.inr (by omega)))), HG.out.fin hk (fun k e => by omega) HRB.out HBM.out (by omega), fun k y => .inl (.inl y), (hk2.below HB2.out).trans hk (fun i y => .inr (by omega))⟩
end Go.Proofs.YtbapgngngaaojaaGreat
