/- The walk of the seventh reference's Fill. The walk of trail.Add. The walk of reference 07's Matches. The walk of reference 08, Leads. The walks of the eighth reference's Right, where it is true, and Add. -/
import Derived.Test.YtbapgngngaaojaaGreatG10
import Derived.Test.YtbapgngngaaojaaGreatG08
import Derived.Test.YtbapgngngaaojaaGreatG04
import Derived.Deep.RegionHeld3
set_option linter.unusedSimpArgs false
set_option linter.unusedVariables false
namespace Go.Proofs.YtbapgngngaaojaaGreat
open Go.RowKit Go.Lib
set_option maxRecDepth 100000
def addL {α : Type} [DecidableEq α] (most : Nat) (l : List α) (x : α) : List α := if x ∈ l then l else if most < l.length + 1 then (l ++ [x]).drop 1 else l ++ [x]
theorem fillP_addL (most : Nat) (l : List Ent) (x : Ent) : fillP most l x = addL most l x := by
 unfold fillP addL
 split
 ·rfl
 ·split
  ·rw [List.eraseIdx_zero, List.drop_one]
  ·rfl
theorem RowAt.zero {w : World} {ok : Nat → Prop} {sz g o n cap : Nat} {cs : List Value} (h : RowAt w ok sz (.slice (some ⟨g, o, none⟩) n cap) n cs) : RowAt w ok sz (.slice (some ⟨g, o, none⟩) 0 0) 0 [] := by
 rcases h.2 with ⟨e, _⟩ | ⟨g', o', cap', e, h1, h2, _⟩
 ·cases e
 ·injection e with e1 e2 e3
  injection e1 with e1
  injection e1 with e4 e5
  subst e4 e5
  exact ⟨by simp, .inr ⟨g, o, 0, rfl, h1, h2, Nat.le_refl _, by unfold maxLen; omega, fun j v hj => by simp at hj, fun j hj => by omega⟩⟩
def RListPost {α : Type} (f : α → List Value) (sz : Nat) (ok : Nat → Prop) (R : List α) (w : World) (e : Ending) (w' : World) : Prop :=
 ∃ A c, e = .returned (.slice A R.length c) ∧ RowAt w' (fun k => ok k ∨ w.heap.size ≤ k) sz (.slice A R.length c) R.length (rowL f R) ∧ Below w.heap.size w w'
theorem rinfoE : (Tryz.prog.info? 101).map (fun i => (i.zero, i.size, i.bytes)) = some (some (.agg #[.int .i64 0, .int .u64 0, .int .i64 0, .int .i64 0, .int .u64 0, .bool false, .bool false, .bool false, .bool false, .int .i64 0]), 10, 56) := by kernel_rfl
attribute [local go_sem high] eqA_RE
set_option maxHeartbeats 2000000 in
theorem rfill_nat {ok : Nat → Prop} (most : Nat) (l : List Ent) (x : Ent) (A0 : Option Addr) (c0 : Nat) (w : World) (hn : l.length ≤ 1000) (h : RowAt w ok 10 (.slice A0 l.length c0) l.length (rowL eL l)) :
  Calls Tryz.prog 85 #[.slice A0 l.length c0, .int .i64 most, eV x] w (RListPost eL 10 ok (fillP most l x) w) := by
 rw [fillP_addL]
 obtain ⟨R, hR⟩ : ∃ R, addL most l x = R := ⟨_, rfl⟩
 rw [hR]
 obtain ⟨i0, hi0, hz0, hz1, hz2⟩ := info_parts rinfoE
 have I0 := Lib.hid hi0
 have I1 := Lib.hid hz0
 have I2 := Lib.hid hz1
 have I3 := Lib.hid hz2
 have H := Lib.hid h
 have HN := Lib.hid hn
 have HR := Lib.hid hR
 clear h hn hR hi0 hz0 hz1 hz2
 obtain ⟨xa, xv, xl, ⟨xk, xo, x1, x2, x3, x4, xt⟩⟩ := x
 dsimp only [eV]
 go_enter Tryz.func85, Tryz.ntmps85
 go_wp2
 generalize hW : World.alloc _ _ = W0
 have HX : Hid (Box W0 w.heap.size (eL ⟨xa, xv, xl, ⟨xk, xo, x1, x2, x3, x4, xt⟩⟩)) := by rw [← hW]; exact Box.new w (eL ⟨xa, xv, xl, ⟨xk, xo, x1, x2, x3, x4, xt⟩⟩) 101
 have HB0 : Hid (Below w.heap.size w W0) := by rw [← hW]; exact below1 w _
 clear hW
 obtain ⟨B, hB⟩ : ∃ B, W0.heap.size = B := ⟨_, rfl⟩
 have HBB : Hid (W0.heap.size = B ∧ w.heap.size < B) := ⟨hB, hB ▸ HX.out.2.2⟩
 clear hB
 have HRW0 : Hid (RowAt W0 (fun k => B ≤ k) 10 (.slice none 0 0) 0 (rowL eL (l.take 0))) := RowAt.nil _ _ _
 go_loopw [7, 8] (fun s7 iv wr => ∃ (i : Nat) (A2 : Option Addr) (c2 : Nat), iv = .int .i64 i ∧ s7 = .slice A2 i c2 ∧ i ≤ l.length ∧ Hid (∀ j (hj : j < l.length), j < i → l[j] ≠ ⟨xa, xv, xl, ⟨xk, xo, x1, x2, x3, x4, xt⟩⟩) ∧ Hid (RowAt wr (fun k => B ≤ k) 10 (.slice A2 i c2) i (rowL eL (l.take i))) ∧ Hid (Kp (fun k => B ≤ k) W0 wr)) (fun _ iv _ => l.length - (RowKit.intOf iv).toNat)
 case atStart => exact ⟨0, none, 0, rfl, rfl, by omega, fun j hj h => by omega, HRW0, Kp.refl _ _⟩
 case round =>
  obtain ⟨i, A2, c2, rfl, rfl, hi, HJ, HROW, HK⟩ := hrel
  have hn2 : l.length ≤ 1000 := HN.out
  have HBS : Hid (B ≤ wr.heap.size) := by have := HK.out.size; have := HBB.out.1; rw [Hid]; omega
  have HBW : Hid (Below w.heap.size w wr) := HK.out.toBelow HB0.out HB0.out.size (fun k hk => by have := HBB.out.2; omega)
  have BX := HX.out.kept HK.out (fun h => by have := HBB.out.2; omega)
  by_cases hlt : i < l.length
  ·obtain ⟨g, o, rfl, hr⟩ := H.out.rd.get (by omega)
   have hrng : wr.rangeAt g o (rowL eL l) := fun j v hj => keep_cell HBW.out (hr j v hj)
   have r0 := BX.at 0 _ rfl
   have r1 := BX.at 1 _ rfl
   have r2 := BX.at 2 _ rfl
   have r3 := BX.at 3 _ rfl
   have r4 := BX.at 4 _ rfl
   have r5 := BX.at 5 _ rfl
   have r6 := BX.at 6 _ rfl
   have r7 := BX.at 7 _ rfl
   have r8 := BX.at 8 _ rfl
   have r9 := BX.at 9 _ rfl
   have zr := BX.2.2
   clear BX
   have k0 := row_at0 eL_len hrng i hlt _ rfl
   have k1 := row_at eL_len hrng i hlt 1 _ rfl
   have k2 := row_at eL_len hrng i hlt 2 _ rfl
   have k3 := row_at eL_len hrng i hlt 3 _ rfl
   have k4 := row_at eL_len hrng i hlt 4 _ rfl
   have k5 := row_at eL_len hrng i hlt 5 _ rfl
   have k6 := row_at eL_len hrng i hlt 6 _ rfl
   have k7 := row_at eL_len hrng i hlt 7 _ rfl
   have k8 := row_at eL_len hrng i hlt 8 _ rfl
   have k9 := row_at eL_len hrng i hlt 9 _ rfl
   have HMEM : Hid (l[i] ∈ l) := List.getElem_mem hlt
   have HT : Hid (l.take (i + 1) = l.take i ++ [l[i]]) := take_snoc' l i hlt
   have HSTEP : Hid (∀ j (hj : j < l.length), j < i + 1 → j = i ∨ l[j] ≠ ⟨xa, xv, xl, ⟨xk, xo, x1, x2, x3, x4, xt⟩⟩) := fun j hj h => by
    by_cases e : j = i
    ·exact .inl e
    ·exact .inr (HJ.out j hj (by omega))
   clear hrng hr
   generalize hx : l[i] = y at *
   obtain ⟨ya, yv, yl, ⟨yk, yo, y1, y2, y3, y4, yt⟩⟩ := y
   dsimp only at k0 k1 k2 k3 k4 k5 k6 k7 k8 k9
   have hB := ent_eq ya yv yl yk yo yt xa xv xl xk xo xt y1 y2 y3 y4 x1 x2 x3 x4
   by_cases hxy : (⟨ya, yv, yl, ⟨yk, yo, y1, y2, y3, y4, yt⟩⟩ : Ent) = ⟨xa, xv, xl, ⟨xk, xo, x1, x2, x3, x4, xt⟩⟩
   ·rw [decide_eq_true hxy] at hB
    have hq : l = R := by rw [← HR.out]; unfold addL; rw [if_pos (hxy ▸ HMEM.out)]
    have HQ := Lib.hid hq
    clear hxy hx hq
    go_wp2
    go_quiet (fail)
    go_wp2
    go_ret
    rw [← HQ.out]
    exact ⟨_, _, rfl, ((H.out.below HBW.out).below (below_drewN (Below.refl _ _) _)).mono (fun k _ h => .inl h), below_drewN HBW.out _⟩
   ·rw [decide_eq_false hxy] at hB
    have HXY := Lib.hid hxy
    have HX2 := Lib.hid hx
    clear hxy hx
    go_wp2
    go_quiet (fail)
    have hdr : Below wr.heap.size wr (wr.drewN nq) := below_drewN (Below.refl _ _) _
    replace HROW := Lib.hid (HROW.out.below hdr)
    replace HK := Lib.hid (HK.out.below hdr)
    replace HBS : Hid (B ≤ (wr.drewN nq).heap.size) := Nat.le_trans HBS.out hdr.size
    replace k0 := keep_cell hdr k0
    replace k1 := keep_cell hdr k1
    replace k2 := keep_cell hdr k2
    replace k3 := keep_cell hdr k3
    replace k4 := keep_cell hdr k4
    replace k5 := keep_cell hdr k5
    replace k6 := keep_cell hdr k6
    replace k7 := keep_cell hdr k7
    replace k8 := keep_cell hdr k8
    replace k9 := keep_cell hdr k9
    clear hdr r0 r1 r2 r3 r4 r5 r6 r7 r8 r9 zr HBW
    generalize wr.drewN nq = wd at *
    go_wp2_with (at_builtin; refine wpList_append_row (by rfl) _ _ 32 (by rfl) 101 i0 (.agg #[.int .i64 0, .int .u64 0, .int .i64 0, .int .i64 0, .int .u64 0, .bool false, .bool false, .bool false, .bool false, .int .i64 0]) 10 56 Tryz.underlying32 I0.out I1.out I2.out I3.out rfl (by omega) (fun k => B ≤ k) (.slice A2 i c2) i (rowL eL (l.take i)) (by rfl) (HROW.out.below (below1 _ _)) ⟨(wd).heap.size, 0, none⟩ 1 1 [.int .i64 ya, .int .u64 yv, .int .i64 yl, .int .i64 yk, .int .u64 yo, .bool y1, .bool y2, .bool y3, .bool y4, .int .i64 yt] (by rfl) (by omega) rfl (by intro j u hu; rw [Addr.add_mid]; exact range_new wd #[.int .i64 ya, .int .u64 yv, .int .i64 yl, .int .i64 yk, .int .u64 yo, .bool y1, .bool y2, .bool y3, .bool y4, .int .i64 yt] 101 j u hu) (by intro u hu; simp at hu; rcases hu with rfl | rfl | rfl | rfl | rfl | rfl | rfl | rfl | rfl | rfl <;> rfl) (by have := HN.out; unfold maxLen; omega) (by have := HN.out; omega) ?_; intro A3 c3 W hrow1 hkp1; have HKP : Hid (Kp (fun k => B ≤ k) wd W) := ((Kp.refl _ _).alloc _).trans hkp1 (fun i h => .inl h); have HRW : Hid (RowAt W (fun k => B ≤ k) 10 (.slice A3 (i + 1) c3) (i + 1) (rowL eL (l.take i) ++ [.int .i64 ya, .int .u64 yv, .int .i64 yl, .int .i64 yk, .int .u64 yo, .bool y1, .bool y2, .bool y3, .bool y4, .int .i64 yt])) := hrow1.mono (fun k _ h => h.elim id (fun h => by have := HBS.out; simp only [World.size_alloc] at h; omega)); clear hrow1 hkp1)
    go_wp2
    go_roundw
    case rel => exact ⟨i + 1, A3, c3, by first | rfl | go_num, rfl, by omega, fun j hj h => by
     rcases HSTEP.out j hj h with e | e
     ·subst e; rw [HX2.out]; exact HXY.out
     ·exact e, by rw [Hid, HT.out, rowL_append, rowL_one]; exact HRW.out, HK.out.trans HKP.out (fun i h => .inl h)⟩
    case measure => simp [RowKit.intOf]; omega
  ·obtain rfl : i = l.length := by omega
   have hnm : (⟨xa, xv, xl, ⟨xk, xo, x1, x2, x3, x4, xt⟩⟩ : Ent) ∉ l := fun hm => by
    obtain ⟨j, hj, e⟩ := List.getElem_of_mem hm
    exact HJ.out j hj (by omega) e
   have hr := HR.out
   unfold addL at hr
   rw [if_neg hnm] at hr
   have r0 := BX.at 0 _ rfl
   have r1 := BX.at 1 _ rfl
   have r2 := BX.at 2 _ rfl
   have r3 := BX.at 3 _ rfl
   have r4 := BX.at 4 _ rfl
   have r5 := BX.at 5 _ rfl
   have r6 := BX.at 6 _ rfl
   have r7 := BX.at 7 _ rfl
   have r8 := BX.at 8 _ rfl
   have r9 := BX.at 9 _ rfl
   have zr := BX.2.2
   clear BX hnm
   have HTL : Hid (l.take l.length = l) := List.take_length
   have HK9 := HK
   by_cases hm : most < l.length + 1
   ·rw [if_pos hm] at hr
    have HQ := Lib.hid hr
    have m1 : decide ((most : Int) < (l.length : Int) + 1) = true := by simp; omega
    have m2 : decide (most < l.length + 1) = true := by simp; omega
    have m3 : decide (most ≤ l.length) = true := by simp; omega
    have m4 : decide ((most : Int) ≤ (l.length : Int)) = true := by simp; omega
    clear hr hm
    go_wp2_with (at_builtin; refine wpList_append_row (by rfl) _ _ 32 (by rfl) 101 i0 (.agg #[.int .i64 0, .int .u64 0, .int .i64 0, .int .i64 0, .int .u64 0, .bool false, .bool false, .bool false, .bool false, .int .i64 0]) 10 56 Tryz.underlying32 I0.out I1.out I2.out I3.out rfl (by omega) (fun k => B ≤ k) (.slice A2 l.length c2) l.length (rowL eL (l.take l.length)) (by rfl) (HROW.out.below (below1 _ _)) ⟨(wr).heap.size, 0, none⟩ 1 1 [.int .i64 xa, .int .u64 xv, .int .i64 xl, .int .i64 xk, .int .u64 xo, .bool x1, .bool x2, .bool x3, .bool x4, .int .i64 xt] (by rfl) (by omega) rfl (by intro j u hu; rw [Addr.add_mid]; exact range_new wr #[.int .i64 xa, .int .u64 xv, .int .i64 xl, .int .i64 xk, .int .u64 xo, .bool x1, .bool x2, .bool x3, .bool x4, .int .i64 xt] 101 j u hu) (by intro u hu; simp at hu; rcases hu with rfl | rfl | rfl | rfl | rfl | rfl | rfl | rfl | rfl | rfl <;> rfl) (by have := HN.out; unfold maxLen; omega) (by have := HN.out; omega) ?_; intro A3 c3 W hrow1 hkp1; have HKP : Hid (Kp (fun k => B ≤ k) wr W) := ((Kp.refl _ _).alloc _).trans hkp1 (fun i h => .inl h); have HRW : Hid (RowAt W (fun k => B ≤ k) 10 (.slice A3 (l.length + 1) c3) (l.length + 1) (rowL eL (l.take l.length) ++ [.int .i64 xa, .int .u64 xv, .int .i64 xl, .int .i64 xk, .int .u64 xo, .bool x1, .bool x2, .bool x3, .bool x4, .int .i64 xt])) := hrow1.mono (fun k _ h => h.elim id (fun h => by have := HBS.out; simp only [World.size_alloc] at h; omega)); clear hrow1 hkp1; obtain ⟨g3, o3, rfl, hc3, hc4⟩ := row_some HRW.out (by omega))
    all_goals go_ret
    all_goals
     have hk9 := HK9.out.trans HKP.out (fun i h => .inl h)
     have hcut := HRW.out.cut (k := 1) (by omega)
     rw [HTL.out, show rowL eL l ++ [.int .i64 xa, .int .u64 xv, .int .i64 xl, .int .i64 xk, .int .u64 xo, .bool x1, .bool x2, .bool x3, .bool x4, .int .i64 xt] = rowL eL (l ++ [⟨xa, xv, xl, ⟨xk, xo, x1, x2, x3, x4, xt⟩⟩]) by rw [rowL_append, rowL_one]; rfl, rowL_drop eL 10 eL_len] at hcut
     have hbel := hk9.toBelow HB0.out HB0.out.size (fun k hk => by have := HBB.out.2; omega)
     have hmono : ∀ k, k < W.heap.size → B ≤ k → (fun k => ok k ∨ w.heap.size ≤ k) k := fun k _ h => .inr (by have := HBB.out.2; omega)
     have hlr : R.length = l.length := by rw [← HQ.out, List.length_drop, List.length_append]; rfl
     rw [HQ.out] at hcut
    all_goals first
     | (have hrz : R = [] := List.eq_nil_of_length_eq_zero (by rw [hlr]; simp [*]); rw [hrz]; exact ⟨_, _, rfl, HRW.out.zero.mono hmono, hbel⟩)
     | exact ⟨_, _, by rw [hlr]; rfl, by rw [hlr]; exact hcut.mono hmono, hbel⟩
     | (exfalso; subst h; have h2 : l.length + 1 ≤ 0 := ‹Nat.le (l.length + 1) 0›; omega)
   ·rw [if_neg hm] at hr
    have HQ := Lib.hid hr
    have m1 : decide ((most : Int) < (l.length : Int) + 1) = false := by simp; omega
    have m2 : decide (most < l.length + 1) = false := by simp; omega
    have m3 : decide (most ≤ l.length) = false := by simp; omega
    have m4 : decide ((most : Int) ≤ (l.length : Int)) = false := by simp; omega
    clear hr hm
    go_wp2_with (at_builtin; refine wpList_append_row (by rfl) _ _ 32 (by rfl) 101 i0 (.agg #[.int .i64 0, .int .u64 0, .int .i64 0, .int .i64 0, .int .u64 0, .bool false, .bool false, .bool false, .bool false, .int .i64 0]) 10 56 Tryz.underlying32 I0.out I1.out I2.out I3.out rfl (by omega) (fun k => B ≤ k) (.slice A2 l.length c2) l.length (rowL eL (l.take l.length)) (by rfl) (HROW.out.below (below1 _ _)) ⟨(wr).heap.size, 0, none⟩ 1 1 [.int .i64 xa, .int .u64 xv, .int .i64 xl, .int .i64 xk, .int .u64 xo, .bool x1, .bool x2, .bool x3, .bool x4, .int .i64 xt] (by rfl) (by omega) rfl (by intro j u hu; rw [Addr.add_mid]; exact range_new wr #[.int .i64 xa, .int .u64 xv, .int .i64 xl, .int .i64 xk, .int .u64 xo, .bool x1, .bool x2, .bool x3, .bool x4, .int .i64 xt] 101 j u hu) (by intro u hu; simp at hu; rcases hu with rfl | rfl | rfl | rfl | rfl | rfl | rfl | rfl | rfl | rfl <;> rfl) (by have := HN.out; unfold maxLen; omega) (by have := HN.out; omega) ?_; intro A3 c3 W hrow1 hkp1; have HKP : Hid (Kp (fun k => B ≤ k) wr W) := ((Kp.refl _ _).alloc _).trans hkp1 (fun i h => .inl h); have HRW : Hid (RowAt W (fun k => B ≤ k) 10 (.slice A3 (l.length + 1) c3) (l.length + 1) (rowL eL (l.take l.length) ++ [.int .i64 xa, .int .u64 xv, .int .i64 xl, .int .i64 xk, .int .u64 xo, .bool x1, .bool x2, .bool x3, .bool x4, .int .i64 xt])) := hrow1.mono (fun k _ h => h.elim id (fun h => by have := HBS.out; simp only [World.size_alloc] at h; omega)); clear hrow1 hkp1)
    go_ret
    have hk9 := HK9.out.trans HKP.out (fun i h => .inl h)
    rw [← HQ.out]
    refine ⟨A3, c3, by rw [List.length_append]; rfl, ?_, hk9.toBelow HB0.out HB0.out.size (fun k hk => by have := HBB.out.2; omega)⟩
    rw [List.length_append, rowL_append, rowL_one]
    have h9 := HRW.out
    rw [HTL.out] at h9
    exact h9.mono (fun k _ h => .inr (by have := HBB.out.2; omega))
end Go.Proofs.YtbapgngngaaojaaGreat
namespace Go.Proofs.YtbapgngngaaojaaGreat
open Go.RowKit Go.Lib
set_option maxRecDepth 100000
/-- A mark that may be. -/
def okM (k : Mk) : Prop := k.asid < 256 ∧ 1 ≤ k.level ∧ k.level ≤ 3 ∧ k.va < 281474976710656 ∧ baseP k.va (k.level - 1) = k.va ∧ k.table < 281474976710656 ∧ k.table % 4096 = 0
def addP (most : Nat) (l : List Mk) (k : Mk) : List Mk := if k ∈ l then l else (l ++ [k]).drop (l.length + 1 - most)
def AddPost (F : Nat → Prop) (p most : Nat) (l : List Mk) (w : World) (e : Ending) (w' : World) : Prop :=
 e = .returned (.int .i64 0) ∧ ListAt mL 4 (Gr F w w') p most l w' ∧ Kp (WkF F p) w w'
set_option maxHeartbeats 1000000 in
theorem add_has {F : Nat → Prop} {p most : Nat} {l : List Mk} {w : World} (h : ListAt mL 4 F p most l w) (hn : l.length ≤ 900) (x : Mk) (hx : okM x) (hm : decide (x ∈ l) = true) :
  Calls Tryz.prog 137 #[.pointer (some ⟨p, 0, none⟩), mV x] w (AddPost F p most l w) := by
 replace hn : l.length ≤ 1000 := by omega
 have HL := Lib.hid h
 have HN := Lib.hid hn
 obtain ⟨xa, xv, xl, xt⟩ := x
 obtain ⟨o1, o2, o3, o4, o5, o6, o7⟩ := hx
 dsimp only at o1 o2 o3 o4 o5 o6 o7
 have C1 := Lib.hid (fun w => mark_right xa xv xl xt w o1 o2 o3 o4 o5 o6 o7)
 obtain ⟨A0, c0', c0, f1, c1, hrow⟩ := h.open
 have C2 : Hid (∀ w', Below w.heap.size w w' → Calls Tryz.prog 153 #[.slice A0 l.length c0', mV ⟨xa, xv, xl, xt⟩] w' fun e w'' => e = .returned (.bool true) ∧ Below w'.heap.size w' w'') := fun w' hb => by
  have h2 := mcontains_nat l ⟨xa, xv, xl, xt⟩ w' hn (hrow.below hb)
  rw [hm] at h2
  exact h2
 dsimp only [mV] at C2 ⊢
 have HR := Lib.hid hrow
 have hplt := HL.out.lt
 clear hrow h hm o1 o2 o3 o4 o5 o6 o7 hn
 go_enter Tryz.func137, Tryz.ntmps137
 go_wp2_with fail
 generalize hW : World.alloc _ _ = W
 have m0 : W.cell? ⟨w.heap.size, 0, none⟩ = some (.int .i64 xa) := by rw [← hW]; simp
 have m1 : W.cell? ⟨w.heap.size, 1, none⟩ = some (.int .u64 xv) := by rw [← hW]; simp
 have m2 : W.cell? ⟨w.heap.size, 2, none⟩ = some (.int .i64 xl) := by rw [← hW]; simp
 have m3 : W.cell? ⟨w.heap.size, 3, none⟩ = some (.int .u64 xt) := by rw [← hW]; simp
 have HB0 : Hid (Below w.heap.size w W) := by rw [← hW]; exact below1 w _
 have hz0 : W.heap.size = w.heap.size + 1 := by rw [← hW]; simp
 have HZ0 := Lib.hid hz0
 clear hz0 hW
 refine (C1.out _).mono ?_
 rintro e w1 ⟨rfl, hb1⟩
 replace m0 := keep_cell hb1 m0
 replace m1 := keep_cell hb1 m1
 replace m2 := keep_cell hb1 m2
 replace m3 := keep_cell hb1 m3
 have HB1 : Hid (Below w.heap.size w w1) := HB0.out.trans (hb1.mono HB0.out.size)
 have HZ1 : Hid (w.heap.size + 1 ≤ w1.heap.size) := by have := hb1.size; have := HZ0.out; show w.heap.size + 1 ≤ w1.heap.size; omega
 clear hb1 C1
 go_wp2
 have p1 := keep_cell HB1.out c1
 have hC : CtxB w1 w1 := Below.refl _ _
 go_region_held3 (fun u => u.cell? ⟨p, 1, none⟩ = some (.slice A0 l.length c0') ∧ u.cell? ⟨w.heap.size, 0, none⟩ = some (.int .i64 xa) ∧ u.cell? ⟨w.heap.size, 1, none⟩ = some (.int .u64 xv) ∧ u.cell? ⟨w.heap.size, 2, none⟩ = some (.int .i64 xl) ∧ u.cell? ⟨w.heap.size, 3, none⟩ = some (.int .u64 xt) ∧ CtxB w1 u)
  (first | assumption | exact ⟨drew_cell p1, drew_cell m0, drew_cell m1, drew_cell m2, drew_cell m3, hC.drew⟩ | (go_split_ands; exact ⟨keep_cell hb5 (by assumption), keep_cell hb5 (by assumption), keep_cell hb5 (by assumption), keep_cell hb5 (by assumption), keep_cell hb5 (by assumption), CtxB.next (by assumption) hb5⟩))
  (first | (go_at_call 153; refine (C2.out _ (by go_split_ands; exact HB1.out.trans ((CtxB.out (by assumption)).mono HB1.out.size))).mono ?_; rintro e w5 ⟨rfl, hb5⟩))
 go_split_ands
 have HBX : Hid (Below w1.heap.size w1 w5) := CtxB.out (by assumption)
 have HB5 : Hid (Below w.heap.size w w5) := HB1.out.trans (HBX.out.mono HB1.out.size)
 go_wp2
 go_ret
 have hb := HB5.out
 exact ⟨rfl, (HL.out.below hb).mono (fun k _ h => .inl h) (Gr.not HL.out.1 hplt) (Gr.lt HL.out.2.1 hb.size), .ofBelow hb⟩
set_option maxHeartbeats 1000000 in
theorem add_room {F : Nat → Prop} {p most : Nat} {l : List Mk} {w : World} (h : ListAt mL 4 F p most l w) (hn : l.length ≤ 900) (x : Mk) (hx : okM x) (hm : decide (x ∈ l) = false) (hc : l.length + 1 ≤ most) (hm1 : 1 ≤ most) (hlm : l.length ≤ most) (hmx : most ≤ 64) :
  Calls Tryz.prog 137 #[.pointer (some ⟨p, 0, none⟩), mV x] w (AddPost F p most (l ++ [x]) w) := by
 replace hn : l.length ≤ 1000 := by omega
 have HKb : Hid (((l.length : Int) + 1 - (most : Int)).toNat = l.length + 1 - most) := by
  show ((l.length : Int) + 1 - (most : Int)).toNat = l.length + 1 - most
  omega
 have HK : Hid ((if (l.length : Int) + 1 - (most : Int) < 0 then (0 : Int) else (l.length : Int) + 1 - (most : Int)).toNat = l.length + 1 - most) := by
  show (if (l.length : Int) + 1 - (most : Int) < 0 then (0 : Int) else (l.length : Int) + 1 - (most : Int)).toNat = l.length + 1 - most
  split <;> omega
 have HL := Lib.hid h
 have HN := Lib.hid hn
 obtain ⟨xa, xv, xl, xt⟩ := x
 obtain ⟨o1, o2, o3, o4, o5, o6, o7⟩ := hx
 dsimp only at o1 o2 o3 o4 o5 o6 o7
 have C1 := Lib.hid (fun w => mark_right xa xv xl xt w o1 o2 o3 o4 o5 o6 o7)
 obtain ⟨A0, c0', c0, f1, c1, hrow⟩ := h.open
 have C2 : Hid (∀ w', Below w.heap.size w w' → Calls Tryz.prog 153 #[.slice A0 l.length c0', mV ⟨xa, xv, xl, xt⟩] w' fun e w'' => e = .returned (.bool false) ∧ Below w'.heap.size w' w'') := fun w' hb => by
  have h2 := mcontains_nat l ⟨xa, xv, xl, xt⟩ w' hn (hrow.below hb)
  rw [hm] at h2
  exact h2
 dsimp only [mV] at C2 ⊢
 have HR := Lib.hid hrow
 have hplt := HL.out.lt
 clear hrow h hm o1 o2 o3 o4 o5 o6 o7 hn
 go_enter Tryz.func137, Tryz.ntmps137
 go_wp2_with fail
 generalize hW : World.alloc _ _ = W
 have m0 : W.cell? ⟨w.heap.size, 0, none⟩ = some (.int .i64 xa) := by rw [← hW]; simp
 have m1 : W.cell? ⟨w.heap.size, 1, none⟩ = some (.int .u64 xv) := by rw [← hW]; simp
 have m2 : W.cell? ⟨w.heap.size, 2, none⟩ = some (.int .i64 xl) := by rw [← hW]; simp
 have m3 : W.cell? ⟨w.heap.size, 3, none⟩ = some (.int .u64 xt) := by rw [← hW]; simp
 have HB0 : Hid (Below w.heap.size w W) := by rw [← hW]; exact below1 w _
 have hz0 : W.heap.size = w.heap.size + 1 := by rw [← hW]; simp
 have HZ0 := Lib.hid hz0
 clear hz0 hW
 refine (C1.out _).mono ?_
 rintro e w1 ⟨rfl, hb1⟩
 replace m0 := keep_cell hb1 m0
 replace m1 := keep_cell hb1 m1
 replace m2 := keep_cell hb1 m2
 replace m3 := keep_cell hb1 m3
 have HB1 : Hid (Below w.heap.size w w1) := HB0.out.trans (hb1.mono HB0.out.size)
 have HZ1 : Hid (w.heap.size + 1 ≤ w1.heap.size) := by have := hb1.size; have := HZ0.out; show w.heap.size + 1 ≤ w1.heap.size; omega
 clear hb1 C1
 go_wp2
 have p1 := keep_cell HB1.out c1
 have hC : CtxB w1 w1 := Below.refl _ _
 go_region_held3 (fun u => u.cell? ⟨p, 1, none⟩ = some (.slice A0 l.length c0') ∧ u.cell? ⟨w.heap.size, 0, none⟩ = some (.int .i64 xa) ∧ u.cell? ⟨w.heap.size, 1, none⟩ = some (.int .u64 xv) ∧ u.cell? ⟨w.heap.size, 2, none⟩ = some (.int .i64 xl) ∧ u.cell? ⟨w.heap.size, 3, none⟩ = some (.int .u64 xt) ∧ CtxB w1 u)
  (first | assumption | exact ⟨drew_cell p1, drew_cell m0, drew_cell m1, drew_cell m2, drew_cell m3, hC.drew⟩ | (go_split_ands; exact ⟨keep_cell hb5 (by assumption), keep_cell hb5 (by assumption), keep_cell hb5 (by assumption), keep_cell hb5 (by assumption), keep_cell hb5 (by assumption), CtxB.next (by assumption) hb5⟩))
  (first | (go_at_call 153; refine (C2.out _ (by go_split_ands; exact HB1.out.trans ((CtxB.out (by assumption)).mono HB1.out.size))).mono ?_; rintro e w5 ⟨rfl, hb5⟩))
 go_split_ands
 have HBX : Hid (Below w1.heap.size w1 w5) := CtxB.out (by assumption)
 have HB5 : Hid (Below w.heap.size w w5) := HB1.out.trans (HBX.out.mono HB1.out.size)
 have q1 := keep_cell HB5.out c1
 have q0 := keep_cell HB5.out c0
 have qf : w5.frozen? ⟨p, 1, none⟩ = false := keep_frozen HB5.out hplt f1
 have hp5 : p < w5.heap.size := by have := HB5.out.size; omega
 have HR5 := Lib.hid (HR.out.below HB5.out)
 have HP := Lib.hid HL.out.1
 obtain ⟨i0, hi0, hzz0, hzz1, hzz2⟩ := info_parts infoM
 have I0 := Lib.hid hi0
 have I1 := Lib.hid hzz0
 have I2 := Lib.hid hzz1
 have I3 := Lib.hid hzz2
 have HO : Hid (∀ u ∈ [Value.int .i64 xa, .int .u64 xv, .int .i64 xl, .int .u64 xt], u.oneCell' = true) := mL_one ⟨xa, xv, xl, xt⟩
 clear hi0 hzz0 hzz1 hzz2 hC
 go_wp2
 go_region_law ((refine step_append_row (by rfl) _ _ 115 (by rfl) 121 i0 (.agg #[.int .i64 0, .int .u64 0, .int .i64 0, .int .u64 0]) 4 32 Tryz.underlying115 I0.out I1.out I2.out I3.out rfl (by omega) F (.slice A0 l.length c0') l.length (rowL mL l) (by rfl) (by have hx9 := (HR5.out.below (below1 w5 (.cells #[.int .i64 xa, .int .u64 xv, .int .i64 xl, .int .u64 xt] 121))).drew1; exact hx9) ⟨w5.heap.size, 0, none⟩ 1 1 [.int .i64 xa, .int .u64 xv, .int .i64 xl, .int .u64 xt] (by rfl) (by omega) rfl (by intro j u hu; rw [Addr.add_mid]; exact range_new w5 #[.int .i64 xa, .int .u64 xv, .int .i64 xl, .int .u64 xt] 121 j u hu) HO.out (by have := HN.out; unfold maxLen; omega) (by have := HN.out; omega) ?_; intro A1 c2 W5 hrow1 hkp1; have hkp : Hid (Kp F w5 W5) := ((((Kp.refl F w5).alloc _).drew).trans hkp1 (fun i h => .inl h)); have k1 := hkp.out.cell q1 HP.out; have k0 := hkp.out.cell q0 HP.out; have kf : W5.frozen? ⟨p, 1, none⟩ = false := (hkp.out.frozen hp5 HP.out).trans qf; have hrow2 : Hid (RowAt W5 (fun k => F k ∨ w5.heap.size + 1 ≤ k) 4 (.slice A1 (l.length + 1) c2) (l.length + 1) (rowL mL (l ++ [⟨xa, xv, xl, xt⟩]))) := (by rw [rowL_append, rowL_one]; exact hrow1.mono (fun k _ x => x.imp id (fun y => by simpa using y))); have hok : Hid (∀ k, F k ∨ w5.heap.size + 1 ≤ k → F k ∨ w.heap.size ≤ k) := (fun k x => x.imp id (fun y => by have := HB5.out.size; omega)); obtain ⟨g1, o1, hA1, hc2⟩ := row_some hrow1 (by omega); subst hA1; clear hrow1 hkp1))
 all_goals
  have hpok : ¬ (F p ∨ w5.heap.size + 1 ≤ p) := fun x => x.elim HP.out (fun y => by omega)
  have HPO := Lib.hid hpok
  clear hpok
  have hn2 : l.length ≤ 1000 := HN.out
  skip
  go_wp2_with fail
  go_region
  go_wp2
  all_goals
   go_ret
   try simp only [HK.out]
   try simp only [HKb.out]
   have hcut := hrow2.out.cut (k := l.length + 1 - most) (by omega)
   rw [rowL_drop mL 4 mL_len] at hcut
   have hkq := (Kp.refl (fun k => k = p) W5).setCell (p := ⟨p, 1, none⟩) (.inl rfl) (Value.slice (some ⟨g1, o1, none⟩) (l.length + 1) c2)
   have hK1 : Kp (WkF F p) w W5 := (Kp.ofBelow HB5.out).trans hkp.out (fun i x => .inl (.inr x))
   have hrowq := hcut.kept hkq (fun k x e => HPO.out (e ▸ x))
   have r := list_put' (nq := 1) HL.out (hK1.setCell (p := ⟨p, 1, none⟩) (.inl (.inl rfl)) (Value.slice (some ⟨g1, o1, none⟩) (l.length + 1) c2)) (by rw [World.cell?_setCell_other _ _ _ _ (fun e => by injection e with _ e2 _; cases e2)]; exact k0) (World.cell?_setCell_same _ _ _ k1) (by rw [World.frozen?_setCell]; exact kf) (by simp) hok.out hrowq
   (rw [show l.length + 1 - most = 0 by omega] at r; simp only [Nat.zero_mul, Nat.add_zero, Nat.sub_zero, List.drop_zero] at r)
   exact ⟨rfl, r.1, r.2⟩
set_option maxHeartbeats 1000000 in
theorem add_full {F : Nat → Prop} {p most : Nat} {l : List Mk} {w : World} (h : ListAt mL 4 F p most l w) (hn : l.length ≤ 900) (x : Mk) (hx : okM x) (hm : decide (x ∈ l) = false) (hc : most < l.length + 1) (hm1 : 1 ≤ most) (hlm : l.length ≤ most) (hmx : most ≤ 64) :
  Calls Tryz.prog 137 #[.pointer (some ⟨p, 0, none⟩), mV x] w (AddPost F p most ((l ++ [x]).drop (l.length + 1 - most)) w) := by
 replace hn : l.length ≤ 1000 := by omega
 have HKb : Hid (((l.length : Int) + 1 - (most : Int)).toNat = l.length + 1 - most) := by
  show ((l.length : Int) + 1 - (most : Int)).toNat = l.length + 1 - most
  omega
 have HK : Hid ((if (l.length : Int) + 1 - (most : Int) < 0 then (0 : Int) else (l.length : Int) + 1 - (most : Int)).toNat = l.length + 1 - most) := by
  show (if (l.length : Int) + 1 - (most : Int) < 0 then (0 : Int) else (l.length : Int) + 1 - (most : Int)).toNat = l.length + 1 - most
  split <;> omega
 have HL := Lib.hid h
 have HN := Lib.hid hn
 obtain ⟨xa, xv, xl, xt⟩ := x
 obtain ⟨o1, o2, o3, o4, o5, o6, o7⟩ := hx
 dsimp only at o1 o2 o3 o4 o5 o6 o7
 have C1 := Lib.hid (fun w => mark_right xa xv xl xt w o1 o2 o3 o4 o5 o6 o7)
 obtain ⟨A0, c0', c0, f1, c1, hrow⟩ := h.open
 have C2 : Hid (∀ w', Below w.heap.size w w' → Calls Tryz.prog 153 #[.slice A0 l.length c0', mV ⟨xa, xv, xl, xt⟩] w' fun e w'' => e = .returned (.bool false) ∧ Below w'.heap.size w' w'') := fun w' hb => by
  have h2 := mcontains_nat l ⟨xa, xv, xl, xt⟩ w' hn (hrow.below hb)
  rw [hm] at h2
  exact h2
 dsimp only [mV] at C2 ⊢
 have HR := Lib.hid hrow
 have hplt := HL.out.lt
 clear hrow h hm o1 o2 o3 o4 o5 o6 o7 hn
 go_enter Tryz.func137, Tryz.ntmps137
 go_wp2_with fail
 generalize hW : World.alloc _ _ = W
 have m0 : W.cell? ⟨w.heap.size, 0, none⟩ = some (.int .i64 xa) := by rw [← hW]; simp
 have m1 : W.cell? ⟨w.heap.size, 1, none⟩ = some (.int .u64 xv) := by rw [← hW]; simp
 have m2 : W.cell? ⟨w.heap.size, 2, none⟩ = some (.int .i64 xl) := by rw [← hW]; simp
 have m3 : W.cell? ⟨w.heap.size, 3, none⟩ = some (.int .u64 xt) := by rw [← hW]; simp
 have HB0 : Hid (Below w.heap.size w W) := by rw [← hW]; exact below1 w _
 have hz0 : W.heap.size = w.heap.size + 1 := by rw [← hW]; simp
 have HZ0 := Lib.hid hz0
 clear hz0 hW
 refine (C1.out _).mono ?_
 rintro e w1 ⟨rfl, hb1⟩
 replace m0 := keep_cell hb1 m0
 replace m1 := keep_cell hb1 m1
 replace m2 := keep_cell hb1 m2
 replace m3 := keep_cell hb1 m3
 have HB1 : Hid (Below w.heap.size w w1) := HB0.out.trans (hb1.mono HB0.out.size)
 have HZ1 : Hid (w.heap.size + 1 ≤ w1.heap.size) := by have := hb1.size; have := HZ0.out; show w.heap.size + 1 ≤ w1.heap.size; omega
 clear hb1 C1
 go_wp2
 have p1 := keep_cell HB1.out c1
 have hC : CtxB w1 w1 := Below.refl _ _
 go_region_held3 (fun u => u.cell? ⟨p, 1, none⟩ = some (.slice A0 l.length c0') ∧ u.cell? ⟨w.heap.size, 0, none⟩ = some (.int .i64 xa) ∧ u.cell? ⟨w.heap.size, 1, none⟩ = some (.int .u64 xv) ∧ u.cell? ⟨w.heap.size, 2, none⟩ = some (.int .i64 xl) ∧ u.cell? ⟨w.heap.size, 3, none⟩ = some (.int .u64 xt) ∧ CtxB w1 u)
  (first | assumption | exact ⟨drew_cell p1, drew_cell m0, drew_cell m1, drew_cell m2, drew_cell m3, hC.drew⟩ | (go_split_ands; exact ⟨keep_cell hb5 (by assumption), keep_cell hb5 (by assumption), keep_cell hb5 (by assumption), keep_cell hb5 (by assumption), keep_cell hb5 (by assumption), CtxB.next (by assumption) hb5⟩))
  (first | (go_at_call 153; refine (C2.out _ (by go_split_ands; exact HB1.out.trans ((CtxB.out (by assumption)).mono HB1.out.size))).mono ?_; rintro e w5 ⟨rfl, hb5⟩))
 go_split_ands
 have HBX : Hid (Below w1.heap.size w1 w5) := CtxB.out (by assumption)
 have HB5 : Hid (Below w.heap.size w w5) := HB1.out.trans (HBX.out.mono HB1.out.size)
 have q1 := keep_cell HB5.out c1
 have q0 := keep_cell HB5.out c0
 have qf : w5.frozen? ⟨p, 1, none⟩ = false := keep_frozen HB5.out hplt f1
 have hp5 : p < w5.heap.size := by have := HB5.out.size; omega
 have HR5 := Lib.hid (HR.out.below HB5.out)
 have HP := Lib.hid HL.out.1
 obtain ⟨i0, hi0, hzz0, hzz1, hzz2⟩ := info_parts infoM
 have I0 := Lib.hid hi0
 have I1 := Lib.hid hzz0
 have I2 := Lib.hid hzz1
 have I3 := Lib.hid hzz2
 have HO : Hid (∀ u ∈ [Value.int .i64 xa, .int .u64 xv, .int .i64 xl, .int .u64 xt], u.oneCell' = true) := mL_one ⟨xa, xv, xl, xt⟩
 clear hi0 hzz0 hzz1 hzz2 hC
 go_wp2
 go_region_law ((refine step_append_row (by rfl) _ _ 115 (by rfl) 121 i0 (.agg #[.int .i64 0, .int .u64 0, .int .i64 0, .int .u64 0]) 4 32 Tryz.underlying115 I0.out I1.out I2.out I3.out rfl (by omega) F (.slice A0 l.length c0') l.length (rowL mL l) (by rfl) (by have hx9 := (HR5.out.below (below1 w5 (.cells #[.int .i64 xa, .int .u64 xv, .int .i64 xl, .int .u64 xt] 121))).drew1; exact hx9) ⟨w5.heap.size, 0, none⟩ 1 1 [.int .i64 xa, .int .u64 xv, .int .i64 xl, .int .u64 xt] (by rfl) (by omega) rfl (by intro j u hu; rw [Addr.add_mid]; exact range_new w5 #[.int .i64 xa, .int .u64 xv, .int .i64 xl, .int .u64 xt] 121 j u hu) HO.out (by have := HN.out; unfold maxLen; omega) (by have := HN.out; omega) ?_; intro A1 c2 W5 hrow1 hkp1; have hkp : Hid (Kp F w5 W5) := ((((Kp.refl F w5).alloc _).drew).trans hkp1 (fun i h => .inl h)); have k1 := hkp.out.cell q1 HP.out; have k0 := hkp.out.cell q0 HP.out; have kf : W5.frozen? ⟨p, 1, none⟩ = false := (hkp.out.frozen hp5 HP.out).trans qf; have hrow2 : Hid (RowAt W5 (fun k => F k ∨ w5.heap.size + 1 ≤ k) 4 (.slice A1 (l.length + 1) c2) (l.length + 1) (rowL mL (l ++ [⟨xa, xv, xl, xt⟩]))) := (by rw [rowL_append, rowL_one]; exact hrow1.mono (fun k _ x => x.imp id (fun y => by simpa using y))); have hok : Hid (∀ k, F k ∨ w5.heap.size + 1 ≤ k → F k ∨ w.heap.size ≤ k) := (fun k x => x.imp id (fun y => by have := HB5.out.size; omega)); obtain ⟨g1, o1, hA1, hc2⟩ := row_some hrow1 (by omega); subst hA1; clear hrow1 hkp1))
 all_goals
  have hpok : ¬ (F p ∨ w5.heap.size + 1 ≤ p) := fun x => x.elim HP.out (fun y => by omega)
  have HPO := Lib.hid hpok
  clear hpok
  have hn2 : l.length ≤ 1000 := HN.out
  have hne : ¬ c2 = ((l.length : Int) + 1 - (most : Int)).toNat := by omega
  go_wp2_with fail
  go_region
  go_wp2
  all_goals
   go_ret
   try simp only [HK.out]
   try simp only [HKb.out]
   have hcut := hrow2.out.cut (k := l.length + 1 - most) (by omega)
   rw [rowL_drop mL 4 mL_len] at hcut
   have hkq := (Kp.refl (fun k => k = p) W5).setCell (p := ⟨p, 1, none⟩) (.inl rfl) (Value.slice (some ⟨g1, o1, none⟩) (l.length + 1) c2)
   have hK1 : Kp (WkF F p) w W5 := (Kp.ofBelow HB5.out).trans hkp.out (fun i x => .inl (.inr x))
   have hrowq := hcut.kept hkq (fun k x e => HPO.out (e ▸ x))
   have r := list_put' (nq := 1) HL.out (hK1.setCell (p := ⟨p, 1, none⟩) (.inl (.inl rfl)) (Value.slice (some ⟨g1, o1, none⟩) (l.length + 1) c2)) (by rw [World.cell?_setCell_other _ _ _ _ (fun e => by injection e with _ e2 _; cases e2)]; exact k0) (World.cell?_setCell_same _ _ _ k1) (by rw [World.frozen?_setCell]; exact kf) (by simp) hok.out hrowq
   skip
   exact ⟨rfl, r.1, r.2⟩
theorem add_nat {F : Nat → Prop} {p most : Nat} {l : List Mk} {w : World} (h : ListAt mL 4 F p most l w) (x : Mk) (hx : okM x) (hm1 : 1 ≤ most) (hmx : most ≤ 64) (hn : l.length ≤ most) :
  Calls Tryz.prog 137 #[.pointer (some ⟨p, 0, none⟩), mV x] w (AddPost F p most (addP most l x) w) := by
 unfold addP
 by_cases hm : x ∈ l
 ·rw [if_pos hm]; exact add_has h (by omega) x hx (decide_eq_true hm)
 ·rw [if_neg hm]
  by_cases hc : l.length + 1 ≤ most
  ·rw [show l.length + 1 - most = 0 by omega]
   exact add_room h (by omega) x hx (decide_eq_false hm) hc hm1 hn hmx
  ·exact add_full h (by omega) x hx (decide_eq_false hm) (by omega) hm1 hn hmx
theorem addP_len {most : Nat} {l : List Mk} {x : Mk} (hn : l.length ≤ most) : (addP most l x).length ≤ most := by
 unfold addP
 split
 ·exact hn
 ·simp; omega
end Go.Proofs.YtbapgngngaaojaaGreat
namespace Go.Proofs.YtbapgngngaaojaaGreat
open Go.RowKit Go.Lib
set_option maxRecDepth 100000
theorem matchP_low (ea ev el : Nat) (asid : Int) (va : Nat) : matchP ea ev el asid va = (((ea : Int) == asid) && (decide (va < 281474976710656) && (baseP va el == ev))) := by
 unfold matchP lowB
 congr 2
set_option maxHeartbeats 1000000 in
theorem rmatches_nat (ea ev el K out attr : Nat) (b1 b2 b3 b4 : Bool) (asid : Int) (va : Nat) (w : World) (hl : el ≤ 3) (hv : va < 18446744073709551616) :
  Calls Tryz.prog 81 #[.agg #[.int .i64 ea, .int .u64 ev, .int .i64 el, .int .i64 K, .int .u64 out, .bool b1, .bool b2, .bool b3, .bool b4, .int .i64 attr], .int .i64 asid, .int .u64 va] w fun e w' => e = .returned (.bool (matchP ea ev el asid va)) ∧ Below w.heap.size w w' := by
 have C2 := Lib.hid (fun w => rbase_nat va el w hl hv)
 rw [matchP_low]
 obtain ⟨q1, h1⟩ : ∃ b, ((ea : Int) == asid) = b := ⟨_, rfl⟩
 obtain ⟨q2, h2⟩ : ∃ b, decide (va < 281474976710656) = b := ⟨_, rfl⟩
 obtain ⟨q3, h3⟩ : ∃ b, (baseP va el == ev) = b := ⟨_, rfl⟩
 have h2' : decide ((va : Int) < 281474976710656) = q2 := by rw [← h2, Bool.eq_iff_iff]; simp only [decide_eq_true_eq]; omega
 have h3' : ((baseP va el : Int) == (ev : Int)) = q3 := by rw [← h3, Bool.eq_iff_iff]; simp; omega
 rw [h1, h2, h3]
 clear h3 h2
 generalize baseP va el = B at C2 h3'
 cases q1 with
 | false =>
  go_enter Tryz.func81, Tryz.ntmps81
  go_wp2_with fail
  go_quiet (fail)
  go_wp2_with fail
  go_ret
  exact ⟨by first | rfl | (refine ret_bool ?_; simp [h3']), below_drewN (below1 _ _) _⟩
 | true =>
  cases q2 with
  | false =>
   go_enter Tryz.func81, Tryz.ntmps81
   go_wp2_with fail
   go_quiet (fail)
   go_wp2_with fail
   go_ret
   exact ⟨by first | rfl | (refine ret_bool ?_; simp [h3']), below_drewN (below1 _ _) _⟩
  | true =>
   go_enter Tryz.func81, Tryz.ntmps81
   go_wp2_with fail
   generalize hW : World.alloc w _ = W
   have m0 : W.cell? ⟨w.heap.size, 0, none⟩ = some (.int .i64 ea) := by rw [← hW]; simp
   have m1 : W.cell? ⟨w.heap.size, 1, none⟩ = some (.int .u64 ev) := by rw [← hW]; simp
   have m2 : W.cell? ⟨w.heap.size, 2, none⟩ = some (.int .i64 el) := by rw [← hW]; simp
   have hC : CtxB w W := hW ▸ below1 w _
   clear hW
   go_region_held3 (fun u => u.cell? ⟨w.heap.size, 0, none⟩ = some (.int .i64 ea) ∧ u.cell? ⟨w.heap.size, 1, none⟩ = some (.int .u64 ev) ∧ u.cell? ⟨w.heap.size, 2, none⟩ = some (.int .i64 el) ∧ CtxB w u)
    (first | assumption | exact ⟨drew_cell m0, drew_cell m1, drew_cell m2, hC.drew⟩ | (go_split_ands; exact ⟨keep_cell hb5 (by assumption), keep_cell hb5 (by assumption), keep_cell hb5 (by assumption), CtxB.next (by assumption) hb5⟩))
    (first | (go_at_call 86; refine (C2.out _).mono ?_; rintro e w5 ⟨rfl, hb5⟩))
   go_split_ands
   have HB : Hid (Below w.heap.size w w5) := CtxB.out (by assumption)
   clear m0 m1 m2 hC
   go_wp2
   go_ret
   exact ⟨rfl, HB.out⟩
end Go.Proofs.YtbapgngngaaojaaGreat
namespace Go.Proofs.YtbapgngngaaojaaGreat
open Go.RowKit Go.Lib
set_option maxRecDepth 100000
set_option maxHeartbeats 1000000 in
theorem rleads_nat (ea ev el tb : Nat) (asid : Int) (va : Nat) (w : World) (hl1 : 1 ≤ el) (hl : el ≤ 3) (hv : va < 18446744073709551616) :
  Calls Tryz.prog 121 #[.agg #[.int .i64 ea, .int .u64 ev, .int .i64 el, .int .u64 tb], .int .i64 asid, .int .u64 va] w fun e w' => e = .returned (.bool (matchP ea ev (el - 1) asid va)) ∧ Below w.heap.size w w' := by
 have C2 := Lib.hid (fun w => rbase_nat va (el - 1) w (by omega) hv)
 have e9 : IntKind.i64.wrap ((el : Int) - 1) = ((el - 1 : Nat) : Int) := by rw [show (el : Int) - 1 = ((el - 1 : Nat) : Int) by omega]; exact IntWalk.i64_in _ (by omega)
 have e8 : ((el : Int) - 1) = ((el - 1 : Nat) : Int) := by omega
 rw [matchP_low]
 obtain ⟨q1, h1⟩ : ∃ b, ((ea : Int) == asid) = b := ⟨_, rfl⟩
 obtain ⟨q2, h2⟩ : ∃ b, decide (va < 281474976710656) = b := ⟨_, rfl⟩
 obtain ⟨q3, h3⟩ : ∃ b, (baseP va (el - 1) == ev) = b := ⟨_, rfl⟩
 have h2' : decide ((va : Int) < 281474976710656) = q2 := by rw [← h2, Bool.eq_iff_iff]; simp only [decide_eq_true_eq]; omega
 have h3' : ((baseP va (el - 1) : Int) == (ev : Int)) = q3 := by rw [← h3, Bool.eq_iff_iff]; simp; omega
 rw [h1, h2, h3]
 clear h3 h2
 generalize baseP va (el - 1) = B at C2 h3'
 generalize el - 1 = el1 at C2 e9 e8
 have E9 := Lib.hid e9
 have E8 := Lib.hid e8
 clear e9 e8
 cases q1 with
 | false =>
  go_enter Tryz.func121, Tryz.ntmps121
  go_wp2_with fail
  go_quiet (fail)
  go_wp2_with fail
  go_ret
  exact ⟨by first | rfl | (refine ret_bool ?_; simp [h3']), below_drewN (below1 _ _) _⟩
 | true =>
  cases q2 with
  | false =>
   go_enter Tryz.func121, Tryz.ntmps121
   go_wp2_with fail
   go_quiet (fail)
   go_wp2_with fail
   go_ret
   exact ⟨by first | rfl | (refine ret_bool ?_; simp [h3']), below_drewN (below1 _ _) _⟩
  | true =>
   go_enter Tryz.func121, Tryz.ntmps121
   go_wp2_with fail
   generalize hW : World.alloc w _ = W
   have m0 : W.cell? ⟨w.heap.size, 0, none⟩ = some (.int .i64 ea) := by rw [← hW]; simp
   have m1 : W.cell? ⟨w.heap.size, 1, none⟩ = some (.int .u64 ev) := by rw [← hW]; simp
   have m2 : W.cell? ⟨w.heap.size, 2, none⟩ = some (.int .i64 el) := by rw [← hW]; simp
   have hC : CtxB w W := hW ▸ below1 w _
   clear hW
   go_region_held3 (fun u => u.cell? ⟨w.heap.size, 0, none⟩ = some (.int .i64 ea) ∧ u.cell? ⟨w.heap.size, 1, none⟩ = some (.int .u64 ev) ∧ u.cell? ⟨w.heap.size, 2, none⟩ = some (.int .i64 el) ∧ CtxB w u)
    (first | assumption | exact ⟨drew_cell m0, drew_cell m1, drew_cell m2, hC.drew⟩ | (go_split_ands; exact ⟨keep_cell hb5 (by assumption), keep_cell hb5 (by assumption), keep_cell hb5 (by assumption), CtxB.next (by assumption) hb5⟩))
    (first | (go_at_call 86; (try rw [E9.out]); (try rw [E8.out]); refine (C2.out _).mono ?_; rintro e w5 ⟨rfl, hb5⟩))
   go_split_ands
   have HB : Hid (Below w.heap.size w w5) := CtxB.out (by assumption)
   clear m0 m1 m2 hC
   go_wp2
   go_ret
   exact ⟨rfl, HB.out⟩
end Go.Proofs.YtbapgngngaaojaaGreat
namespace Go.Proofs.YtbapgngngaaojaaGreat
open Go.RowKit Go.Lib
set_option maxRecDepth 100000
theorem addP_addL (most : Nat) (l : List Mk) (x : Mk) (h : l.length ≤ most) : addP most l x = addL most l x := by
 unfold addP addL
 split
 ·rfl
 ·split
  ·rw [show l.length + 1 - most = 1 by omega]
  ·rw [show l.length + 1 - most = 0 by omega]; rfl
theorem rinfoK : (Tryz.prog.info? 122).map (fun i => (i.zero, i.size, i.bytes)) = some (some (.agg #[.int .i64 0, .int .u64 0, .int .i64 0, .int .u64 0]), 4, 32) := by kernel_rfl
attribute [local go_sem high] eqA_RK
theorem rmark_right (ea ev el tb : Nat) (w : World) (h1 : ea < 256) (h2 : 1 ≤ el) (h3 : el ≤ 3) (hv : ev < 281474976710656) (hbase : baseP ev (el - 1) = ev) (ht : tb < 281474976710656) (ha : tb % 4096 = 0) :
  Calls Tryz.prog 144 #[.agg #[.int .i64 ea, .int .u64 ev, .int .i64 el, .int .u64 tb]] w fun e w' => e = .returned (.bool true) ∧ Below w.heap.size w w' := by
 have C2 := Lib.hid (fun w => rbase_nat ev (el - 1) w (by omega) (by omega))
 rw [hbase] at C2
 have e9 : IntKind.i64.wrap ((el : Int) - 1) = ((el - 1 : Nat) : Int) := by rw [show (el : Int) - 1 = ((el - 1 : Nat) : Int) by omega]; exact IntWalk.i64_in _ (by omega)
 have e8 : ((el : Int) - 1) = ((el - 1 : Nat) : Int) := by omega
 have d1 : decide ((ea : Int) < 0) = false := by simp
 have d2 : decide ((255 : Int) < (ea : Int)) = false := by simp; omega
 have d3 : decide ((el : Int) < 1) = false := by simp; omega
 have d4 : decide ((3 : Int) < (el : Int)) = false := by simp; omega
 have d5 : decide ((281474976710656 : Int) ≤ (ev : Int)) = false := by simp; omega
 have d6 : ((ev : Int) == (ev : Int)) = true := by simp
 have d7 : decide ((tb : Int) < 281474976710656) = true := by simp; omega
 have d8 : ((tb : Int) % 4096 == 0) = true := by simp; omega
 have d9 : (tb : Int).tmod 4096 = 0 := by rw [Int.tmod_eq_emod_of_nonneg (by omega)]; omega
 generalize el - 1 = el1 at C2 e9 e8
 have E9 := Lib.hid e9
 have E8 := Lib.hid e8
 clear e9 e8 hbase h1 h2 h3 hv ht ha
 go_enter Tryz.func144, Tryz.ntmps144
 go_wp2_with fail
 generalize hW : World.alloc w _ = W
 have m1 : W.cell? ⟨w.heap.size, 1, none⟩ = some (.int .u64 ev) := by rw [← hW]; simp
 have m2 : W.cell? ⟨w.heap.size, 2, none⟩ = some (.int .i64 el) := by rw [← hW]; simp
 have m3 : W.cell? ⟨w.heap.size, 3, none⟩ = some (.int .u64 tb) := by rw [← hW]; simp
 have hC : CtxB w W := hW ▸ below1 w _
 clear hW
 go_region_held3 (fun u => u.cell? ⟨w.heap.size, 1, none⟩ = some (.int .u64 ev) ∧ u.cell? ⟨w.heap.size, 2, none⟩ = some (.int .i64 el) ∧ u.cell? ⟨w.heap.size, 3, none⟩ = some (.int .u64 tb) ∧ CtxB w u)
  (first | assumption | exact ⟨drew_cell m1, drew_cell m2, drew_cell m3, hC.drew⟩ | (go_split_ands; exact ⟨keep_cell hb5 (by assumption), keep_cell hb5 (by assumption), keep_cell hb5 (by assumption), CtxB.next (by assumption) hb5⟩))
  (first | (go_at_call 86; (try rw [E9.out]); (try rw [E8.out]); refine (C2.out _).mono ?_; rintro e w5 ⟨rfl, hb5⟩))
 all_goals
  go_split_ands
  have HB : Hid (Below w.heap.size w w5) := CtxB.out (by assumption)
  clear m1 m2 m3 hC
  go_wp2
  go_ret
  exact ⟨by first | rfl | (refine ret_bool ?_; simp [d9]), HB.out⟩
set_option maxHeartbeats 2000000 in
theorem radd_nat {ok : Nat → Prop} (most : Nat) (l : List Mk) (x : Mk) (A0 : Option Addr) (c0 : Nat) (w : World) (hn : l.length ≤ 1000) (hm9 : l.length ≤ most) (g1 : x.asid < 256) (g2 : 1 ≤ x.level) (g3 : x.level ≤ 3) (g4 : x.va < 281474976710656) (g5 : baseP x.va (x.level - 1) = x.va) (g6 : x.table < 281474976710656) (g7 : x.table % 4096 = 0) (h : RowAt w ok 4 (.slice A0 l.length c0) l.length (rowL mL l)) :
  Calls Tryz.prog 125 #[.slice A0 l.length c0, .int .i64 most, mV x] w (RListPost mL 4 ok (addP most l x) w) := by
 rw [addP_addL most l x hm9]
 have C1 := Lib.hid (fun w => rmark_right x.asid x.va x.level x.table w g1 g2 g3 g4 g5 g6 g7)
 clear hm9 g1 g2 g3 g4 g5 g6 g7
 obtain ⟨R, hR⟩ : ∃ R, addL most l x = R := ⟨_, rfl⟩
 rw [hR]
 obtain ⟨i0, hi0, hz0, hz1, hz2⟩ := info_parts rinfoK
 have I0 := Lib.hid hi0
 have I1 := Lib.hid hz0
 have I2 := Lib.hid hz1
 have I3 := Lib.hid hz2
 have H := Lib.hid h
 have HN := Lib.hid hn
 have HR := Lib.hid hR
 clear h hn hR hi0 hz0 hz1 hz2
 obtain ⟨xa, xv, xl, xt⟩ := x
 dsimp only [mV]
 dsimp only at C1
 go_enter Tryz.func125, Tryz.ntmps125
 go_wp2_with fail
 generalize hW : World.alloc _ _ = W9
 have HX9 : Hid (Box W9 w.heap.size (mL ⟨xa, xv, xl, xt⟩)) := by rw [← hW]; exact Box.new w (mL ⟨xa, xv, xl, xt⟩) 122
 have HB9 : Hid (Below w.heap.size w W9) := by rw [← hW]; exact below1 w _
 clear hW
 refine (C1.out _).mono ?_
 rintro e W0 ⟨rfl, hb0⟩
 have HX := Lib.hid (HX9.out.below hb0)
 have HB0 : Hid (Below w.heap.size w W0) := HB9.out.trans (hb0.mono HB9.out.size)
 clear hb0 HX9 HB9
 go_wp2
 obtain ⟨B, hB⟩ : ∃ B, W0.heap.size = B := ⟨_, rfl⟩
 have HBB : Hid (W0.heap.size = B ∧ w.heap.size < B) := ⟨hB, hB ▸ HX.out.2.2⟩
 clear hB
 have HRW0 : Hid (RowAt W0 (fun k => B ≤ k) 4 (.slice none 0 0) 0 (rowL mL (l.take 0))) := RowAt.nil _ _ _
 go_loopw [7, 8] (fun s7 iv wr => ∃ (i : Nat) (A2 : Option Addr) (c2 : Nat), iv = .int .i64 i ∧ s7 = .slice A2 i c2 ∧ i ≤ l.length ∧ Hid (∀ j (hj : j < l.length), j < i → l[j] ≠ ⟨xa, xv, xl, xt⟩) ∧ Hid (RowAt wr (fun k => B ≤ k) 4 (.slice A2 i c2) i (rowL mL (l.take i))) ∧ Hid (Kp (fun k => B ≤ k) W0 wr)) (fun _ iv _ => l.length - (RowKit.intOf iv).toNat)
 case atStart => exact ⟨0, none, 0, rfl, rfl, by omega, fun j hj h => by omega, HRW0, Kp.refl _ _⟩
 case round =>
  obtain ⟨i, A2, c2, rfl, rfl, hi, HJ, HROW, HK⟩ := hrel
  have hn2 : l.length ≤ 1000 := HN.out
  have HBS : Hid (B ≤ wr.heap.size) := by have := HK.out.size; have := HBB.out.1; rw [Hid]; omega
  have HBW : Hid (Below w.heap.size w wr) := HK.out.toBelow HB0.out HB0.out.size (fun k hk => by have := HBB.out.2; omega)
  have BX := HX.out.kept HK.out (fun h => by have := HBB.out.2; omega)
  by_cases hlt : i < l.length
  ·obtain ⟨g, o, rfl, hr⟩ := H.out.rd.get (by omega)
   have hrng : wr.rangeAt g o (rowL mL l) := fun j v hj => keep_cell HBW.out (hr j v hj)
   have r0 := BX.at 0 _ rfl
   have r1 := BX.at 1 _ rfl
   have r2 := BX.at 2 _ rfl
   have r3 := BX.at 3 _ rfl
   have zr := BX.2.2
   clear BX
   have k0 := row_at0 mL_len hrng i hlt _ rfl
   have k1 := row_at mL_len hrng i hlt 1 _ rfl
   have k2 := row_at mL_len hrng i hlt 2 _ rfl
   have k3 := row_at mL_len hrng i hlt 3 _ rfl
   have HMEM : Hid (l[i] ∈ l) := List.getElem_mem hlt
   have HT : Hid (l.take (i + 1) = l.take i ++ [l[i]]) := take_snoc' l i hlt
   have HSTEP : Hid (∀ j (hj : j < l.length), j < i + 1 → j = i ∨ l[j] ≠ ⟨xa, xv, xl, xt⟩) := fun j hj h => by
    by_cases e : j = i
    ·exact .inl e
    ·exact .inr (HJ.out j hj (by omega))
   clear hrng hr
   generalize hx : l[i] = y at *
   obtain ⟨ya, yv, yl, yt⟩ := y
   dsimp only at k0 k1 k2 k3 
   have hB := mk_eq ya yv yl yt xa xv xl xt
   by_cases hxy : (⟨ya, yv, yl, yt⟩ : Mk) = ⟨xa, xv, xl, xt⟩
   ·rw [decide_eq_true hxy] at hB
    have hq : l = R := by rw [← HR.out]; unfold addL; rw [if_pos (hxy ▸ HMEM.out)]
    have HQ := Lib.hid hq
    clear hxy hx hq
    go_wp2
    go_quiet (fail)
    go_wp2
    go_ret
    rw [← HQ.out]
    exact ⟨_, _, rfl, ((H.out.below HBW.out).below (below_drewN (Below.refl _ _) _)).mono (fun k _ h => .inl h), below_drewN HBW.out _⟩
   ·rw [decide_eq_false hxy] at hB
    have HXY := Lib.hid hxy
    have HX2 := Lib.hid hx
    clear hxy hx
    go_wp2
    go_quiet (fail)
    have hdr : Below wr.heap.size wr (wr.drewN nq) := below_drewN (Below.refl _ _) _
    replace HROW := Lib.hid (HROW.out.below hdr)
    replace HK := Lib.hid (HK.out.below hdr)
    replace HBS : Hid (B ≤ (wr.drewN nq).heap.size) := Nat.le_trans HBS.out hdr.size
    replace k0 := keep_cell hdr k0
    replace k1 := keep_cell hdr k1
    replace k2 := keep_cell hdr k2
    replace k3 := keep_cell hdr k3
    clear hdr r0 r1 r2 r3 zr HBW
    generalize wr.drewN nq = wd at *
    go_wp2_with (at_builtin; refine wpList_append_row (by rfl) _ _ 33 (by rfl) 122 i0 (.agg #[.int .i64 0, .int .u64 0, .int .i64 0, .int .u64 0]) 4 32 Tryz.underlying33 I0.out I1.out I2.out I3.out rfl (by omega) (fun k => B ≤ k) (.slice A2 i c2) i (rowL mL (l.take i)) (by rfl) (HROW.out.below (below1 _ _)) ⟨(wd).heap.size, 0, none⟩ 1 1 [.int .i64 ya, .int .u64 yv, .int .i64 yl, .int .u64 yt] (by rfl) (by omega) rfl (by intro j u hu; rw [Addr.add_mid]; exact range_new wd #[.int .i64 ya, .int .u64 yv, .int .i64 yl, .int .u64 yt] 122 j u hu) (by intro u hu; simp at hu; rcases hu with rfl | rfl | rfl | rfl <;> rfl) (by have := HN.out; unfold maxLen; omega) (by have := HN.out; omega) ?_; intro A3 c3 W hrow1 hkp1; have HKP : Hid (Kp (fun k => B ≤ k) wd W) := ((Kp.refl _ _).alloc _).trans hkp1 (fun i h => .inl h); have HRW : Hid (RowAt W (fun k => B ≤ k) 4 (.slice A3 (i + 1) c3) (i + 1) (rowL mL (l.take i) ++ [.int .i64 ya, .int .u64 yv, .int .i64 yl, .int .u64 yt])) := hrow1.mono (fun k _ h => h.elim id (fun h => by have := HBS.out; simp only [World.size_alloc] at h; omega)); clear hrow1 hkp1)
    go_wp2
    go_roundw
    case rel => exact ⟨i + 1, A3, c3, by first | rfl | go_num, rfl, by omega, fun j hj h => by
     rcases HSTEP.out j hj h with e | e
     ·subst e; rw [HX2.out]; exact HXY.out
     ·exact e, by rw [Hid, HT.out, rowL_append, rowL_one]; exact HRW.out, HK.out.trans HKP.out (fun i h => .inl h)⟩
    case measure => simp [RowKit.intOf]; omega
  ·obtain rfl : i = l.length := by omega
   have hnm : (⟨xa, xv, xl, xt⟩ : Mk) ∉ l := fun hm => by
    obtain ⟨j, hj, e⟩ := List.getElem_of_mem hm
    exact HJ.out j hj (by omega) e
   have hr := HR.out
   unfold addL at hr
   rw [if_neg hnm] at hr
   have r0 := BX.at 0 _ rfl
   have r1 := BX.at 1 _ rfl
   have r2 := BX.at 2 _ rfl
   have r3 := BX.at 3 _ rfl
   have zr := BX.2.2
   clear BX hnm
   have HTL : Hid (l.take l.length = l) := List.take_length
   have HK9 := HK
   by_cases hm : most < l.length + 1
   ·rw [if_pos hm] at hr
    have HQ := Lib.hid hr
    have m1 : decide ((most : Int) < (l.length : Int) + 1) = true := by simp; omega
    have m2 : decide (most < l.length + 1) = true := by simp; omega
    have m3 : decide (most ≤ l.length) = true := by simp; omega
    have m4 : decide ((most : Int) ≤ (l.length : Int)) = true := by simp; omega
    clear hr hm
    go_wp2_with (at_builtin; refine wpList_append_row (by rfl) _ _ 33 (by rfl) 122 i0 (.agg #[.int .i64 0, .int .u64 0, .int .i64 0, .int .u64 0]) 4 32 Tryz.underlying33 I0.out I1.out I2.out I3.out rfl (by omega) (fun k => B ≤ k) (.slice A2 l.length c2) l.length (rowL mL (l.take l.length)) (by rfl) (HROW.out.below (below1 _ _)) ⟨(wr).heap.size, 0, none⟩ 1 1 [.int .i64 xa, .int .u64 xv, .int .i64 xl, .int .u64 xt] (by rfl) (by omega) rfl (by intro j u hu; rw [Addr.add_mid]; exact range_new wr #[.int .i64 xa, .int .u64 xv, .int .i64 xl, .int .u64 xt] 122 j u hu) (by intro u hu; simp at hu; rcases hu with rfl | rfl | rfl | rfl <;> rfl) (by have := HN.out; unfold maxLen; omega) (by have := HN.out; omega) ?_; intro A3 c3 W hrow1 hkp1; have HKP : Hid (Kp (fun k => B ≤ k) wr W) := ((Kp.refl _ _).alloc _).trans hkp1 (fun i h => .inl h); have HRW : Hid (RowAt W (fun k => B ≤ k) 4 (.slice A3 (l.length + 1) c3) (l.length + 1) (rowL mL (l.take l.length) ++ [.int .i64 xa, .int .u64 xv, .int .i64 xl, .int .u64 xt])) := hrow1.mono (fun k _ h => h.elim id (fun h => by have := HBS.out; simp only [World.size_alloc] at h; omega)); clear hrow1 hkp1; obtain ⟨g3, o3, rfl, hc3, hc4⟩ := row_some HRW.out (by omega))
    all_goals go_ret
    all_goals
     have hk9 := HK9.out.trans HKP.out (fun i h => .inl h)
     have hcut := HRW.out.cut (k := 1) (by omega)
     rw [HTL.out, show rowL mL l ++ [.int .i64 xa, .int .u64 xv, .int .i64 xl, .int .u64 xt] = rowL mL (l ++ [⟨xa, xv, xl, xt⟩]) by rw [rowL_append, rowL_one]; rfl, rowL_drop mL 4 mL_len] at hcut
     have hbel := hk9.toBelow HB0.out HB0.out.size (fun k hk => by have := HBB.out.2; omega)
     have hmono : ∀ k, k < W.heap.size → B ≤ k → (fun k => ok k ∨ w.heap.size ≤ k) k := fun k _ h => .inr (by have := HBB.out.2; omega)
     have hlr : R.length = l.length := by rw [← HQ.out, List.length_drop, List.length_append]; rfl
     rw [HQ.out] at hcut
    all_goals first
     | (have hrz : R = [] := List.eq_nil_of_length_eq_zero (by rw [hlr]; simp [*]); rw [hrz]; exact ⟨_, _, rfl, HRW.out.zero.mono hmono, hbel⟩)
     | exact ⟨_, _, by rw [hlr]; rfl, by rw [hlr]; exact hcut.mono hmono, hbel⟩
     | (exfalso; subst h; have h2 : l.length + 1 ≤ 0 := ‹Nat.le (l.length + 1) 0›; omega)
   ·rw [if_neg hm] at hr
    have HQ := Lib.hid hr
    have m1 : decide ((most : Int) < (l.length : Int) + 1) = false := by simp; omega
    have m2 : decide (most < l.length + 1) = false := by simp; omega
    have m3 : decide (most ≤ l.length) = false := by simp; omega
    have m4 : decide ((most : Int) ≤ (l.length : Int)) = false := by simp; omega
    clear hr hm
    go_wp2_with (at_builtin; refine wpList_append_row (by rfl) _ _ 33 (by rfl) 122 i0 (.agg #[.int .i64 0, .int .u64 0, .int .i64 0, .int .u64 0]) 4 32 Tryz.underlying33 I0.out I1.out I2.out I3.out rfl (by omega) (fun k => B ≤ k) (.slice A2 l.length c2) l.length (rowL mL (l.take l.length)) (by rfl) (HROW.out.below (below1 _ _)) ⟨(wr).heap.size, 0, none⟩ 1 1 [.int .i64 xa, .int .u64 xv, .int .i64 xl, .int .u64 xt] (by rfl) (by omega) rfl (by intro j u hu; rw [Addr.add_mid]; exact range_new wr #[.int .i64 xa, .int .u64 xv, .int .i64 xl, .int .u64 xt] 122 j u hu) (by intro u hu; simp at hu; rcases hu with rfl | rfl | rfl | rfl <;> rfl) (by have := HN.out; unfold maxLen; omega) (by have := HN.out; omega) ?_; intro A3 c3 W hrow1 hkp1; have HKP : Hid (Kp (fun k => B ≤ k) wr W) := ((Kp.refl _ _).alloc _).trans hkp1 (fun i h => .inl h); have HRW : Hid (RowAt W (fun k => B ≤ k) 4 (.slice A3 (l.length + 1) c3) (l.length + 1) (rowL mL (l.take l.length) ++ [.int .i64 xa, .int .u64 xv, .int .i64 xl, .int .u64 xt])) := hrow1.mono (fun k _ h => h.elim id (fun h => by have := HBS.out; simp only [World.size_alloc] at h; omega)); clear hrow1 hkp1)
    go_ret
    have hk9 := HK9.out.trans HKP.out (fun i h => .inl h)
    rw [← HQ.out]
    refine ⟨A3, c3, by rw [List.length_append]; rfl, ?_, hk9.toBelow HB0.out HB0.out.size (fun k hk => by have := HBB.out.2; omega)⟩
    rw [List.length_append, rowL_append, rowL_one]
    have h9 := HRW.out
    rw [HTL.out] at h9
    exact h9.mono (fun k _ h => .inr (by have := HBB.out.2; omega))
end Go.Proofs.YtbapgngngaaojaaGreat
