/- The walk of (*Trail).keep, with a closure that is asked of each mark. slices.IndexFunc and slices.DeleteFunc of entries, with a closure that is asked of each. slices.DeleteFunc of entries: what is left are those that the closure denies. Closures, and the walks of tlb.flush, FlushVa of tlb, trail and mmu. A machine among the blocks of its caller. -/
import Derived.Test.YtbapgngngaaojaaGreatG11
import Derived.Shelf.Abstract
import Derived.Test.YtbapgngngaaojaaGreatG09
import Derived.Test.YtbapgngngaaojaaGreatG19
import Derived.Test.YtbapgngngaaojaaGreatG25
import Derived.Test.YtbapgngngaaojaaGreatG26
set_option linter.unusedSimpArgs false
set_option linter.unusedVariables false
namespace Go.Proofs.YtbapgngngaaojaaGreat
open Go.RowKit Go.Lib
set_option maxRecDepth 100000
def AskM (D : Mk → Prop) (f0 : Nat) (lb : Array Value) (p : Mk → Bool) (w : World) : Prop :=
 ∀ (W : World) (x : Mk), D x → Below w.heap.size w W → Calls Tryz.prog f0 (#[mV x] ++ lb) W fun e w' => e = .returned (.bool (p x)) ∧ Below W.heap.size W w'
def KeepPost (F : Nat → Prop) (q most : Nat) (l : List Mk) (w : World) (e : Ending) (w' : World) : Prop :=
 (∃ k : Int, e = .returned (.int .i64 k)) ∧ ListAt mL 4 (Gr F w w') q most l w' ∧ Kp (WkF F q) w w'
theorem filter_take_succ {α : Type} (f : α → Bool) (l : List α) (i : Nat) (hi : i < l.length) : (l.take (i + 1)).filter f = (l.take i).filter f ++ if f l[i] then [l[i]] else [] := by
 rw [List.take_add_one, List.getElem?_eq_getElem hi, List.filter_append, Option.toList_some, List.filter_cons, List.filter_nil]
set_option maxHeartbeats 1000000 in
theorem keep_nat {D : Mk → Prop} {F : Nat → Prop} {q most : Nat} {l : List Mk} {w : World} (f0 : Nat) (lb : Array Value) (p : Mk → Bool) (h : ListAt mL 4 F q most l w) (hn : l.length ≤ 900) (eg : ∀ args w, (callFunc f0 args).run Tryz.prog w = .ok (.enter f0 args) w) (hp : AskM D f0 lb p w) (hd : ∀ x ∈ l, D x) :
  Calls Tryz.prog 97 #[.pointer (some ⟨q, 0, none⟩), .func (.func f0) #[] lb] w (KeepPost F q most (l.filter p) w) := by
 obtain ⟨A, c, c0, f1, c1, hrow⟩ := h.open
 obtain ⟨i0, hi0, hz0, hz1, hz2⟩ := info_parts infoM
 have I0 := Lib.hid hi0
 have I1 := Lib.hid hz0
 have I2 := Lib.hid hz1
 have I3 := Lib.hid hz2
 have HN := Lib.hid hn
 have HP := Lib.hid hp
 have HD := Lib.hid hd
 have HR := Lib.hid hrow.rd
 have hq := h.lt
 have H := Lib.hid h
 clear hi0 hz0 hz1 hz2 hn hp hd h hrow
 go_enter Tryz.func97, Tryz.ntmps97
 go_wp2
 go_loopw [5, 14] (fun ov iv wr => ∃ (i : Nat) (A2 : Option Addr) (c2 : Nat), iv = .int .i64 i ∧ ov = .slice A2 ((l.take i).filter p).length c2 ∧ i ≤ l.length ∧ Hid (RowAt wr (fun k => w.heap.size ≤ k) 4 (.slice A2 ((l.take i).filter p).length c2) ((l.take i).filter p).length (rowL mL ((l.take i).filter p))) ∧ Hid (Below w.heap.size w wr)) (fun _ iv _ => l.length - (RowKit.intOf iv).toNat)
 case atStart => exact ⟨0, none, 0, rfl, by simp, by omega, by rw [Hid]; simpa [rowL] using RowAt.nil w _ 4, Below.refl _ _⟩
 case round =>
  obtain ⟨i, A2, c2, rfl, rfl, hi, HO, HB⟩ := hrel
  have hn2 : l.length ≤ 900 := HN.out
  by_cases hlt : i < l.length
  ·obtain ⟨A', c', e, hrr⟩ := HR.out
   obtain ⟨rfl, -, rfl⟩ := Value.slice.inj e
   obtain ⟨g, o, rfl, hr⟩ := hrr (by omega)
   have hrng : wr.rangeAt g o (rowL mL l) := fun j v hj => keep_cell HB.out (hr j v hj)
   have k0 := row_at0 mL_len hrng i hlt _ rfl
   have k1 := row_at mL_len hrng i hlt 1 _ rfl
   have k2 := row_at mL_len hrng i hlt 2 _ rfl
   have k3 := row_at mL_len hrng i hlt 3 _ rfl
   have i1 : (0 : Int) ≤ (i : Int) := by omega
   have i2 : (i : Int) < (l.length : Int) := by omega
   have HST := Lib.hid (filter_take_succ p l i hlt)
   have hle0 : ((l.take i).filter p).length ≤ i := Nat.le_trans (List.length_filter_le _ _) (by simp; omega)
   have HLE := Lib.hid hle0
   clear hrng hr hrr e hle0
   generalize (l.take i).filter p = L at *
   have hcall := fun W hb => HP.out W l[i] (HD.out _ (List.getElem_mem hlt)) hb
   generalize hy : l[i] = y at *
   clear hy
   generalize p y = b at *
   obtain ⟨ya, yv, yl, yt⟩ := y
   dsimp only [mV] at hcall
   dsimp only at k0 k1 k2 k3
   have HBV : Hid (Below w.heap.size w (wr.alloc (.cells #[.int .i64 ya, .int .u64 yv, .int .i64 yl, .int .u64 yt] 121))) := HB.out.alloc HB.out.size _
   have C := Lib.hid (hcall _ HBV.out)
   clear hcall
   cases b with
   | true =>
    have HST2 : Hid ((l.take (i + 1)).filter p = L ++ [⟨ya, yv, yl, yt⟩]) := HST.out
    go_wp2_with (first | (go_at_fn f0; refine C.out.mono ?_; rintro e w' ⟨rfl, hb'⟩; have HBW := Lib.hid hb'; have BXW : Box w' wr.heap.size [.int .i64 ya, .int .u64 yv, .int .i64 yl, .int .u64 yt] := (Box.new wr [.int .i64 ya, .int .u64 yv, .int .i64 yl, .int .u64 yt] 121).below hb'; have b0 := BXW.at 0 _ rfl; have b1 := BXW.at 1 _ rfl; have b2 := BXW.at 2 _ rfl; have b3 := BXW.at 3 _ rfl; have hz := BXW.2.2; have HO2 := Lib.hid (((HO.out.below (below1 wr _)).below hb').below (below1 w' (.cells #[.int .i64 ya, .int .u64 yv, .int .i64 yl, .int .u64 yt] 121))); clear BXW hb') | (at_builtin; refine wpList_append_row (by rfl) _ _ 115 (by rfl) 121 i0 (.agg #[.int .i64 0, .int .u64 0, .int .i64 0, .int .u64 0]) 4 32 Tryz.underlying115 I0.out I1.out I2.out I3.out rfl (by omega) (fun k => w.heap.size ≤ k) (.slice A2 L.length c2) L.length (rowL mL L) (by rfl) HO2.out ⟨w'.heap.size, 0, none⟩ 1 1 [.int .i64 ya, .int .u64 yv, .int .i64 yl, .int .u64 yt] (by rfl) (by omega) rfl (by intro j u hu; rw [Addr.add_mid]; exact range_new w' #[.int .i64 ya, .int .u64 yv, .int .i64 yl, .int .u64 yt] 121 j u hu) (mL_one ⟨ya, yv, yl, yt⟩) (by have := HLE.out; unfold maxLen; omega) (by have := HLE.out; omega) ?_; intro A1 c1 W5 hrow5 hkp5))
    go_roundw
    case rel =>
     have hsz : w.heap.size ≤ w'.heap.size := Nat.le_trans HBV.out.size HBW.out.size
     refine ⟨i + 1, A1, c1, by first | rfl | go_num, by rw [HST2.out]; simp, by omega, ?_, ?_⟩
     ·rw [HST2.out, rowL_append, rowL_one, List.length_append]
      exact hrow5.mono (fun k _ y => y.elim id (fun z => Nat.le_trans hsz (by rw [World.size_alloc] at z; omega)))
     ·exact hkp5.toBelow ((HBV.out.trans (HBW.out.mono HBV.out.size)).alloc hsz _) (by simp; omega) (fun k h => h)
    case measure => simp [RowKit.intOf]; omega
   | false =>
    have HST2 : Hid ((l.take (i + 1)).filter p = L) := by have := HST.out; rw [Hid]; simpa using this
    go_wp2_with (go_at_fn f0; refine C.out.mono ?_; rintro e w' ⟨rfl, hb'⟩)
    go_roundw
    case rel =>
     refine ⟨i + 1, A2, c2, by first | rfl | go_num, by rw [HST2.out], by omega, ?_, HBV.out.trans (hb'.mono HBV.out.size)⟩
     rw [HST2.out]
     exact (HO.out.below (below1 wr _)).below hb'
    case measure => simp [RowKit.intOf]; omega
  ·obtain rfl : i = l.length := by omega
   have ht : Hid (l.take l.length = l) := List.take_length
   rw [ht.out] at HO ⊢
   have HLE : Hid ((l.filter p).length ≤ 900) := Nat.le_trans (List.length_filter_le _ _) HN.out
   have q0 := keep_cell HB.out c0
   have q1 := keep_cell HB.out c1
   have qf : wr.frozen? ⟨q, 1, none⟩ = false := keep_frozen HB.out hq f1
   have hqr : q < wr.heap.size := by have := HB.out.size; omega
   generalize hL : l.filter p = L at *
   have hkey : ∀ nq, ListAt mL 4 (Gr F w ((wr.setCell ⟨q, 1, none⟩ (.slice A2 L.length c2)).drewN nq)) q most L ((wr.setCell ⟨q, 1, none⟩ (.slice A2 L.length c2)).drewN nq) ∧ Kp (WkF F q) w ((wr.setCell ⟨q, 1, none⟩ (.slice A2 L.length c2)).drewN nq) := fun nq =>
    list_put' (nq := nq) H.out (.ofBelow HB.out) q0 q1 qf rfl (fun k h => .inr h) HO.out
   have HKEY := Lib.hid hkey
   have HL9 : (L.length : Int) ≤ 900 := by have := HLE.out; omega
   clear hkey hL
   go_wp2
   go_ret
   exact ⟨⟨_, rfl⟩, HKEY.out 0⟩
end Go.Proofs.YtbapgngngaaojaaGreat
namespace Go.Proofs.YtbapgngngaaojaaGreat
open Go.RowKit Go.Lib
set_option maxRecDepth 100000
/-- A closure answers p of every entry, in every world that keeps all but the blocks of F. -/
def AskE (D : Ent → Prop) (F : Nat → Prop) (f0 : Nat) (lb : Array Value) (p : Ent → Bool) (w : World) : Prop :=
 ∀ (W : World) (x : Ent), D x → Kp F w W → Calls Tryz.prog f0 (#[eV x] ++ lb) W fun e w' => e = .returned (.bool (p x)) ∧ Below W.heap.size W w'
theorem AskE.later {D : Ent → Prop} {F : Nat → Prop} {f0 : Nat} {lb : Array Value} {p : Ent → Bool} {w W : World} (h : AskE D F f0 lb p w) (hk : Kp F w W) : AskE D F f0 lb p W := fun V x hx hv => h V x hx (hk.trans hv (fun i y => .inl y))
def FxPost (p : Ent → Bool) (l : List Ent) (w : World) (e : Ending) (w' : World) : Prop :=
 ((∃ (i : Nat) (hi : i < l.length), e = .returned (.int .i64 i) ∧ p l[i] = true ∧ ∀ j (hj : j < l.length), j < i → p l[j] = false) ∨ (e = .returned (.int .i64 (-1)) ∧ ∀ j (hj : j < l.length), p l[j] = false)) ∧ Below w.heap.size w w'
theorem eindexf_nil (f0 : Nat) (lb : Array Value) (p : Ent → Bool) (w : World) : Calls Tryz.prog 145 #[.slice none 0 0, .func (.func f0) #[] lb] w (FxPost p [] w) := by
 go_enter Tryz.func145, Tryz.ntmps145
 go_wp2
 refine wp_loop_rounds 1 ?_
 rw [rounds_succ]
 go_wp2
 go_ret
 exact ⟨.inr ⟨rfl, fun j hj => by simp at hj⟩, Below.refl _ _⟩
set_option maxHeartbeats 400000 in
theorem eindexf_nat {D : Ent → Prop} {F : Nat → Prop} (f0 : Nat) (lb : Array Value) (p : Ent → Bool) (l : List Ent) (g o cap : Nat) (w : World) (hn : l.length ≤ 1000) (h : w.rangeAt g o (rowL eL l)) (eg : ∀ args w, (callFunc f0 args).run Tryz.prog w = .ok (.enter f0 args) w) (hp : AskE D F f0 lb p w) (hd : ∀ x ∈ l, D x) :
  Calls Tryz.prog 145 #[.slice (some ⟨g, o, none⟩) l.length cap, .func (.func f0) #[] lb] w (FxPost p l w) := by
 have HN := Lib.hid hn
 have H := Lib.hid h
 have HP := Lib.hid hp
 have HD := Lib.hid hd
 clear h hn hp hd
 go_enter Tryz.func145, Tryz.ntmps145
 go_wp2
 go_loopw [8] (fun iv wr => ∃ i : Nat, iv = .int .i64 i ∧ i ≤ l.length ∧ Hid (∀ j (hj : j < l.length), j < i → p l[j] = false) ∧ Hid (Below w.heap.size w wr)) (fun iv _ => l.length - (RowKit.intOf iv).toNat)
 case atStart => exact ⟨0, rfl, by omega, fun j hj h => by omega, Below.refl _ _⟩
 case round =>
  obtain ⟨i, rfl, hi, HALL, HB⟩ := hrel
  have hn2 : l.length ≤ 1000 := HN.out
  by_cases hlt : i < l.length
  ·have hrng : wr.rangeAt g o (rowL eL l) := fun j v hj => keep_cell HB.out (H.out j v hj)
   have k0 := row_at0 eL_len hrng i hlt _ rfl
   have k1 := row_at eL_len hrng i hlt 1 _ rfl
   have k2 := row_at eL_len hrng i hlt 2 _ rfl
   have k3 := row_at eL_len hrng i hlt 3 _ rfl
   have k4 := row_at eL_len hrng i hlt 4 _ rfl
   have k5 := row_at eL_len hrng i hlt 5 _ rfl
   have k6 := row_at eL_len hrng i hlt 6 _ rfl
   have k7 := row_at eL_len hrng i hlt 7 _ rfl
   have k8 := row_at eL_len hrng i hlt 8 _ rfl
   have k9 := row_at eL_len hrng i hlt 9 _ rfl
   have i1 : (0 : Int) ≤ (i : Int) := by omega
   have i2 : (i : Int) < (l.length : Int) := by omega
   have hcall := HP.out wr l[i] (HD.out _ (List.getElem_mem hlt)) (Kp.ofBelow HB.out)
   have HQ : Hid (∀ b, p l[i] = b → (b = true → FxPost p l w (.returned (.int .i64 i)) wr) ∧ (b = false → ∀ j (hj : j < l.length), j < i + 1 → p l[j] = false)) := fun b hb => ⟨fun h => ⟨.inl ⟨i, hlt, rfl, hb.trans h, HALL.out⟩, HB.out⟩, fun h j hj hji => by
    by_cases e : j = i
    ·subst e; exact hb.trans h
    ·exact HALL.out j hj (by omega)⟩
   clear hrng
   generalize hy : l[i] = y at *
   clear hy
   replace HQ := Lib.hid (HQ.out _ rfl)
   generalize p y = b at *
   obtain ⟨ya, yv, yl, ⟨yk, yo, y1, y2, y3, y4, yt⟩⟩ := y
   dsimp only [eV] at hcall
   dsimp only at k0 k1 k2 k3 k4 k5 k6 k7 k8 k9
   cases b with
   | true =>
    go_wp2_with (go_at_fn f0; refine hcall.mono ?_; rintro e w' ⟨rfl, hb'⟩)
    go_ret
    have h := (HQ.out).1 trivial
    exact ⟨h.1, HB.out.trans (hb'.mono HB.out.size)⟩
   | false =>
    go_wp2_with (go_at_fn f0; refine hcall.mono ?_; rintro e w' ⟨rfl, hb'⟩)
    go_roundw
    case rel => exact ⟨i + 1, by first | rfl | go_num, by omega, (HQ.out).2 trivial, HB.out.trans (hb'.mono HB.out.size)⟩
    case measure => simp [RowKit.intOf]; omega
  ·go_wp2
   go_ret
   exact ⟨.inr ⟨rfl, fun j hj => HALL.out j hj (by omega)⟩, HB.out⟩
end Go.Proofs.YtbapgngngaaojaaGreat
namespace Go.Proofs.YtbapgngngaaojaaGreat
open Go.RowKit Go.Lib
set_option maxRecDepth 100000
theorem filter_none {α : Type} (f : α → Bool) (l : List α) (h : ∀ j (hj : j < l.length), f l[j] = false) : l.filter (fun x => !f x) = l := by
 refine List.filter_eq_self.2 fun x hx => ?_
 obtain ⟨j, hj, e⟩ := List.getElem_of_mem hx
 rw [← e, h j hj]; rfl
/-- The row while it is cut: its front is what stays of the first j, its end is as it was. -/
structure Cut (p : Ent → Bool) (l l' : List Ent) (i j : Nat) : Prop where
 len : l'.length = l.length
 front : l'.take i = (l.take j).filter (fun x => !p x)
 back : l'.drop j = l.drop j
 lt : i < j
 le : j ≤ l.length
theorem filter_take_step {α : Type} (f : α → Bool) (l : List α) (i : Nat) (hi : i < l.length) : (l.take (i + 1)).filter f = (l.take i).filter f ++ if f l[i] then [l[i]] else [] := by
 rw [List.take_add_one, List.getElem?_eq_getElem hi, List.filter_append, Option.toList_some, List.filter_cons, List.filter_nil]
theorem Cut.start {p : Ent → Bool} {l : List Ent} {i : Nat} (hi : i < l.length) (h1 : p l[i] = true) (h2 : ∀ j (hj : j < l.length), j < i → p l[j] = false) : Cut p l l i (i + 1) := by
 refine ⟨rfl, ?_, rfl, by omega, by omega⟩
 rw [filter_take_step _ l i hi, h1]
 simp only [Bool.not_true, Bool.false_eq_true, if_false, List.append_nil]
 refine (filter_none p (l.take i) fun j hj => ?_).symm
 rw [List.length_take] at hj
 rw [List.getElem_take]
 exact h2 j (by omega) (by omega)
theorem Cut.at {p : Ent → Bool} {l l' : List Ent} {i j : Nat} (h : Cut p l l' i j) (hj : j < l.length) (hj' : j < l'.length) : l'[j] = l[j] := by
 have h1 : (l'.drop j)[0]? = (l.drop j)[0]? := by rw [h.back]
 rw [List.getElem?_drop, List.getElem?_drop, Nat.add_zero, List.getElem?_eq_getElem hj, List.getElem?_eq_getElem hj'] at h1
 exact Option.some.inj h1
theorem Cut.gone {p : Ent → Bool} {l l' : List Ent} {i j : Nat} (h : Cut p l l' i j) (hj : j < l.length) (hp : p l[j] = true) : Cut p l l' i (j + 1) := by
 refine ⟨h.len, ?_, ?_, by have := h.lt; omega, by omega⟩
 ·rw [filter_take_step _ l j hj, hp, h.front]; simp
 ·rw [← List.drop_drop, ← List.drop_drop, h.back]
theorem Cut.stays {p : Ent → Bool} {l l' : List Ent} {i j : Nat} (h : Cut p l l' i j) (hj : j < l.length) (hp : p l[j] = false) : Cut p l (l'.set i l[j]) (i + 1) (j + 1) := by
 have hlt := h.lt
 have hlen := h.len
 refine ⟨by rw [List.length_set]; exact hlen, ?_, ?_, by omega, by omega⟩
 ·rw [filter_take_step _ l j hj, hp, ← h.front, List.take_add_one, List.getElem?_set_self (by omega), List.take_set_of_le (Nat.le_refl _)]
  simp
 ·rw [List.drop_set_of_lt (by omega), ← List.drop_drop, ← List.drop_drop, h.back]
theorem Cut.end {p : Ent → Bool} {l l' : List Ent} {i : Nat} (h : Cut p l l' i l.length) : l'.take i = l.filter (fun x => !p x) := by
 rw [h.front, List.take_length]
theorem Cut.filen {p : Ent → Bool} {l l' : List Ent} {i : Nat} (h : Cut p l l' i l.length) : (l.filter (fun x => !p x)).length = i := by
 rw [← h.end, List.length_take, h.len]
 have := h.lt
 omega
theorem rowL_set {α : Type} (f : α → List Value) (n : Nat) (h : ∀ x, (f x).length = n) (l : List α) (i : Nat) (hi : i < l.length) (x : α) : (rowL f l).take (i * n) ++ f x ++ (rowL f l).drop (i * n + n) = rowL f (l.set i x) := by
 rw [rowL_take f n h, show i * n + n = (i + 1) * n by rw [Nat.add_mul, Nat.one_mul], rowL_drop f n h, List.set_eq_take_append_cons_drop, if_pos hi, rowL_append]
 rw [show rowL f (x :: l.drop (i + 1)) = f x ++ rowL f (l.drop (i + 1)) from rfl, List.append_assoc]
theorem RowAt.gcap {ok : Nat → Prop} {w : World} {sz n g o cap : Nat} {cs : List Value} (h : RowAt w ok sz (.slice (some ⟨g, o, none⟩) n cap) n cs) : ok g ∧ n ≤ cap ∧ w.there g o (cap * sz) := by
 rcases h.2 with ⟨e, _⟩ | ⟨g', o', cap', e, h1, _, h3, _, _, h5⟩
 ·cases e
 ·obtain ⟨e1, _, rfl⟩ := Value.slice.inj e
  obtain ⟨rfl, rfl, _⟩ := Addr.mk.inj (Option.some.inj e1)
  exact ⟨h1, h3, h5⟩
theorem sizeEnt : (Tryz.prog.info? 119).map (·.size) = some 10 := by kernel_rfl
theorem edelf_nil {ok : Nat → Prop} (f0 : Nat) (lb : Array Value) (p : Ent → Bool) (w : World) :
  Calls Tryz.prog 129 #[.slice none 0 0, .func (.func f0) #[] lb] w (DelPost ok [] w) := by
 have C1 := Lib.hid (eindexf_nil f0 lb p w)
 go_enter Tryz.func129, Tryz.ntmps129
 go_wp2_with (go_at_call 145; refine C1.out.mono ?_; rintro e w1 ⟨h, hb⟩; have HB := Lib.hid hb; clear hb; replace h := h.resolve_left (fun ⟨i, hi, _⟩ => Nat.not_lt_zero _ hi); obtain ⟨rfl, -⟩ := h)
 go_ret
 exact ⟨none, 0, rfl, RowAt.nil _ _ _, .ofBelow HB.out⟩
set_option maxHeartbeats 2000000 in
theorem edelf_core {D : Ent → Prop} {ok : Nat → Prop} (f0 : Nat) (lb : Array Value) (p : Ent → Bool) (l : List Ent) (g o cap : Nat) (w : World) (hn : l.length ≤ 1000) (h : RowAt w ok 10 (.slice (some ⟨g, o, none⟩) l.length cap) l.length (rowL eL l)) (eg : ∀ args w, (callFunc f0 args).run Tryz.prog w = .ok (.enter f0 args) w) (hp : AskE D ok f0 lb p w) (hd : ∀ x ∈ l, D x) :
  Calls Tryz.prog 129 #[.slice (some ⟨g, o, none⟩) l.length cap, .func (.func f0) #[] lb] w (DelPost ok (l.filter (fun x => !p x)) w) := by
 have C1 := Lib.hid (eindexf_nat f0 lb p l g o cap w hn h.range eg hp hd)
 have HN := Lib.hid hn
 have HR := Lib.hid h
 have HP := Lib.hid hp
 have HD := Lib.hid hd
 clear hn h hp hd
 go_enter Tryz.func129, Tryz.ntmps129
 go_wp2_with fail
 refine C1.out.mono ?_
 rintro e w1 ⟨⟨i, hi, rfl, h1, h2⟩ | ⟨rfl, h2⟩, hb⟩
 ·have HB := Lib.hid hb
  have HC0 := Lib.hid (Cut.start hi h1 h2)
  have hii : (((i : Int)) == -1) = false := by rw [beq_eq_false_iff_ne]; omega
  have hn2 : l.length ≤ 1000 := HN.out
  have hi2 : (i : Int) < 1000 := by omega
  clear hb h1 h2 C1
  go_wp2
  clear hii hi2
  go_loopw [5, 6] (fun iv jv wr => ∃ i j : Nat, iv = .int .i64 i ∧ jv = .int .i64 j ∧ i < j ∧ j ≤ l.length ∧ Hid (∃ l', Cut p l l' i j ∧ RowAt wr ok 10 (.slice (some ⟨g, o, none⟩) l.length cap) l.length (rowL eL l')) ∧ Hid (Kp ok w wr)) (fun _ jv _ => l.length - (RowKit.intOf jv).toNat)
  case atStart => exact ⟨i, i + 1, rfl, by first | rfl | go_num, by omega, by omega, ⟨l, HC0.out, HR.out.below HB.out⟩, .ofBelow HB.out⟩
  case round =>
   obtain ⟨i, j, rfl, rfl, hij, hj, HL, HK⟩ := hrel
   obtain ⟨l', hc, hrow⟩ := HL.out
   have hn2 : l.length ≤ 1000 := HN.out
   have HRW := Lib.hid hrow
   have HC := Lib.hid hc
   by_cases hlt0 : j < l.length
   ·have hrng := hrow.range
    have hlt : j < l'.length := by rw [hc.len]; exact hlt0
    have k0 := row_at0 eL_len hrng j hlt _ rfl
    have k1 := row_at eL_len hrng j hlt 1 _ rfl
    have k2 := row_at eL_len hrng j hlt 2 _ rfl
    have k3 := row_at eL_len hrng j hlt 3 _ rfl
    have k4 := row_at eL_len hrng j hlt 4 _ rfl
    have k5 := row_at eL_len hrng j hlt 5 _ rfl
    have k6 := row_at eL_len hrng j hlt 6 _ rfl
    have k7 := row_at eL_len hrng j hlt 7 _ rfl
    have k8 := row_at eL_len hrng j hlt 8 _ rfl
    have k9 := row_at eL_len hrng j hlt 9 _ rfl
    have hy0 := hc.at hlt0 hlt
    have i1 : (0 : Int) ≤ (j : Int) := by omega
    have i2 : (j : Int) < (l.length : Int) := by omega
    have i3 : (0 : Int) ≤ (i : Int) := by omega
    have i4 : (i : Int) < (l.length : Int) := by omega
    have hcall := fun W hk => HP.out W l[j] (HD.out _ (List.getElem_mem hlt0)) hk
    have HG := Lib.hid (fun h => hc.gone hlt0 h)
    have HS := Lib.hid (fun h => hc.stays hlt0 h)
    rw [hy0] at k0 k1 k2 k3 k4 k5 k6 k7 k8 k9
    have hclen := hc.len
    clear hy0 hrng hlt HL hc hrow HC
    generalize l[j] = y at *
    generalize p y = b at *
    have HYO := Lib.hid (eL_one y)
    obtain ⟨ya, yv, yl, ⟨yk, yo, y1, y2, y3, y4, yt⟩⟩ := y
    dsimp only [eV] at hcall
    dsimp only at k0 k1 k2 k3 k4 k5 k6 k7 k8 k9
    have HKV : Hid (Kp ok w (wr.alloc (.cells #[.int .i64 ya, .int .u64 yv, .int .i64 yl, .int .i64 yk, .int .u64 yo, .bool y1, .bool y2, .bool y3, .bool y4, .int .i64 yt] 119))) := HK.out.alloc _
    have C := Lib.hid (hcall _ HKV.out)
    clear hcall
    cases b with
    | false =>
     go_wp2_with (first | (go_at_fn f0; refine C.out.mono ?_; rintro e w' ⟨rfl, hb'⟩; have HBW := Lib.hid hb'; have BXW : Box w' wr.heap.size [.int .i64 ya, .int .u64 yv, .int .i64 yl, .int .i64 yk, .int .u64 yo, .bool y1, .bool y2, .bool y3, .bool y4, .int .i64 yt] := (Box.new wr [.int .i64 ya, .int .u64 yv, .int .i64 yl, .int .i64 yk, .int .u64 yo, .bool y1, .bool y2, .bool y3, .bool y4, .int .i64 yt] 119).below hb'; have b0 := BXW.at 0 _ rfl; have b1 := BXW.at 1 _ rfl; have b2 := BXW.at 2 _ rfl; have b3 := BXW.at 3 _ rfl; have b4 := BXW.at 4 _ rfl; have b5 := BXW.at 5 _ rfl; have b6 := BXW.at 6 _ rfl; have b7 := BXW.at 7 _ rfl; have b8 := BXW.at 8 _ rfl; have b9 := BXW.at 9 _ rfl; have hz := BXW.2.2; have HRV := Lib.hid ((HRW.out.below (below1 wr _)).below hb'); clear BXW hb') | (refine wpList_store_mid (by rfl) 119 _ _ (by rfl) g (o + i * 10) #[.int .i64 ya, .int .u64 yv, .int .i64 yl, .int .i64 yk, .int .u64 yo, .bool y1, .bool y2, .bool y3, .bool y4, .int .i64 yt] (by rfl) (by rfl) (by intro q hq; have h9 := HRV.out.gcap; have := h9.2.2 (i * 10 + q) (by simp at hq; omega); rwa [← Nat.add_assoc] at this) sizeEnt (all_oneCell_toArray HYO.out) ?_))
     generalize hW9 : World.setCells w' _ _ _ = W9
     have hil : i < l'.length := by rw [hclen]; omega
     have HR9 : Hid (RowAt W9 ok 10 (.slice (some ⟨g, o, none⟩) l.length cap) l.length (rowL eL (l'.set i ⟨ya, yv, yl, ⟨yk, yo, y1, y2, y3, y4, yt⟩⟩))) := by
      rw [← rowL_set eL 10 eL_len l' i hil, ← hW9]
      exact HRV.out.put (k := i * 10) (eL ⟨ya, yv, yl, ⟨yk, yo, y1, y2, y3, y4, yt⟩⟩) (by rw [rowL_len eL 10 eL_len, eL_len]; omega)
     have HK9 : Hid (Kp ok w W9) := by
      rw [← hW9]; exact (HKV.out.below HBW.out).setCells (.inl HRV.out.gcap.1) _ _
     clear hW9 HRV
     go_roundw
     case rel => exact ⟨i + 1, j + 1, by first | rfl | go_num, by first | rfl | go_num, by omega, by omega, ⟨_, HS.out trivial, HR9.out⟩, HK9⟩
     case measure => simp [RowKit.intOf]; omega
    | true =>
     go_wp2_with (go_at_fn f0; refine C.out.mono ?_; rintro e w' ⟨rfl, hb'⟩)
     go_roundw
     case rel => exact ⟨i, j + 1, rfl, by first | rfl | go_num, by omega, by omega, ⟨l', HG.out trivial, (HRW.out.below (below1 wr _)).below hb'⟩, HKV.out.below hb'⟩
     case measure => simp [RowKit.intOf]; omega
   ·obtain rfl : j = l.length := by omega
    have hg := hrow.gcap
    have i4 : (i : Int) < (cap : Int) := by omega
    have i5 : (i : Int) ≤ (cap : Int) := by omega
    have i6 : (0 : Int) ≤ (i : Int) := by omega
    have i7 : ((l.length : Nat) : Int) ≤ (cap : Int) := by omega
    have i8 : i ≤ l.length := by omega
    have i9 : ¬ cap = i := by omega
    have HE := Lib.hid hc.end
    have HFL := Lib.hid hc.filen
    have HRI : Hid (RowAt wr ok 10 (.slice (some ⟨g, o, none⟩) i cap) i (rowL eL (l'.take i))) := by
     rw [← rowL_take eL 10 eL_len]; exact hrow.short (by omega)
    rw [HE.out] at HRI
    have hm1 : 0 < l.length - i := by omega
    have hm2 : i + (l.length - i) ≤ cap := by omega
    clear hg hrow hc HL HC HRW HE
    go_wp2_with (refine wpList_clear_row (by rfl) (.tmp 38) 113 (by rfl) 119 _ 10 Tryz.underlying113 zeroEntry rfl zeroE_one ok g o cap i 0 (l.length - i) (cap - i) (rowL eL (l.filter (fun x => !p x))) HRI.out (by rfl) hm1 hm2 ?_; intro W3 hrow3 hkp3)
    go_ret
    exact ⟨some ⟨g, o, none⟩, cap, by rw [HFL.out]; rfl, by rw [HFL.out]; exact hrow3, HK.out.trans hkp3 (fun k h => .inl h)⟩
 ·have HB := Lib.hid hb
  have HF := Lib.hid (filter_none p l h2)
  go_wp2
  go_ret
  rw [HF.out]
  exact ⟨_, _, rfl, HR.out.below HB.out, .ofBelow HB.out⟩
theorem edelf_nat {D : Ent → Prop} {ok : Nat → Prop} (f0 : Nat) (lb : Array Value) (p : Ent → Bool) (l : List Ent) (v : Value) (w : World) (hn : l.length ≤ 1000) (h : RowAt w ok 10 v l.length (rowL eL l)) (eg : ∀ args w, (callFunc f0 args).run Tryz.prog w = .ok (.enter f0 args) w) (hp : AskE D ok f0 lb p w) (hd : ∀ x ∈ l, D x) :
  Calls Tryz.prog 129 #[v, .func (.func f0) #[] lb] w (DelPost ok (l.filter (fun x => !p x)) w) := by
 rcases h.2 with ⟨rfl, h0⟩ | ⟨g, o, cap, rfl, _⟩
 ·obtain rfl : l = [] := List.eq_nil_of_length_eq_zero h0
  exact edelf_nil f0 lb p w
 ·exact edelf_core f0 lb p l g o cap w hn h eg hp hd
end Go.Proofs.YtbapgngngaaojaaGreat
namespace Go.Proofs.YtbapgngngaaojaaGreat
open Go.RowKit Go.Lib
set_option maxRecDepth 100000
theorem enters_va1 : ∀ args w, (callFunc 114 args).run Tryz.prog w = .ok (.enter 114 args) w := fun args w => by go_simp
theorem enters_va2 : ∀ args w, (callFunc 115 args).run Tryz.prog w = .ok (.enter 115 args) w := fun args w => by go_simp
theorem ask_va1 {F : Nat → Prop} {w : World} (asid : Int) (va g1 g2 : Nat) (hv : va < 18446744073709551616) (h1 : w.cell? ⟨g1, 0, none⟩ = some (.int .i64 asid)) (h2 : w.cell? ⟨g2, 0, none⟩ = some (.int .u64 va)) (n1 : ¬ F g1) (n2 : ¬ F g2) :
  AskE (fun x => x.level ≤ 3) F 114 #[.pointer (some ⟨g1, 0, none⟩), .pointer (some ⟨g2, 0, none⟩)] (matE asid va) w := by
 intro W x hx hk
 have c1 := hk.cell h1 n1
 have c2 := hk.cell h2 n2
 have C : Hid (∀ w, Calls Tryz.prog 107 #[eV x, .int .i64 asid, .int .u64 va] w fun e w' => e = .returned (.bool (matE asid va x)) ∧ Below w.heap.size w w') := fun w => matches_nat x.asid x.va x.level x.d.kind x.d.out x.d.attr x.d.user x.d.write x.d.exec x.d.used asid va w hx hv
 generalize matE asid va x = R at *
 obtain ⟨ya, yv, yl, ⟨yk, yo, y1, y2, y3, y4, yt⟩⟩ := x
 dsimp only [eV] at C ⊢
 have z1 := World.block_lt_of_cell? W _ c1
 have z2 := World.block_lt_of_cell? W _ c2
 dsimp only at z1 z2
 clear hk h1 h2 n1 n2 hx hv
 simp only [List.append_toArray, List.cons_append, List.nil_append]
 go_enter Tryz.func114, Tryz.ntmps114
 go_wp2_with (go_at_call 107; refine (C.out _).mono ?_; rintro e w1 ⟨rfl, hb⟩)
 go_ret
 exact ⟨rfl, (below1 _ _).trans (hb.mono (below1 _ _).size)⟩
theorem ask_va2 {w : World} (asid : Int) (va g1 g2 : Nat) (hv : va < 18446744073709551616) (h1 : w.cell? ⟨g1, 0, none⟩ = some (.int .i64 asid)) (h2 : w.cell? ⟨g2, 0, none⟩ = some (.int .u64 va)) :
  AskM (fun x => 1 ≤ x.level ∧ x.level ≤ 3) 115 #[.pointer (some ⟨g1, 0, none⟩), .pointer (some ⟨g2, 0, none⟩)] (fun x => !leadM asid va x) w := by
 intro W x hx hk
 have c1 := keep_cell hk h1
 have c2 := keep_cell hk h2
 have C : Hid (∀ w, Calls Tryz.prog 116 #[mV x, .int .i64 asid, .int .u64 va] w fun e w' => e = .returned (.bool (leadM asid va x)) ∧ Below w.heap.size w w') := fun w => leads_nat x.asid x.va x.level x.table asid va w hx.1 hx.2 hv
 dsimp only
 generalize leadM asid va x = R at *
 obtain ⟨ya, yv, yl, yt⟩ := x
 dsimp only [mV] at C ⊢
 have z1 := World.block_lt_of_cell? W _ c1
 have z2 := World.block_lt_of_cell? W _ c2
 dsimp only at z1 z2
 clear hk h1 h2 hx hv
 simp only [List.append_toArray, List.cons_append, List.nil_append]
 go_enter Tryz.func115, Tryz.ntmps115
 go_wp2_with (go_at_call 116; refine (C.out _).mono ?_; rintro e w1 ⟨rfl, hb⟩)
 go_ret
 exact ⟨rfl, (below1 _ _).trans (hb.mono (below1 _ _).size)⟩
def FlushPost (F : Nat → Prop) (p most : Nat) (l : List Ent) (w : World) (e : Ending) (w' : World) : Prop :=
 (∃ k : Int, e = .returned (.int .i64 k)) ∧ ListAt eL 10 (Gr F w w') p most l w' ∧ Kp (WkF F p) w w'
set_option maxHeartbeats 1000000 in
theorem tflush_nat {D : Ent → Prop} {F : Nat → Prop} {q most : Nat} {l : List Ent} {w : World} (f0 : Nat) (lb : Array Value) (p : Ent → Bool) (h : ListAt eL 10 F q most l w) (hn : l.length ≤ 900) (eg : ∀ args w, (callFunc f0 args).run Tryz.prog w = .ok (.enter f0 args) w) (hp : AskE D F f0 lb p w) (hd : ∀ x ∈ l, D x) :
  Calls Tryz.prog 94 #[.pointer (some ⟨q, 0, none⟩), .func (.func f0) #[] lb] w (FlushPost F q most (l.filter (fun x => !p x)) w) := by
 obtain ⟨A, c, c0, f1, c1, hrow⟩ := h.open
 have C := Lib.hid (edelf_nat f0 lb p l (.slice A l.length c) w (by omega) hrow eg hp hd)
 have HN : Hid ((l.filter (fun x => !p x)).length ≤ 900) := Nat.le_trans (List.length_filter_le _ _) hn
 have hq := h.lt
 have HP := Lib.hid h.1
 have H := Lib.hid h
 generalize l.filter (fun x => !p x) = L at *
 clear h hrow hp hd hn
 go_enter Tryz.func94, Tryz.ntmps94
 go_wp2_with (go_at_call 129; refine C.out.mono ?_; rintro e w1 ⟨A1, c1', rfl, hrow1, hk1⟩; have q0 := hk1.cell c0 HP.out; have q1 := hk1.cell c1 HP.out; have qf : w1.frozen? ⟨q, 1, none⟩ = false := (hk1.frozen hq HP.out).trans f1; have hq1 : q < w1.heap.size := Nat.lt_of_lt_of_le hq hk1.size; have hl := HN.out; have HKEY := Lib.hid (list_put' (nq := 0) H.out (hk1.mono (fun k h => .inr h)) q0 q1 qf rfl (fun k h => .inl h) hrow1); clear hrow1 hk1)
 go_ret
 exact ⟨⟨_, rfl⟩, HKEY.out⟩
theorem tflushva_nat {F : Nat → Prop} {q most : Nat} {l : List Ent} {w : World} (asid : Int) (va : Nat) (hv : va < 18446744073709551616) (h : ListAt eL 10 F q most l w) (hn : l.length ≤ 900) (hd : ∀ x ∈ l, x.level ≤ 3) :
  Calls Tryz.prog 68 #[.pointer (some ⟨q, 0, none⟩), .int .i64 asid, .int .u64 va] w (FlushPost F q most (l.filter (fun x => !matE asid va x)) w) := by
 have hq := h.lt
 have C : Hid (∀ W, Below w.heap.size w W → ∀ g1 g2, w.heap.size ≤ g1 → w.heap.size ≤ g2 → W.cell? ⟨g1, 0, none⟩ = some (.int .i64 asid) → W.cell? ⟨g2, 0, none⟩ = some (.int .u64 va) → Calls Tryz.prog 94 #[.pointer (some ⟨q, 0, none⟩), .func (.func 114) #[] #[.pointer (some ⟨g1, 0, none⟩), .pointer (some ⟨g2, 0, none⟩)]] W fun e w' => (∃ k : Int, e = .returned (.int .i64 k)) ∧ ListAt eL 10 (Gr F w w') q most (l.filter (fun x => !matE asid va x)) w' ∧ Kp (WkF F q) w w') := fun W hb g1 g2 z1 z2 h1 h2 => by
  refine (tflush_nat _ _ _ (h.below hb) hn enters_va1 (ask_va1 asid va g1 g2 hv h1 h2 (fun y => by have := h.2.1 _ y; omega) (fun y => by have := h.2.1 _ y; omega)) hd).mono ?_
  rintro e w' ⟨hk, hl, hkp⟩
  have hk2 : Kp (WkF F q) w w' := (Kp.ofBelow hb).trans hkp (fun i y => .inl y)
  refine ⟨hk, hl.mono (fun k hk y => y.imp id (fun z => ⟨Nat.le_trans hb.size z.1, z.2⟩)) (Gr.not h.1 hq) (Gr.lt h.2.1 hk2.size), hk2⟩
 clear hn hd hv
 generalize l.filter (fun x => !matE asid va x) = L at *
 have H := Lib.hid h
 clear h
 go_enter Tryz.func68, Tryz.ntmps68
 go_upto_region 1 with fail
 have hB : Hid (Below w.heap.size w ((w.alloc (.cells #[.int .i64 asid] 3)).alloc (.cells #[.int .u64 va] 23))) := (below1 _ _).alloc (by simp) _
 have D := Lib.hid (C.out _ hB.out w.heap.size (w.heap.size + 1) (Nat.le_refl _) (by omega) (by simp) (by simp))
 clear C
 go_wp2_with (go_at_call 94; refine D.out.mono ?_; rintro e w1 ⟨⟨k, rfl⟩, hl, hkp⟩; have HL := Lib.hid hl; have HK := Lib.hid hkp; clear hl hkp)
 go_ret
 exact ⟨⟨_, rfl⟩, HL.out, HK.out⟩
theorem kflushva_nat {F : Nat → Prop} {q most : Nat} {l : List Mk} {w : World} (asid : Int) (va : Nat) (hv : va < 18446744073709551616) (h : ListAt mL 4 F q most l w) (hn : l.length ≤ 900) (hd : ∀ x ∈ l, 1 ≤ x.level ∧ x.level ≤ 3) :
  Calls Tryz.prog 69 #[.pointer (some ⟨q, 0, none⟩), .int .i64 asid, .int .u64 va] w (KeepPost F q most (l.filter (fun x => !leadM asid va x)) w) := by
 have hq := h.lt
 have C : Hid (∀ W, Below w.heap.size w W → ∀ g1 g2, W.cell? ⟨g1, 0, none⟩ = some (.int .i64 asid) → W.cell? ⟨g2, 0, none⟩ = some (.int .u64 va) → Calls Tryz.prog 97 #[.pointer (some ⟨q, 0, none⟩), .func (.func 115) #[] #[.pointer (some ⟨g1, 0, none⟩), .pointer (some ⟨g2, 0, none⟩)]] W fun e w' => (∃ k : Int, e = .returned (.int .i64 k)) ∧ ListAt mL 4 (Gr F w w') q most (l.filter (fun x => !leadM asid va x)) w' ∧ Kp (WkF F q) w w') := fun W hb g1 g2 h1 h2 => by
  refine (keep_nat _ _ _ (h.below hb) hn enters_va2 (ask_va2 asid va g1 g2 hv h1 h2) hd).mono ?_
  rintro e w' ⟨hk, hl, hkp⟩
  have hk2 : Kp (WkF F q) w w' := (Kp.ofBelow hb).trans hkp (fun i y => .inl y)
  refine ⟨hk, hl.mono (fun k hk y => y.imp id (fun z => ⟨Nat.le_trans hb.size z.1, z.2⟩)) (Gr.not h.1 hq) (Gr.lt h.2.1 hk2.size), hk2⟩
 clear hn hd hv
 generalize l.filter (fun x => !leadM asid va x) = L at *
 have H := Lib.hid h
 clear h
 go_enter Tryz.func69, Tryz.ntmps69
 go_upto_region 1 with fail
 have hB : Hid (Below w.heap.size w ((w.alloc (.cells #[.int .i64 asid] 3)).alloc (.cells #[.int .u64 va] 23))) := (below1 _ _).alloc (by simp) _
 have D := Lib.hid (C.out _ hB.out w.heap.size (w.heap.size + 1) (by simp) (by simp))
 clear C
 go_wp2_with (go_at_call 97; refine D.out.mono ?_; rintro e w1 ⟨⟨k, rfl⟩, hl, hkp⟩; have HL := Lib.hid hl; have HK := Lib.hid hkp; clear hl hkp)
 go_ret
 exact ⟨⟨_, rfl⟩, HL.out, HK.out⟩
def flushVaM (s : St) (asid : Int) (va : Nat) : St := { s with es := s.es.filter (fun x => !matE asid va x), ks := s.ks.filter (fun x => !leadM asid va x) }
theorem MmuD.flushE {x m pt pk : Nat} {pv : Value} {Fm Ft Fk : Nat → Prop} {s : St} {w u' : World} {e : Ending} (h : MmuD x m pt pk pv Fm Ft Fk s w) {p : Ent → Bool} (hp : FlushPost Ft pt s.most (s.es.filter p) w e u') : MmuPost x m pt pk pv Fm Ft Fk { s with es := s.es.filter p } w u' :=
 (h.filled (e := .returned (.int .i64 0)) (Below.refl _ _) (Nat.le_trans (List.length_filter_le _ _) h.ok.el) (fun k hk => h.ok.eok k (List.mem_filter.1 hk).1) ⟨rfl, hp.2⟩).1
theorem MmuD.flushK {x m pt pk : Nat} {pv : Value} {Fm Ft Fk : Nat → Prop} {s : St} {w u' : World} {e : Ending} (h : MmuD x m pt pk pv Fm Ft Fk s w) {p : Mk → Bool} (hp : KeepPost Fk pk s.most (s.ks.filter p) w e u') : MmuPost x m pt pk pv Fm Ft Fk { s with ks := s.ks.filter p } w u' :=
 (h.walked (e := .returned (.int .i64 0)) (Below.refl _ _) (Nat.le_trans (List.length_filter_le _ _) h.ok.kl) (fun k hk => h.ok.kok k (List.mem_filter.1 hk).1) ⟨⟨0, rfl⟩, hp.2⟩).1
theorem mflushva_nat {x m pt pk : Nat} {pv : Value} {Fm Ft Fk : Nat → Prop} {s : St} {w : World} (h : MmuD x m pt pk pv Fm Ft Fk s w) (asid : Int) (va : Nat) (hv : va < 18446744073709551616) :
  Calls Tryz.prog 27 #[.pointer (some ⟨x, 0, none⟩), .int .i64 asid, .int .u64 va] w fun e w' => e = .returned (.tuple #[]) ∧ MmuPost x m pt pk pv Fm Ft Fk (flushVaM s asid va) w w' := by
 have C1 : Hid (Calls Tryz.prog 68 #[.pointer (some ⟨pt, 0, none⟩), .int .i64 asid, .int .u64 va] w fun e w' => (∃ k : Int, e = .returned (.int .i64 k)) ∧ MmuPost x m pt pk pv Fm Ft Fk { s with es := s.es.filter (fun x => !matE asid va x) } w w') :=
  (tflushva_nat asid va hv h.tlb (by have := h.ok.el; have := h.ok.m64; omega) (fun x hx => (h.ok.eok x hx).2.2.1)).mono (fun e w' hp => ⟨hp.1, h.flushE hp⟩)
 have C2 : Hid (∀ w1, MmuPost x m pt pk pv Fm Ft Fk { s with es := s.es.filter (fun x => !matE asid va x) } w w1 → Calls Tryz.prog 69 #[.pointer (some ⟨pk, 0, none⟩), .int .i64 asid, .int .u64 va] w1 fun e w' => (∃ k : Int, e = .returned (.int .i64 k)) ∧ MmuPost x m pt pk pv Fm Ft Fk (flushVaM s asid va) w w') := fun w1 h1 => by
  obtain ⟨Fm', Ft', Fk', h2, h3, h4⟩ := h1
  refine (kflushva_nat asid va hv h2.trail (by have := h2.ok.kl; have := h2.ok.m64; omega) (fun x hx => ⟨(h2.ok.kok x hx).2.1, (h2.ok.kok x hx).2.2.1⟩)).mono (fun e w' hp => ⟨hp.1, ?_⟩)
  exact MmuPost.join h3 h4 (h2.flushK hp)
 have c1 := h.c1
 have hx := h.bx
 generalize flushVaM s asid va = s2 at *
 generalize (fun x => !matE asid va x) = p1 at *
 clear h
 go_enter Tryz.func27, Tryz.ntmps27
 go_upto_region 1 with (go_at_call 68; refine C1.out.mono ?_; rintro e w1 ⟨⟨k, rfl⟩, hp1⟩; have C3 := Lib.hid (C2.out _ hp1); have c2 : w1.cell? ⟨x, 2, none⟩ = some (.pointer (some ⟨pk, 0, none⟩)) := (by obtain ⟨_, _, _, h1, _⟩ := hp1; exact h1.c2); have hx1 := World.block_lt_of_cell? w1 _ c2; dsimp only at hx1; clear hp1)
 clear C2 C1 c1 hx
 go_wp2_with (go_at_call 69; refine C3.out.mono ?_; rintro e w2 ⟨⟨k, rfl⟩, hp2⟩; have HP2 := Lib.hid hp2; clear hp2)
 go_end0
 exact ⟨rfl, HP2.out⟩
end Go.Proofs.YtbapgngngaaojaaGreat
namespace Go.Proofs.YtbapgngngaaojaaGreat
open Go.RowKit Go.Lib
set_option maxRecDepth 100000
/-- What a step of the machine may turn: nothing of B, nothing that lay in w0. -/
def KB (B : Nat → Prop) (w0 : World) : Nat → Prop := fun k => ¬ B k ∧ w0.heap.size ≤ k
/-- A machine whose blocks are new since w0, apart from the caller's own blocks B. -/
def MB (x m pt pk : Nat) (pv : Value) (s : St) (B : Nat → Prop) (w0 w : World) : Prop :=
 ∃ Fm Ft Fk, MmuD x m pt pk pv Fm Ft Fk s w ∧ (∀ k, MmuF x pt pk Fm Ft Fk k → KB B w0 k) ∧ (∀ k, B k → k < w.heap.size ∧ w0.heap.size ≤ k) ∧ Below w0.heap.size w0 w
section
variable {x m pt pk : Nat} {pv : Value} {s s' : St} {B : Nat → Prop} {w0 w w' : World}
theorem MB.below (h : MB x m pt pk pv s B w0 w) (hb : Below w.heap.size w w') : MB x m pt pk pv s B w0 w' := by
 obtain ⟨Fm, Ft, Fk, h1, h2, h3, h4⟩ := h
 exact ⟨Fm, Ft, Fk, h1.below hb, h2, fun k y => ⟨Nat.lt_of_lt_of_le (h3 k y).1 hb.size, (h3 k y).2⟩, h4.trans (hb.mono h4.size)⟩
theorem MB.base (h : MB x m pt pk pv s B w0 w) : Below w0.heap.size w0 w := by
 obtain ⟨_, _, _, _, _, _, h4⟩ := h
 exact h4
theorem MB.mine (h : MB x m pt pk pv s B w0 w) {k : Nat} (y : B k) : k < w.heap.size := by
 obtain ⟨_, _, _, _, _, h3, _⟩ := h
 exact (h3 k y).1
theorem MB.ok (h : MB x m pt pk pv s B w0 w) : OkSt s := by
 obtain ⟨_, _, _, h1, _⟩ := h
 exact h1.ok
/-- The caller makes a block. -/
theorem MB.add (h : MB x m pt pk pv s B w0 w) (hb : Below w.heap.size w w') {g : Nat} (hg : w.heap.size ≤ g) (hg2 : g < w'.heap.size) : MB x m pt pk pv s (fun k => B k ∨ k = g) w0 w' := by
 obtain ⟨Fm, Ft, Fk, h1, h2, h3, h4⟩ := h
 refine ⟨Fm, Ft, Fk, h1.below hb, fun k y => ⟨fun z => ?_, (h2 k y).2⟩, fun k y => ?_, h4.trans (hb.mono h4.size)⟩
 ·rcases z with z | z
  ·exact (h2 k y).1 z
  ·have := h1.bF k y; omega
 ·rcases y with y | y
  ·exact ⟨Nat.lt_of_lt_of_le (h3 k y).1 hb.size, (h3 k y).2⟩
  ·have := h4.size; exact ⟨by omega, by omega⟩
/-- The caller writes blocks of its own. -/
theorem MB.own (h : MB x m pt pk pv s B w0 w) (hk : Kp B w w') : MB x m pt pk pv s B w0 w' := by
 obtain ⟨Fm, Ft, Fk, h1, h2, h3, h4⟩ := h
 exact ⟨Fm, Ft, Fk, h1.kept hk (fun k y => (h2 k y).1), h2, fun k y => ⟨Nat.lt_of_lt_of_le (h3 k y).1 hk.size, (h3 k y).2⟩, hk.toBelow h4 h4.size (fun k y => (h3 k y).2)⟩
/-- A step of the machine. -/
theorem MB.step (h : MB x m pt pk pv s B w0 w) (hp : ∀ Fm Ft Fk, MmuD x m pt pk pv Fm Ft Fk s w → MmuPost x m pt pk pv Fm Ft Fk s' w w') : MB x m pt pk pv s' B w0 w' ∧ Kp (KB B w0) w w' := by
 obtain ⟨Fm, Ft, Fk, h1, h2, h3, h4⟩ := h
 obtain ⟨Fm', Ft', Fk', g1, g2, g3⟩ := hp Fm Ft Fk h1
 have hk : Kp (KB B w0) w w' := g2.mono h2
 have hs := h4.size
 refine ⟨⟨Fm', Ft', Fk', g1, fun k y => ?_, fun k y => ⟨Nat.lt_of_lt_of_le (h3 k y).1 hk.size, (h3 k y).2⟩, hk.toBelow h4 hs (fun k y => y.2)⟩, hk⟩
 rcases g3 k y with z | z
 ·exact h2 k z
 ·exact ⟨fun b => by have := (h3 k b).1; omega, by omega⟩
theorem MB.calls {f : Nat} {args : Array Value} {R : Value} (h : MB x m pt pk pv s B w0 w) (hc : ∀ Fm Ft Fk, MmuD x m pt pk pv Fm Ft Fk s w → Calls Tryz.prog f args w fun e w' => e = .returned R ∧ MmuPost x m pt pk pv Fm Ft Fk s' w w') :
  Calls Tryz.prog f args w fun e w' => e = .returned R ∧ MB x m pt pk pv s' B w0 w' ∧ Kp (KB B w0) w w' := by
 have h0 := h
 obtain ⟨Fm, Ft, Fk, h1, h2, h3, h4⟩ := h
 refine (hc Fm Ft Fk h1).mono ?_
 rintro e w' ⟨rfl, g⟩
 have h5 : ∃ Fm' Ft' Fk', MmuD x m pt pk pv Fm' Ft' Fk' s' w' ∧ Kp (MmuF x pt pk Fm Ft Fk) w w' ∧ ∀ k, MmuF x pt pk Fm' Ft' Fk' k → MmuF x pt pk Fm Ft Fk k ∨ w.heap.size ≤ k := g
 obtain ⟨Fm', Ft', Fk', g1, g2, g3⟩ := h5
 have hk : Kp (KB B w0) w w' := g2.mono h2
 have hs := h4.size
 refine ⟨rfl, ⟨Fm', Ft', Fk', g1, fun k y => ?_, fun k y => ⟨Nat.lt_of_lt_of_le (h3 k y).1 hk.size, (h3 k y).2⟩, hk.toBelow h4 hs (fun k y => y.2)⟩, hk⟩
 rcases g3 k y with z | z
 ·exact h2 k z
 ·exact ⟨fun b => by have := (h3 k b).1; omega, by omega⟩
theorem MB.of (h : MB x m pt pk pv s B w0 w) {P : Prop} (hc : ∀ Fm Ft Fk, MmuD x m pt pk pv Fm Ft Fk s w → P) : P := by
 obtain ⟨Fm, Ft, Fk, h1, _⟩ := h
 exact hc Fm Ft Fk h1
/-- A block of the caller's, behind a step. -/
theorem Box.mb {g : Nat} {cs : List Value} (h : Box w g cs) (hk : Kp (KB B w0) w w') (hg : B g) : Box w' g cs := h.kept hk (fun y => y.1 hg)
theorem MB.set (h : MB x m pt pk pv s B w0 w) (v : Nat) (hv : v < 18446744073709551616) :
  Calls Tryz.prog 9 #[.pointer (some ⟨x, 0, none⟩), .int .u64 v] w fun e w' => e = .returned (.int .i64 (setP s v).1) ∧ MB x m pt pk pv (setP s v).2 B w0 w' ∧ Kp (KB B w0) w w' :=
 h.calls fun _ _ _ hd => mset_nat hd v hv
theorem MB.access (h : MB x m pt pk pv s B w0 w) (kind : Int) (va wd : Nat) (hv : va < 18446744073709551616) (hwd : wd < 18446744073709551616) (fill led keep : Bool) :
  Calls Tryz.prog 21 #[.pointer (some ⟨x, 0, none⟩), .int .i64 kind, .int .u64 va, .int .u64 wd, .agg #[.bool fill, .bool led, .bool keep]] w fun e w' => e = .returned (.agg #[.int .i64 (accessM s kind va wd fill led keep).1.1.1, .int .i64 (accessM s kind va wd fill led keep).1.1.2, .int .u64 (accessM s kind va wd fill led keep).1.2]) ∧ MB x m pt pk pv (accessM s kind va wd fill led keep).2 B w0 w' ∧ Kp (KB B w0) w w' :=
 h.calls fun _ _ _ hd => access_nat hd kind va wd hv hwd fill led keep
theorem MB.flushVa (h : MB x m pt pk pv s B w0 w) (asid : Int) (va : Nat) (hv : va < 18446744073709551616) :
  Calls Tryz.prog 27 #[.pointer (some ⟨x, 0, none⟩), .int .i64 asid, .int .u64 va] w fun e w' => e = .returned (.tuple #[]) ∧ MB x m pt pk pv (flushVaM s asid va) B w0 w' ∧ Kp (KB B w0) w w' :=
 h.calls fun _ _ _ hd => mflushva_nat hd asid va hv
theorem MB.memory (h : MB x m pt pk pv s B w0 w) : Calls Tryz.prog 19 #[.pointer (some ⟨x, 0, none⟩)] w fun e w' => e = .returned (.pointer (some ⟨m, 0, none⟩)) ∧ w' = w := h.of fun _ _ _ hd => mmemory_nat hd
theorem MB.sound (h : MB x m pt pk pv s B w0 w) : Calls Tryz.prog 17 #[.pointer (some ⟨x, 0, none⟩)] w fun e w' => e = .returned (.bool (soundM s)) ∧ Below w.heap.size w w' := h.of fun _ _ _ hd => msound_nat hd
theorem MB.write (h : MB x m pt pk pv s B w0 w) (at_ v : Nat) (ha : at_ < 18446744073709551616) (hv : v < 18446744073709551616) :
  Calls Tryz.prog 29 #[.pointer (some ⟨m, 0, none⟩), .int .u64 at_, .int .u64 v] w fun e w' => e = .returned (.int .i64 (mayP s.sz at_)) ∧ MB x m pt pk pv { s with rd := writeP s.sz s.rd at_ v } B w0 w' ∧ Kp (KB B w0) w w' :=
 h.calls fun _ _ _ hd => (write_nat hd.mem at_ v hd.ok.szle hd.ok.szal ha hv).mono fun e w' hp => ⟨hp.1, (hd.wrote (Below.refl _ _) hp).1⟩
theorem Opened.mb {Fm Ft Fk : Nat → Prop} {ws : List (Nat × Nat)} {A : Option Addr} {c : Nat} (h : Opened x m pt pk pv Fm Ft Fk s ws A c w w') (hb : Below w0.heap.size w0 w) : ∃ B, MB x m pt pk pv s B w0 w' ∧ RowAt w' B 2 (.slice A ws.length c) ws.length (rowL wL ws) ∧ ∀ k, B k → w.heap.size ≤ k := by
 obtain ⟨h1, ⟨Or, hr, ho⟩, h2, h3⟩ := h
 have hs := hb.size
 refine ⟨fun k => Or k ∧ k < w'.heap.size, ⟨Fm, Ft, Fk, h1, fun k y => ⟨fun z => (ho k z.1).2 y, Nat.le_trans hs (h2 k y)⟩, fun k y => ⟨y.2, Nat.le_trans hs (ho k y.1).1⟩, hb.trans (h3.mono hs)⟩, hr.mono (fun k hk y => ⟨y, hk⟩), fun k y => (ho k y.1).1⟩
end
end Go.Proofs.YtbapgngngaaojaaGreat
