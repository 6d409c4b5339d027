/- Plain: the document's list of words, as a memory. slices.Clone of rows of structs. Lists behind a pointer (tlb, trail): New, List, Find, Best. The walks of tlb.Find and trail.Best. The walk of trail.Best. slices.Delete of one entry. The walks of what a right entry and a right mark are, and of a leaf's physical address. -/
import Derived.Test.YtbapgngngaaojaaGreatG08
import Derived.WalkSpells
import Derived.Deep.RegionLaw
import Derived.StillTailTactics
import Derived.Test.YtbapgngngaaojaaGreatG04
set_option linter.unusedSimpArgs false
set_option linter.unusedVariables false
namespace Go.Proofs.YtbapgngngaaojaaGreat
theorem rd_true (a x b : Nat) : ∀ ws : List (Nat × Nat), rdM (wrGo a x true ws) b = if b = a then 0 else rdM ws b
 | [] => by unfold wrGo; rw [rdM_nil]; split <;> rfl
 | s :: r => by
  unfold wrGo
  by_cases h : s.1 = a
  ·rw [if_pos h, List.nil_append, rd_true a x b r, rdM_cons]
   by_cases hb : b = a
   ·rw [if_pos hb, if_pos hb]
   ·rw [if_neg hb, if_neg hb, if_neg (fun e => hb (by rw [← e, h]))]
  ·rw [if_neg h, List.singleton_append, rdM_cons, rdM_cons, rd_true a x b r]
   by_cases hs : s.1 = b
   ·rw [if_pos hs, if_pos hs, if_neg (fun e => h (by rw [hs, e]))]
   ·rw [if_neg hs, if_neg hs]
theorem rd_false (a x b : Nat) : ∀ ws : List (Nat × Nat), rdM (wrGo a x false ws) b = if b = a then x else rdM ws b
 | [] => by
  unfold wrGo
  by_cases hx : x = 0
  ·rw [if_pos hx, rdM_nil, hx]; split <;> rfl
  ·rw [if_neg hx, rdM_cons]
   by_cases hb : b = a
   ·rw [if_pos hb, if_pos hb.symm]
   ·rw [if_neg hb, if_neg (fun e => hb e.symm)]
 | s :: r => by
  unfold wrGo
  by_cases hle : a ≤ s.1
  ·rw [if_pos hle]
   have ht := rd_true a x b (s :: r)
   unfold wrGo at ht
   by_cases hx : x = 0
   ·rw [if_pos hx, List.nil_append, ht, hx]
   ·rw [if_neg hx, List.singleton_append, List.cons_append, rdM_cons, ht]
    by_cases hb : b = a
    ·rw [if_pos hb.symm, if_pos hb]
    ·rw [if_neg hb, if_neg (fun e => hb e.symm), if_neg hb]
  ·rw [if_neg hle, List.singleton_append, rdM_cons, rdM_cons, rd_false a x b r]
   by_cases hs : s.1 = b
   ·rw [if_pos hs, if_pos hs, if_neg (fun e => by omega)]
   ·rw [if_neg hs, if_neg hs]
/-- Reading behind a write. -/
theorem rdM_wrM (ws : List (Nat × Nat)) (a x b : Nat) : rdM (wrM ws a x) b = if b = a then x else rdM ws b := rd_false a x b ws
/-- No address twice, no word 0; each word lies where it may. -/
def WsOk (sz : Nat) (ws : List (Nat × Nat)) : Prop := (ws.map (·.1)).Nodup ∧ ∀ s ∈ ws, s.2 ≠ 0 ∧ s.2 < 18446744073709551616 ∧ mayP sz s.1 = 0
theorem mem_true (a x : Nat) : ∀ (ws : List (Nat × Nat)) (s : Nat × Nat), s ∈ wrGo a x true ws → s ∈ ws ∧ s.1 ≠ a
 | [], s, h => by unfold wrGo at h; cases h
 | t :: r, s, h => by
  unfold wrGo at h
  rcases List.mem_append.1 h with h | h
  ·split at h
   ·cases h
   ·rename_i hn
    have e : s = t := by simpa using h
    subst e
    exact ⟨List.mem_cons_self, hn⟩
  ·have := mem_true a x r s h
   exact ⟨List.mem_cons_of_mem _ this.1, this.2⟩
theorem mem_false (a x : Nat) : ∀ (ws : List (Nat × Nat)) (s : Nat × Nat), s ∈ wrGo a x false ws → (s = (a, x) ∧ x ≠ 0) ∨ (s ∈ ws ∧ s.1 ≠ a)
 | [], s, h => by
  unfold wrGo at h
  split at h
  ·cases h
  ·rename_i hx; exact .inl ⟨by simpa using h, hx⟩
 | t :: r, s, h => by
  unfold wrGo at h
  by_cases hle : a ≤ t.1
  ·rw [if_pos hle, List.append_assoc] at h
   rcases List.mem_append.1 h with h | h
   ·split at h
    ·cases h
    ·rename_i hx; exact .inl ⟨by simpa using h, hx⟩
   ·exact .inr (mem_true a x (t :: r) s (by unfold wrGo; exact h))
  ·rw [if_neg hle, List.singleton_append] at h
   rcases List.mem_cons.1 h with e | h
   ·subst e; exact .inr ⟨List.mem_cons_self, by omega⟩
   ·rcases mem_false a x r s h with h | h
    ·exact .inl h
    ·exact .inr ⟨List.mem_cons_of_mem _ h.1, h.2⟩
theorem nodup_true (a x : Nat) : ∀ ws : List (Nat × Nat), (ws.map (·.1)).Nodup → ((wrGo a x true ws).map (·.1)).Nodup
 | [], _ => by unfold wrGo; exact List.nodup_nil
 | t :: r, h => by
  rw [List.map_cons, List.nodup_cons] at h
  unfold wrGo
  split
  ·exact nodup_true a x r h.2
  ·rw [List.singleton_append, List.map_cons, List.nodup_cons]
   refine ⟨fun hm => h.1 ?_, nodup_true a x r h.2⟩
   obtain ⟨s, hs, e⟩ := List.mem_map.1 hm
   exact List.mem_map.2 ⟨s, (mem_true a x r s hs).1, e⟩
theorem nodup_false (a x : Nat) : ∀ ws : List (Nat × Nat), (ws.map (·.1)).Nodup → ((wrGo a x false ws).map (·.1)).Nodup
 | [], _ => by unfold wrGo; split <;> simp
 | t :: r, h => by
  by_cases hle : a ≤ t.1
  ·have ht := nodup_true a x (t :: r) h
   have hm := mem_true a x (t :: r)
   have e : wrGo a x false (t :: r) = (if x = 0 then [] else [(a, x)]) ++ wrGo a x true (t :: r) := by
    conv => lhs; unfold wrGo
    rw [if_pos hle, List.append_assoc]
    conv => rhs; unfold wrGo
   rw [e]
   split
   ·exact ht
   ·rw [List.singleton_append, List.map_cons, List.nodup_cons]
    refine ⟨fun hq => ?_, ht⟩
    obtain ⟨s, hs, e⟩ := List.mem_map.1 hq
    exact (hm s hs).2 e
  ·unfold wrGo
   rw [if_neg hle, List.singleton_append, List.map_cons, List.nodup_cons]
   rw [List.map_cons, List.nodup_cons] at h
   refine ⟨fun hq => ?_, nodup_false a x r h.2⟩
   obtain ⟨s, hs, e⟩ := List.mem_map.1 hq
   rcases mem_false a x r s hs with h2 | h2
   ·rw [h2.1] at e; dsimp only at e; omega
   ·exact h.1 (List.mem_map.2 ⟨s, h2.1, e⟩)
theorem WsOk.write {sz : Nat} {ws : List (Nat × Nat)} (h : WsOk sz ws) {a x : Nat} (ha : mayP sz a = 0) (hx : x < 18446744073709551616) : WsOk sz (wrM ws a x) := by
 refine ⟨nodup_false a x ws h.1, fun s hs => ?_⟩
 rcases mem_false a x ws s hs with ⟨e, h2⟩ | h2
 ·subst e; exact ⟨h2, hx, ha⟩
 ·exact h.2 s h2.1
theorem WsOk.rd {sz : Nat} : ∀ {ws : List (Nat × Nat)}, WsOk sz ws → ∀ s ∈ ws, rdM ws s.1 = s.2
 | [], _, s, hs => by cases hs
 | t :: r, h, s, hs => by
  rw [rdM_cons]
  have hn := h.1
  rw [List.map_cons, List.nodup_cons] at hn
  rcases List.mem_cons.1 hs with e | hs
  ·subst e; rw [if_pos rfl]
  ·rw [if_neg (fun e => hn.1 (List.mem_map.2 ⟨s, hs, e.symm⟩))]
   exact WsOk.rd (ws := r) ⟨hn.2, fun y hy => h.2 y (List.mem_cons_of_mem _ hy)⟩ s hs
theorem WsOk.nil (sz : Nat) : WsOk sz [] := ⟨List.nodup_nil, fun s hs => by cases hs⟩
theorem WsOk.lt {sz : Nat} {ws : List (Nat × Nat)} (h : WsOk sz ws) (a : Nat) : rdM ws a < 18446744073709551616 := by
 unfold rdM
 cases hf : ws.find? (fun s => s.1 == a) with
 | none => simp
 | some s => exact (h.2 s (List.mem_of_find?_eq_some hf)).2.1
end Go.Proofs.YtbapgngngaaojaaGreat
namespace Go.Proofs.YtbapgngngaaojaaGreat
open Go.RowKit Go.Lib
set_option maxRecDepth 100000
theorem infoE : (Tryz.prog.info? 119).map (fun i => (i.zero, i.size, i.bytes)) = some (some (.agg #[.int .i64 0, .int .u64 0, .int .i64 0, .int .i64 0, .int .u64 0, .bool false, .bool false, .bool false, .bool false, .int .i64 0]), 10, 56) := by kernel_rfl
theorem infoM : (Tryz.prog.info? 121).map (fun i => (i.zero, i.size, i.bytes)) = some (some (.agg #[.int .i64 0, .int .u64 0, .int .i64 0, .int .u64 0]), 4, 32) := by kernel_rfl
theorem row_one {α : Type} {f : α → List Value} (h : ∀ x, ∀ u ∈ f x, u.oneCell' = true) (l : List α) : ∀ u ∈ rowL f l, u.oneCell' = true := by
 intro u hu
 obtain ⟨x, _, hx⟩ := List.mem_flatMap.1 hu
 exact h x u hx
theorem eL_one (e : Ent) : ∀ u ∈ eL e, u.oneCell' = true := by
 intro u hu
 simp only [eL, List.mem_cons, List.not_mem_nil, or_false] at hu
 rcases hu with rfl | rfl | rfl | rfl | rfl | rfl | rfl | rfl | rfl | rfl <;> rfl
theorem mL_one (k : Mk) : ∀ u ∈ mL k, u.oneCell' = true := by
 intro u hu
 simp only [mL, List.mem_cons, List.not_mem_nil, or_false] at hu
 rcases hu with rfl | rfl | rfl | rfl <;> rfl
/-- What a copy of a row is. -/
def ClonePost {α : Type} (f : α → List Value) (l : List α) (w : World) (e : Ending) (w' : World) : Prop :=
 ∃ A c, e = .returned (.slice A l.length c) ∧ RdRow w' (.slice A l.length c) l.length (rowL f l) ∧ Below w.heap.size w w'
theorem empty_row (w : World) (ok : Nat → Prop) (size : Nat) (t : TypeId) (hok : ok w.heap.size) : RowAt (w.alloc (.cells #[] t)) ok size (.slice (some ⟨w.heap.size, 0, none⟩) 0 0) 0 [] :=
 ⟨by simp, .inr ⟨w.heap.size, 0, 0, rfl, hok, by simp, Nat.le_refl _, by unfold maxLen; omega, (by intro j v hj; simp at hj), (by intro j hj; omega)⟩⟩
set_option maxHeartbeats 400000 in
theorem eclone_nat {ok : Nat → Prop} {v : Value} (l : List Ent) (w : World) (hn : l.length ≤ 1000) (h : RowAt w ok 10 v l.length (rowL eL l)) :
  Calls Tryz.prog 99 #[v] w (ClonePost eL l w) := by
 obtain ⟨i0, hi0, hz0, hz1, hz2⟩ := info_parts infoE
 have I0 := Lib.hid hi0
 have I1 := Lib.hid hz0
 have I2 := Lib.hid hz1
 have I3 := Lib.hid hz2
 have HN := Lib.hid hn
 clear hi0 hz0 hz1 hz2 hn
 have hnil := fun (w : World) (a : Option Addr) (n c : Nat) => Lib.run_eql_slice_nil (P := Tryz.prog) w 113 119 a n c 0 0 Tryz.underlying113
 rcases h.2 with ⟨rfl, h0⟩ | ⟨g, o, cap, rfl, _, hg, hle, hcm, hr, _⟩
 ·obtain rfl : l = [] := List.eq_nil_of_length_eq_zero h0
  go_enter Tryz.func99, Tryz.ntmps99
  go_wp2
  go_ret
  exact ⟨none, 0, rfl, ⟨none, 0, rfl, fun h => by simp at h⟩, Below.refl _ _⟩
 ·have HR := Lib.hid hr
  have HL : Hid ((rowL eL l).length = l.length * 10) := rowL_len eL 10 eL_len l
  clear hr h hle hcm
  go_enter Tryz.func99, Tryz.ntmps99
  go_wp2_with (at_builtin; refine wpList_append_row (by rfl) _ _ 113 (by rfl) 119 i0 (.agg #[.int .i64 0, .int .u64 0, .int .i64 0, .int .i64 0, .int .u64 0, .bool false, .bool false, .bool false, .bool false, .int .i64 0]) 10 56 Tryz.underlying113 I0.out I1.out I2.out I3.out rfl (by omega) (fun k => w.heap.size ≤ k) (.slice (some ⟨w.heap.size, 0, none⟩) 0 0) 0 [] (by rfl) (empty_row w _ _ _ (Nat.le_refl _)) ⟨g, o, none⟩ l.length cap (rowL eL l) (by rfl) (by omega) HL.out (by intro j u hu; rw [Addr.add_mid]; exact keep_cell (below1 w _) (HR.out j u hu)) (row_one eL_one l) (by have := HN.out; unfold maxLen; omega) (by have := HN.out; omega) ?_; intro A1 c1 W hrow hkp)
  go_ret
  have hb : Below w.heap.size w W := hkp.toBelow (below1 w _) (below1 w _).size (fun k h => h)
  simp only [Nat.zero_add, List.nil_append] at hrow ⊢
  exact ⟨A1, c1, rfl, hrow.rd, hb⟩
set_option maxHeartbeats 400000 in
theorem mclone_nat {ok : Nat → Prop} {v : Value} (l : List Mk) (w : World) (hn : l.length ≤ 1000) (h : RowAt w ok 4 v l.length (rowL mL l)) :
  Calls Tryz.prog 100 #[v] w (ClonePost mL l w) := by
 obtain ⟨i0, hi0, hz0, hz1, hz2⟩ := info_parts infoM
 have I0 := Lib.hid hi0
 have I1 := Lib.hid hz0
 have I2 := Lib.hid hz1
 have I3 := Lib.hid hz2
 have HN := Lib.hid hn
 clear hi0 hz0 hz1 hz2 hn
 have hnil := fun (w : World) (a : Option Addr) (n c : Nat) => Lib.run_eql_slice_nil (P := Tryz.prog) w 115 121 a n c 0 0 Tryz.underlying115
 rcases h.2 with ⟨rfl, h0⟩ | ⟨g, o, cap, rfl, _, hg, hle, hcm, hr, _⟩
 ·obtain rfl : l = [] := List.eq_nil_of_length_eq_zero h0
  go_enter Tryz.func100, Tryz.ntmps100
  go_wp2
  go_ret
  exact ⟨none, 0, rfl, ⟨none, 0, rfl, fun h => by simp at h⟩, Below.refl _ _⟩
 ·have HR := Lib.hid hr
  have HL : Hid ((rowL mL l).length = l.length * 4) := rowL_len mL 4 mL_len l
  clear hr h hle hcm
  go_enter Tryz.func100, Tryz.ntmps100
  go_wp2_with (at_builtin; refine wpList_append_row (by rfl) _ _ 115 (by rfl) 121 i0 (.agg #[.int .i64 0, .int .u64 0, .int .i64 0, .int .u64 0]) 4 32 Tryz.underlying115 I0.out I1.out I2.out I3.out rfl (by omega) (fun k => w.heap.size ≤ k) (.slice (some ⟨w.heap.size, 0, none⟩) 0 0) 0 [] (by rfl) (empty_row w _ _ _ (Nat.le_refl _)) ⟨g, o, none⟩ l.length cap (rowL mL l) (by rfl) (by omega) HL.out (by intro j u hu; rw [Addr.add_mid]; exact keep_cell (below1 w _) (HR.out j u hu)) (row_one mL_one l) (by have := HN.out; unfold maxLen; omega) (by have := HN.out; omega) ?_; intro A1 c1 W hrow hkp)
  go_ret
  have hb : Below w.heap.size w W := hkp.toBelow (below1 w _) (below1 w _).size (fun k h => h)
  simp only [Nat.zero_add, List.nil_append] at hrow ⊢
  exact ⟨A1, c1, rfl, hrow.rd, hb⟩
end Go.Proofs.YtbapgngngaaojaaGreat
namespace Go.Proofs.YtbapgngngaaojaaGreat
open Go.RowKit Go.Lib
set_option maxRecDepth 100000
/-- An object at block p: how many at most, and a list, in rows of F. -/
def ListAt {α : Type} (f : α → List Value) (sz : Nat) (F : Nat → Prop) (p most : Nat) (l : List α) (w : World) : Prop :=
 ¬ F p ∧ (∀ k, F k → k < w.heap.size) ∧ w.cell? ⟨p, 0, none⟩ = some (.int .i64 most) ∧ w.frozen? ⟨p, 1, none⟩ = false ∧ ∃ v, w.cell? ⟨p, 1, none⟩ = some v ∧ RowAt w F sz v l.length (rowL f l)
section
variable {α : Type} {f : α → List Value} {sz : Nat} {F G F2 : Nat → Prop} {p most : Nat} {l : List α} {w w' : World}
theorem ListAt.kept (h : ListAt f sz F p most l w) (hk : Kp G w w') (hp : ¬ G p) (hF : ∀ k, F k → ¬ G k) : ListAt f sz F p most l w' := by
 obtain ⟨h0, h1, h2, h3, v, h4, h5⟩ := h
 exact ⟨h0, fun k hF => Nat.lt_of_lt_of_le (h1 k hF) hk.size, hk.cell h2 hp, (hk.frozen (World.block_lt_of_cell? w _ h2) hp).trans h3, v, hk.cell h4 hp, h5.kept hk hF⟩
theorem ListAt.below (h : ListAt f sz F p most l w) (hb : Below w.heap.size w w') : ListAt f sz F p most l w' := h.kept (G := fun _ => False) (.ofBelow hb) (fun x => x) (fun _ _ x => x)
theorem ListAt.lt (h : ListAt f sz F p most l w) : p < w.heap.size := World.block_lt_of_cell? w _ h.2.2.1
theorem ListAt.mono (h : ListAt f sz F p most l w) (hs : ∀ k, k < w.heap.size → F k → F2 k) (hp : ¬ F2 p) (hb : ∀ k, F2 k → k < w.heap.size) : ListAt f sz F2 p most l w := by
 obtain ⟨h0, h1, h2, h3, v, h4, h5⟩ := h
 exact ⟨hp, hb, h2, h3, v, h4, h5.mono hs⟩
/-- The object at its row's value. -/
theorem ListAt.open (h : ListAt f sz F p most l w) : ∃ A c, w.cell? ⟨p, 0, none⟩ = some (.int .i64 most) ∧ w.frozen? ⟨p, 1, none⟩ = false ∧ w.cell? ⟨p, 1, none⟩ = some (.slice A l.length c) ∧ RowAt w F sz (.slice A l.length c) l.length (rowL f l) := by
 obtain ⟨h0, h1, h2, h3, v, h4, h5⟩ := h
 obtain ⟨A, c, rfl⟩ := h5.form
 exact ⟨A, c, h2, h3, h4, h5⟩
end
theorem Box.put {w : World} {g : Nat} {cs news : List Value} (h : Box w g cs) (hl : news.length = cs.length) : Box (w.setCells g 0 news) g news := by
 have hin := World.cell?_setCells_in g news 0 w (fun j hj => by
  have h1 := h.1 j cs[j] (List.getElem?_eq_getElem (by omega))
  rw [h1]; rfl)
 refine ⟨?_, fun j => by rw [World.frozen?_setCells]; exact h.2.1 j, by rw [size_setCells]; exact h.2.2⟩
 intro j v hv
 have hlt := (List.getElem?_eq_some_iff.1 hv).1
 rw [hin j hlt, ← hv, List.getElem?_eq_getElem hlt]
def zeroE : Ent := ⟨0, 0, 0, zeroD⟩
def zeroM : Mk := ⟨0, 0, 0, 0⟩
def newP (most : Int) : Prop := 1 ≤ most ∧ most ≤ 64
theorem tlbNew_nat (most : Nat) (w : World) (h1 : 1 ≤ most) (h2 : most ≤ 64) :
  Calls Tryz.prog 75 #[.int .i64 most] w fun e w' => e = .returned (.tuple #[.pointer (some ⟨w.heap.size, 0, none⟩), .int .i64 0]) ∧ ListAt eL 10 (fun _ => False) w.heap.size most [] w' ∧ Below w.heap.size w w' := by
 have d1 : decide ((most : Int) < 1) = false := by simp; omega
 have d2 : decide ((64 : Int) < (most : Int)) = false := by simp; omega
 go_enter Tryz.func75, Tryz.ntmps75
 go_wp2
 go_ret2
 exact ⟨rfl, ⟨fun x => x, fun _ x => x.elim, by simp, by simp, .slice none 0 0, by simp, RowAt.nil _ _ _⟩, below1 _ _⟩
theorem tlbNew_nat'_no (most : Int) (w : World) (h : ¬ newP most) :
  Calls Tryz.prog 75 #[.int .i64 most] w fun e w' => e = .returned (.tuple #[.pointer none, .int .i64 12]) ∧ w' = w := by
 by_cases h1 : most < 1
 ·have d1 : decide (most < 1) = true := decide_eq_true h1
  clear h
  go_enter Tryz.func75, Tryz.ntmps75
  go_wp2
  go_ret2
  exact ⟨rfl, rfl⟩
 ·have d1 : decide (most < 1) = false := decide_eq_false h1
  have d2 : decide ((64 : Int) < most) = true := decide_eq_true (by unfold newP at h; omega)
  clear h
  go_enter Tryz.func75, Tryz.ntmps75
  go_wp2
  go_ret2
  exact ⟨rfl, rfl⟩
theorem trailNew_nat (most : Nat) (w : World) (h1 : 1 ≤ most) (h2 : most ≤ 64) :
  Calls Tryz.prog 76 #[.int .i64 most] w fun e w' => e = .returned (.tuple #[.pointer (some ⟨w.heap.size, 0, none⟩), .int .i64 0]) ∧ ListAt mL 4 (fun _ => False) w.heap.size most [] w' ∧ Below w.heap.size w w' := by
 have d1 : decide ((most : Int) < 1) = false := by simp; omega
 have d2 : decide ((64 : Int) < (most : Int)) = false := by simp; omega
 go_enter Tryz.func76, Tryz.ntmps76
 go_wp2
 go_ret2
 exact ⟨rfl, ⟨fun x => x, fun _ x => x.elim, by simp, by simp, .slice none 0 0, by simp, RowAt.nil _ _ _⟩, below1 _ _⟩
theorem trailNew_nat'_no (most : Int) (w : World) (h : ¬ newP most) :
  Calls Tryz.prog 76 #[.int .i64 most] w fun e w' => e = .returned (.tuple #[.pointer none, .int .i64 12]) ∧ w' = w := by
 by_cases h1 : most < 1
 ·have d1 : decide (most < 1) = true := decide_eq_true h1
  clear h
  go_enter Tryz.func76, Tryz.ntmps76
  go_wp2
  go_ret2
  exact ⟨rfl, rfl⟩
 ·have d1 : decide (most < 1) = false := decide_eq_false h1
  have d2 : decide ((64 : Int) < most) = true := decide_eq_true (by unfold newP at h; omega)
  clear h
  go_enter Tryz.func76, Tryz.ntmps76
  go_wp2
  go_ret2
  exact ⟨rfl, rfl⟩
theorem tlbList_nat {F : Nat → Prop} {p most : Nat} {l} {w : World} (h : ListAt eL 10 F p most l w) (hn : l.length ≤ 1000) :
  Calls Tryz.prog 56 #[.pointer (some ⟨p, 0, none⟩)] w (ClonePost eL l w) := by
 obtain ⟨A, c, c0, f1, c1, hrow⟩ := h.open
 have C1 := Lib.hid (eclone_nat l w hn hrow)
 clear hrow h f1
 go_enter Tryz.func56, Tryz.ntmps56
 go_wp2_with fail
 refine C1.out.mono ?_
 rintro e w1 ⟨A2, c2, rfl, h1, h2⟩
 have H1 := Lib.hid h1
 have H2 := Lib.hid h2
 clear h1 h2
 go_wp2
 go_ret
 exact ⟨A2, c2, rfl, H1.out, H2.out⟩
theorem trailList_nat {F : Nat → Prop} {p most : Nat} {l} {w : World} (h : ListAt mL 4 F p most l w) (hn : l.length ≤ 1000) :
  Calls Tryz.prog 57 #[.pointer (some ⟨p, 0, none⟩)] w (ClonePost mL l w) := by
 obtain ⟨A, c, c0, f1, c1, hrow⟩ := h.open
 have C1 := Lib.hid (mclone_nat l w hn hrow)
 clear hrow h f1
 go_enter Tryz.func57, Tryz.ntmps57
 go_wp2_with fail
 refine C1.out.mono ?_
 rintro e w1 ⟨A2, c2, rfl, h1, h2⟩
 have H1 := Lib.hid h1
 have H2 := Lib.hid h2
 clear h1 h2
 go_wp2
 go_ret
 exact ⟨A2, c2, rfl, H1.out, H2.out⟩
end Go.Proofs.YtbapgngngaaojaaGreat
namespace Go.Proofs.YtbapgngngaaojaaGreat
open Go.RowKit Go.Lib
set_option maxRecDepth 100000
def matE (asid : Int) (va : Nat) (x : Ent) : Bool := matchP x.asid x.va x.level asid va
def findP (l : List Ent) (asid : Int) (va : Nat) : Ent × Nat := ((l.find? (matE asid va)).getD zeroE, l.countP (matE asid va))
theorem find_snoc (l : List Ent) (M : Ent → Bool) (x : Ent) : ((l ++ [x]).find? M).getD zeroE = if M x = true ∧ l.countP M = 0 then x else (l.find? M).getD zeroE := by
 rw [List.find?_append]
 cases h : l.find? M with
 | some y =>
  have hc : l.countP M ≠ 0 := by
   have hm := List.mem_of_find?_eq_some h
   have hp := List.find?_some h
   intro e
   rw [List.countP_eq_zero] at e
   exact e y hm hp
  rw [if_neg (fun x => hc x.2)]
  rfl
 | none =>
  have hc : l.countP M = 0 := by
   rw [List.countP_eq_zero]
   intro a ha
   have := List.find?_eq_none.1 h a ha
   exact this
  by_cases hx : M x = true
  ·rw [if_pos ⟨hx, hc⟩]; simp [hx]
  ·rw [if_neg (fun y => hx y.1)]; simp [hx]
theorem set10_eq (w : World) (b : Nat) (v0 v1 v2 v3 v4 v5 v6 v7 v8 v9 : Value) :
  ((((((((((w.setCell ⟨b, 0, none⟩ v0).setCell ⟨b, 1, none⟩ v1).setCell ⟨b, 2, none⟩ v2).setCell ⟨b, 3, none⟩ v3).setCell ⟨b, 4, none⟩ v4).setCell ⟨b, 5, none⟩ v5).setCell ⟨b, 6, none⟩ v6).setCell ⟨b, 7, none⟩ v7).setCell ⟨b, 8, none⟩ v8).setCell ⟨b, 9, none⟩ v9) = w.setCells b 0 [v0, v1, v2, v3, v4, v5, v6, v7, v8, v9] := rfl
theorem set4_eq (w : World) (b : Nat) (v0 v1 v2 v3 : Value) :
  ((((w.setCell ⟨b, 0, none⟩ v0).setCell ⟨b, 1, none⟩ v1).setCell ⟨b, 2, none⟩ v2).setCell ⟨b, 3, none⟩ v3) = w.setCells b 0 [v0, v1, v2, v3] := rfl
def FindPost (R : Ent × Nat) (w : World) (e : Ending) (w' : World) : Prop := e = .returned (.tuple #[eV R.1, .int .i64 R.2]) ∧ Below w.heap.size w w'
theorem take_snoc' {α : Type} (l : List α) (i : Nat) (h : i < l.length) : l.take (i + 1) = l.take i ++ [l[i]] := by
 rw [List.take_succ_eq_append_getElem h]
set_option maxHeartbeats 1000000 in
theorem find_core (l : List Ent) (asid : Int) (va p g o cap : Nat) (w : World) (hn : l.length ≤ 1000) (hl : ∀ x ∈ l, x.level ≤ 3) (hv : va < 18446744073709551616) (c1 : w.cell? ⟨p, 1, none⟩ = some (.slice (some ⟨g, o, none⟩) l.length cap)) (hg : g < w.heap.size) (h : w.rangeAt g o (rowL eL l)) :
  Calls Tryz.prog 64 #[.pointer (some ⟨p, 0, none⟩), .int .i64 asid, .int .u64 va] w (FindPost (findP l asid va) w) := by
 have C1 : Hid (∀ x ∈ l, ∀ w, Calls Tryz.prog 107 #[eV x, .int .i64 asid, .int .u64 va] w fun e w' => e = .returned (.bool (matE asid va x)) ∧ Below w.heap.size w w') := fun x hx w =>
  matches_nat x.asid x.va x.level x.d.kind x.d.out x.d.attr x.d.user x.d.write x.d.exec x.d.used asid va w (hl x hx) hv
 have hplt := World.block_lt_of_cell? w _ c1
 dsimp only at hplt
 unfold findP
 generalize matE asid va = M at *
 have HN := Lib.hid hn
 have H := Lib.hid h
 clear h hn hl hv
 have HFin : Hid (∀ k, k = l.length → (l.take k).find? M = l.find? M ∧ (l.take k).countP M = l.countP M) := fun k e => by subst e; rw [List.take_length]; exact ⟨rfl, rfl⟩
 have HStep : Hid (∀ i (hi : i < l.length), ((l.take (i + 1)).find? M).getD zeroE = (if M l[i] = true ∧ (l.take i).countP M = 0 then l[i] else ((l.take i).find? M).getD zeroE) ∧ (l.take (i + 1)).countP M = (l.take i).countP M + if M l[i] = true then 1 else 0) := fun i hi => by
  rw [take_snoc' l i hi]
  exact ⟨find_snoc _ _ _, by rw [List.countP_append]; simp [List.countP_cons]⟩
 have HCle : Hid (∀ i, (l.take i).countP M ≤ 1000) := fun i => Nat.le_trans List.countP_le_length (Nat.le_trans (List.length_take_le' _ _) HN.out)
 go_enter Tryz.func64, Tryz.ntmps64
 go_wp2
 generalize hW : World.alloc (World.alloc _ _) _ = W
 have HR8 : Hid (Box W w.heap.size (eL zeroE)) := by rw [← hW]; exact (Box.new w (eL zeroE) 119).below (below1 _ _)
 have HQ2 : Hid (Box W (w.heap.size + 1) (eL zeroE)) := by
  rw [← hW]
  have h := Box.new (w.alloc (.cells (eL zeroE).toArray 119)) (eL zeroE) 119
  rw [World.size_alloc] at h
  exact h
 have HB0 : Hid (Below w.heap.size w W) := by rw [← hW]; exact (below1 w _).alloc (by simp) _
 clear hW c1
 go_loopw [9, 17] (fun nv iv wr => ∃ i : Nat, iv = .int .i64 i ∧ i ≤ l.length ∧ nv = .int .i64 ((l.take i).countP M) ∧ Hid (Box wr w.heap.size (eL zeroE)) ∧ Hid (Box wr (w.heap.size + 1) (eL (((l.take i).find? M).getD zeroE))) ∧ Hid (Below w.heap.size w wr)) (fun _ iv _ => l.length - (RowKit.intOf iv).toNat)
 case atStart => exact ⟨0, rfl, by omega, by simp, HR8, HQ2, HB0⟩
 case round =>
  obtain ⟨i, rfl, hi, rfl, HR, HQ, HB⟩ := hrel
  have hn2 : l.length ≤ 1000 := HN.out
  have hcl := HCle.out i
  have hz1 : w.heap.size < wr.heap.size := HR.out.2.2
  have hz2 : w.heap.size + 1 < wr.heap.size := HQ.out.2.2
  by_cases hlt : i < l.length
  ·have hrng : wr.rangeAt g o (rowL eL l) := fun j v hj => (HB.out.cell (p := ⟨g, o + j, none⟩) hg).trans (H.out j v hj)
   have k0 := row_at0 eL_len hrng i hlt _ rfl
   have k1 := row_at eL_len hrng i hlt 1 _ rfl
   have k2 := row_at eL_len hrng i hlt 2 _ rfl
   have k3 := row_at eL_len hrng i hlt 3 _ rfl
   have k4 := row_at eL_len hrng i hlt 4 _ rfl
   have k5 := row_at eL_len hrng i hlt 5 _ rfl
   have k6 := row_at eL_len hrng i hlt 6 _ rfl
   have k7 := row_at eL_len hrng i hlt 7 _ rfl
   have k8 := row_at eL_len hrng i hlt 8 _ rfl
   have k9 := row_at eL_len hrng i hlt 9 _ rfl
   have C2 := Lib.hid (C1.out l[i] (List.getElem_mem hlt))
   have HS := Lib.hid (HStep.out i hlt)
   clear hrng
   generalize ((l.take i).find? M).getD zeroE = fe at *
   generalize (l.take i).countP M = n at *
   generalize l[i] = y at *
   obtain ⟨q, hq⟩ : ∃ q, M y = q := ⟨_, rfl⟩
   rw [hq] at C2 HS
   clear hq
   obtain ⟨ya, yv, yl, ⟨yk, yo, y1, y2, y3, y4, yt⟩⟩ := y
   dsimp only [eV] at C2
   dsimp only at k0 k1 k2 k3 k4 k5 k6 k7 k8 k9
   go_wp2_with fail
   refine (C2.out _).mono ?_
   rintro e w5 ⟨rfl, hb5⟩
   have HB5 : Hid (Below w.heap.size w w5) := HB.out.trans (((below1 wr _).trans (hb5.mono (below1 wr _).size)).mono HB.out.size)
   have HR5 : Hid (Box w5 w.heap.size (eL zeroE)) := (HR.out.below (below1 _ _)).below hb5
   have HQ5 : Hid (Box w5 (w.heap.size + 1) (eL fe)) := (HQ.out.below (below1 _ _)).below hb5
   have e0 : w5.cell? ⟨wr.heap.size, 0, none⟩ = some (.int .i64 ya) := keep_cell hb5 (by simp)
   have e1 : w5.cell? ⟨wr.heap.size, 1, none⟩ = some (.int .u64 yv) := keep_cell hb5 (by simp)
   have e2 : w5.cell? ⟨wr.heap.size, 2, none⟩ = some (.int .i64 yl) := keep_cell hb5 (by simp)
   have e3 : w5.cell? ⟨wr.heap.size, 3, none⟩ = some (.int .i64 yk) := keep_cell hb5 (by simp)
   have e4 : w5.cell? ⟨wr.heap.size, 4, none⟩ = some (.int .u64 yo) := keep_cell hb5 (by simp)
   have e5 : w5.cell? ⟨wr.heap.size, 5, none⟩ = some (.bool y1) := keep_cell hb5 (by simp)
   have e6 : w5.cell? ⟨wr.heap.size, 6, none⟩ = some (.bool y2) := keep_cell hb5 (by simp)
   have e7 : w5.cell? ⟨wr.heap.size, 7, none⟩ = some (.bool y3) := keep_cell hb5 (by simp)
   have e8 : w5.cell? ⟨wr.heap.size, 8, none⟩ = some (.bool y4) := keep_cell hb5 (by simp)
   have e9 : w5.cell? ⟨wr.heap.size, 9, none⟩ = some (.int .i64 yt) := keep_cell hb5 (by simp)
   clear hb5 k0 k1 k2 k3 k4 k5 k6 k7 k8 k9
   have hz5 : w.heap.size + 1 < w5.heap.size := HQ5.out.2.2
   cases q with
   | false =>
    rw [if_neg (by simp), if_neg (by simp)] at HS
    go_wp2
    go_roundw
    case rel => exact ⟨i + 1, by first | rfl | go_num, by omega, by rw [HS.out.2]; rfl, HR5, by rw [Hid, HS.out.1]; exact HQ5.out, HB5⟩
    case measure => simp [RowKit.intOf]; omega
   | true =>
    by_cases hn0 : n = 0
    ·subst hn0
     rw [if_pos ⟨rfl, rfl⟩, if_pos rfl] at HS
     obtain ⟨fa, fv, fl, ⟨fk, fo, f1, f2, f3, f4, ft⟩⟩ := fe
     have BX := HQ5.out
     have q0 := BX.at 0 _ rfl
     have q1 := BX.at 1 _ rfl
     have q2 := BX.at 2 _ rfl
     have q3 := BX.at 3 _ rfl
     have q4 := BX.at 4 _ rfl
     have q5 := BX.at 5 _ rfl
     have q6 := BX.at 6 _ rfl
     have q7 := BX.at 7 _ rfl
     have q8 := BX.at 8 _ rfl
     have q9 := BX.at 9 _ rfl
     have fq := BX.2.1
     clear BX
     go_wp2
     go_roundw
     case rel =>
      rw [set10_eq]
      exact ⟨i + 1, by first | rfl | go_num, by omega, by rw [HS.out.2]; rfl, HR5.out.kept ((Kp.refl (fun k => k = w.heap.size + 1) w5).setCells (.inl rfl) 0 _) (by omega), by rw [Hid, HS.out.1]; exact HQ5.out.put (news := eL ⟨ya, yv, yl, ⟨yk, yo, y1, y2, y3, y4, yt⟩⟩) rfl, below_setCells HB5.out (by omega) 0 _⟩
     case measure => simp [RowKit.intOf]; omega
    ·rw [if_neg (fun h => hn0 h.2), if_pos rfl] at HS
     have hd : ((n : Int) == 0) = false := by simp [hn0]
     clear hn0
     go_wp2
     go_roundw
     case rel => exact ⟨i + 1, by first | rfl | go_num, by omega, by (rw [HS.out.2]; try first | rfl | go_num), HR5, by rw [Hid, HS.out.1]; exact HQ5.out, HB5⟩
     case measure => simp [RowKit.intOf]; omega
  ·have hF := Lib.hid (HFin.out i (by omega))
   generalize hfe : ((l.take i).find? M).getD zeroE = fe at *
   generalize hnn : (l.take i).countP M = n at *
   have HF1 : Hid ((l.find? M).getD zeroE = fe ∧ l.countP M = n) := ⟨by first | (rw [← hF.out.1]; done) | (rw [← hF.out.1]; exact hfe), by first | (rw [← hF.out.2]; done) | (rw [← hF.out.2]; exact hnn)⟩
   clear hfe hnn hF
   obtain ⟨fa, fv, fl, ⟨fk, fo, f1, f2, f3, f4, ft⟩⟩ := fe
   have BX := HQ.out
   have BY := HR.out
   have q0 := BX.at 0 _ rfl
   have q1 := BX.at 1 _ rfl
   have q2 := BX.at 2 _ rfl
   have q3 := BX.at 3 _ rfl
   have q4 := BX.at 4 _ rfl
   have q5 := BX.at 5 _ rfl
   have q6 := BX.at 6 _ rfl
   have q7 := BX.at 7 _ rfl
   have q8 := BX.at 8 _ rfl
   have q9 := BX.at 9 _ rfl
   have fq := BX.2.1
   have r0 := BY.at 0 _ rfl
   have r1 := BY.at 1 _ rfl
   have r2 := BY.at 2 _ rfl
   have r3 := BY.at 3 _ rfl
   have r4 := BY.at 4 _ rfl
   have r5 := BY.at 5 _ rfl
   have r6 := BY.at 6 _ rfl
   have r7 := BY.at 7 _ rfl
   have r8 := BY.at 8 _ rfl
   have r9 := BY.at 9 _ rfl
   have fr := BY.2.1
   clear BX BY
   go_wp2
   refine bodyPost_ret (v := .tuple #[eV ⟨fa, fv, fl, ⟨fk, fo, f1, f2, f3, f4, ft⟩⟩, .int .i64 n]) ?_ rfl ?_
   ·simp [results, Tryz.results64, go_sem, hz1, hz2, q0, q1, q2, q3, q4, q5, q6, q7, q8, q9, r0, r1, r2, r3, r4, r5, r6, r7, r8, r9, eV]
   ·rw [set10_eq]
    exact ⟨by rw [HF1.out.1, HF1.out.2], below_setCells HB.out (Nat.le_refl _) 0 _⟩
theorem find_nat {F : Nat → Prop} {p most : Nat} {l : List Ent} {w : World} (h : ListAt eL 10 F p most l w) (hn : l.length ≤ 1000) (hl : ∀ x ∈ l, x.level ≤ 3) (asid : Int) (va : Nat) (hv : va < 18446744073709551616) :
  Calls Tryz.prog 64 #[.pointer (some ⟨p, 0, none⟩), .int .i64 asid, .int .u64 va] w (FindPost (findP l asid va) w) := by
 obtain ⟨A, c, c0, f1, c1, hrow⟩ := h.open
 rcases hrow.2 with ⟨e, h0⟩ | ⟨g, o, cap, e, _, hg, _, _, hr, _⟩
 ·obtain ⟨rfl, -, rfl⟩ := Value.slice.inj e
  obtain rfl : l = [] := List.eq_nil_of_length_eq_zero h0
  have hplt := World.block_lt_of_cell? w _ c1
  dsimp only at hplt
  clear hrow h
  go_enter Tryz.func64, Tryz.ntmps64
  go_wp2
  refine wp_loop_rounds 1 ?_
  rw [rounds_succ]
  go_wp2
  refine bodyPost_ret (v := .tuple #[eV zeroE, .int .i64 0]) (by simp [results, Tryz.results64, go_sem, eV, zeroE, zeroD]) rfl ⟨rfl, ?_⟩
  exact (below1 w _).alloc (by simp) _
 ·obtain ⟨rfl, -, rfl⟩ := Value.slice.inj e
  exact find_core l asid va p g o c w hn hl hv c1 hg hr
end Go.Proofs.YtbapgngngaaojaaGreat
namespace Go.Proofs.YtbapgngngaaojaaGreat
open Go.RowKit Go.Lib
set_option maxRecDepth 100000
def leadM (asid : Int) (va : Nat) (x : Mk) : Bool := matchP x.asid x.va (x.level - 1) asid va
def bestStep (M : Mk → Bool) (b k : Mk) : Mk := if M k = true ∧ b.level ≤ k.level then k else b
def bestP (l : List Mk) (asid : Int) (va : Nat) : Mk := l.foldl (bestStep (leadM asid va)) zeroM
def BestPost (R : Mk) (w : World) (e : Ending) (w' : World) : Prop := e = .returned (.tuple #[mV R, .bool (decide (0 < R.level))]) ∧ Below w.heap.size w w'
set_option maxHeartbeats 1000000 in
theorem best_core (l : List Mk) (asid : Int) (va p g o cap : Nat) (w : World) (hn : l.length ≤ 1000) (hl : ∀ x ∈ l, 1 ≤ x.level ∧ x.level ≤ 3) (hv : va < 18446744073709551616) (c1 : w.cell? ⟨p, 1, none⟩ = some (.slice (some ⟨g, o, none⟩) l.length cap)) (hg : g < w.heap.size) (h : w.rangeAt g o (rowL mL l)) :
  Calls Tryz.prog 136 #[.pointer (some ⟨p, 0, none⟩), .int .i64 asid, .int .u64 va] w (BestPost (bestP l asid va) w) := by
 have C1 : Hid (∀ x ∈ l, ∀ w, Calls Tryz.prog 116 #[mV x, .int .i64 asid, .int .u64 va] w fun e w' => e = .returned (.bool (leadM asid va x)) ∧ Below w.heap.size w w') := fun x hx w =>
  leads_nat x.asid x.va x.level x.table asid va w (hl x hx).1 (hl x hx).2 hv
 have hplt := World.block_lt_of_cell? w _ c1
 dsimp only at hplt
 unfold bestP
 generalize leadM asid va = M at *
 have HN := Lib.hid hn
 have H := Lib.hid h
 clear h hn hl hv
 have HFin : Hid (∀ k, k = l.length → (l.take k).foldl (bestStep M) zeroM = l.foldl (bestStep M) zeroM) := fun k e => by subst e; rw [List.take_length]
 have HStep : Hid (∀ i (hi : i < l.length), (l.take (i + 1)).foldl (bestStep M) zeroM = if M l[i] = true ∧ ((l.take i).foldl (bestStep M) zeroM).level ≤ l[i].level then l[i] else (l.take i).foldl (bestStep M) zeroM) := fun i hi => by
  rw [take_snoc' l i hi, List.foldl_append]; rfl
 go_enter Tryz.func136, Tryz.ntmps136
 go_wp2
 generalize hW : World.alloc (World.alloc _ _) _ = W
 have HR8 : Hid (Box W w.heap.size (mL zeroM)) := by rw [← hW]; exact (Box.new w (mL zeroM) 121).below (below1 _ _)
 have HQ2 : Hid (Box W (w.heap.size + 1) (mL zeroM)) := by
  rw [← hW]
  have h := Box.new (w.alloc (.cells (mL zeroM).toArray 121)) (mL zeroM) 121
  rw [World.size_alloc] at h
  exact h
 have HB0 : Hid (Below w.heap.size w W) := by rw [← hW]; exact (below1 w _).alloc (by simp) _
 clear hW c1
 go_loopw [16] (fun iv wr => ∃ i : Nat, iv = .int .i64 i ∧ i ≤ l.length ∧ Hid (Box wr w.heap.size (mL zeroM)) ∧ Hid (Box wr (w.heap.size + 1) (mL ((l.take i).foldl (bestStep M) zeroM))) ∧ Hid (Below w.heap.size w wr)) (fun iv _ => l.length - (RowKit.intOf iv).toNat)
 case atStart => exact ⟨0, rfl, by omega, HR8, HQ2, HB0⟩
 case round =>
  obtain ⟨i, rfl, hi, HR, HQ, HB⟩ := hrel
  have hn2 : l.length ≤ 1000 := HN.out
  have hz1 : w.heap.size < wr.heap.size := HR.out.2.2
  have hz2 : w.heap.size + 1 < wr.heap.size := HQ.out.2.2
  by_cases hlt : i < l.length
  ·have hrng : wr.rangeAt g o (rowL mL l) := fun j v hj => (HB.out.cell (p := ⟨g, o + j, none⟩) hg).trans (H.out j v hj)
   have k0 := row_at0 mL_len hrng i hlt _ rfl
   have k1 := row_at mL_len hrng i hlt 1 _ rfl
   have k2 := row_at mL_len hrng i hlt 2 _ rfl
   have k3 := row_at mL_len hrng i hlt 3 _ rfl
   have C2 := Lib.hid (C1.out l[i] (List.getElem_mem hlt))
   have HS := Lib.hid (HStep.out i hlt)
   clear hrng
   generalize (l.take i).foldl (bestStep M) zeroM = fe at *
   generalize l[i] = y at *
   obtain ⟨q, hq⟩ : ∃ q, M y = q := ⟨_, rfl⟩
   rw [hq] at C2 HS
   clear hq
   obtain ⟨ya, yv, yl, yt⟩ := y
   obtain ⟨fa, fv, fl, ft⟩ := fe
   dsimp only [mV] at C2
   dsimp only at k0 k1 k2 k3 HS
   go_wp2_with fail
   refine (C2.out _).mono ?_
   rintro e w5 ⟨rfl, hb5⟩
   have HB5 : Hid (Below w.heap.size w w5) := HB.out.trans (((below1 wr _).trans (hb5.mono (below1 wr _).size)).mono HB.out.size)
   have HR5 : Hid (Box w5 w.heap.size (mL zeroM)) := (HR.out.below (below1 _ _)).below hb5
   have HQ5 : Hid (Box w5 (w.heap.size + 1) (mL ⟨fa, fv, fl, ft⟩)) := (HQ.out.below (below1 _ _)).below hb5
   have e0 : w5.cell? ⟨wr.heap.size, 0, none⟩ = some (.int .i64 ya) := keep_cell hb5 (by simp)
   have e1 : w5.cell? ⟨wr.heap.size, 1, none⟩ = some (.int .u64 yv) := keep_cell hb5 (by simp)
   have e2 : w5.cell? ⟨wr.heap.size, 2, none⟩ = some (.int .i64 yl) := keep_cell hb5 (by simp)
   have e3 : w5.cell? ⟨wr.heap.size, 3, none⟩ = some (.int .u64 yt) := keep_cell hb5 (by simp)
   clear hb5 k0 k1 k2 k3
   have hz5 : w.heap.size + 1 < w5.heap.size := HQ5.out.2.2
   have BX := HQ5.out
   have q0 := BX.at 0 _ rfl
   have q1 := BX.at 1 _ rfl
   have q2 := BX.at 2 _ rfl
   have q3 := BX.at 3 _ rfl
   have fq := BX.2.1
   clear BX
   cases q with
   | false =>
    rw [if_neg (by simp)] at HS
    go_wp2
    go_roundw
    case rel => exact ⟨i + 1, by first | rfl | go_num, by omega, HR5, by rw [Hid, HS.out]; exact HQ5.out, HB5⟩
    case measure => simp [RowKit.intOf]; omega
   | true =>
    by_cases hle : fl ≤ yl
    ·rw [if_pos ⟨rfl, hle⟩] at HS
     have d1 : decide ((fl : Int) ≤ (yl : Int)) = true := by simp; omega
     have d2 : decide (fl ≤ yl) = true := by simp; omega
     clear hle
     go_wp2
     go_roundw
     case rel =>
      rw [set4_eq]
      exact ⟨i + 1, by first | rfl | go_num, by omega, HR5.out.kept ((Kp.refl (fun k => k = w.heap.size + 1) w5).setCells (.inl rfl) 0 _) (by omega), by rw [Hid, HS.out]; exact HQ5.out.put (news := mL ⟨ya, yv, yl, yt⟩) rfl, below_setCells HB5.out (by omega) 0 _⟩
     case measure => simp [RowKit.intOf]; omega
    ·rw [if_neg (fun h => hle h.2)] at HS
     have d1 : decide ((fl : Int) ≤ (yl : Int)) = false := by simp; omega
     have d2 : decide (fl ≤ yl) = false := by simp; omega
     clear hle
     go_wp2
     go_roundw
     case rel => exact ⟨i + 1, by first | rfl | go_num, by omega, HR5, by rw [Hid, HS.out]; exact HQ5.out, HB5⟩
     case measure => simp [RowKit.intOf]; omega
  ·have hF := Lib.hid (HFin.out i (by omega))
   generalize hfe : (l.take i).foldl (bestStep M) zeroM = fe at *
   have HF1 : Hid (l.foldl (bestStep M) zeroM = fe) := by first | (rw [Hid, ← hF.out]; done) | (rw [Hid, ← hF.out]; exact hfe)
   clear hfe hF
   obtain ⟨fa, fv, fl, ft⟩ := fe
   have BX := HQ.out
   have BY := HR.out
   have q0 := BX.at 0 _ rfl
   have q1 := BX.at 1 _ rfl
   have q2 := BX.at 2 _ rfl
   have q3 := BX.at 3 _ rfl
   have fq := BX.2.1
   have r0 := BY.at 0 _ rfl
   have r1 := BY.at 1 _ rfl
   have r2 := BY.at 2 _ rfl
   have r3 := BY.at 3 _ rfl
   have fr := BY.2.1
   clear BX BY
   go_wp2
   go_region
   go_wp2
   refine bodyPost_ret (v := .tuple #[mV ⟨fa, fv, fl, ft⟩, .bool (decide (0 < fl))]) ?_ rfl ?_
   ·simp [results, Tryz.results136, go_sem, hz1, hz2, q0, q1, q2, q3, r0, r1, r2, r3, mV]
   ·exact ⟨by rw [HF1.out], (below_setCells HB.out (Nat.le_refl _) 0 [.int .i64 fa, .int .u64 fv, .int .i64 fl, .int .u64 ft]).drew⟩
theorem best_nat {F : Nat → Prop} {p most : Nat} {l : List Mk} {w : World} (h : ListAt mL 4 F p most l w) (hn : l.length ≤ 1000) (hl : ∀ x ∈ l, 1 ≤ x.level ∧ x.level ≤ 3) (asid : Int) (va : Nat) (hv : va < 18446744073709551616) :
  Calls Tryz.prog 136 #[.pointer (some ⟨p, 0, none⟩), .int .i64 asid, .int .u64 va] w (BestPost (bestP l asid va) w) := by
 obtain ⟨A, c, c0, f1, c1, hrow⟩ := h.open
 rcases hrow.2 with ⟨e, h0⟩ | ⟨g, o, cap, e, _, hg, _, _, hr, _⟩
 ·obtain ⟨rfl, -, rfl⟩ := Value.slice.inj e
  obtain rfl : l = [] := List.eq_nil_of_length_eq_zero h0
  have hplt := World.block_lt_of_cell? w _ c1
  dsimp only at hplt
  clear hrow h
  go_enter Tryz.func136, Tryz.ntmps136
  go_wp2
  refine wp_loop_rounds 1 ?_
  rw [rounds_succ]
  go_wp2
  go_region
  go_wp2
  refine bodyPost_ret (v := .tuple #[mV zeroM, .bool false]) (by simp [results, Tryz.results136, go_sem, mV, zeroM]) rfl ⟨rfl, ?_⟩
  exact ((below1 w _).alloc (by simp) _).drew
 ·obtain ⟨rfl, -, rfl⟩ := Value.slice.inj e
  exact best_core l asid va p g o c w hn hl hv c1 hg hr
end Go.Proofs.YtbapgngngaaojaaGreat
namespace Go.Proofs.YtbapgngngaaojaaGreat
open Go.RowKit Go.Lib
set_option maxRecDepth 100000
theorem zeroEntry (w : World) : (zeroValue 119).run Tryz.prog w = .ok (.agg #[.int .i64 0, .int .u64 0, .int .i64 0, .int .i64 0, .int .u64 0, .bool false, .bool false, .bool false, .bool false, .int .i64 0]) w := by kernel_rfl
theorem zeroE_one : ∀ u ∈ (Value.agg #[.int .i64 0, .int .u64 0, .int .i64 0, .int .i64 0, .int .u64 0, .bool false, .bool false, .bool false, .bool false, .int .i64 0]).cells.toList, u.oneCell' = true := by
 intro u hu
 have hu' : u ∈ eL ⟨0, 0, 0, ⟨0, 0, false, false, false, false, 0⟩⟩ := hu
 exact eL_one _ u hu'
def DelPost (ok : Nat → Prop) (l : List Ent) (w : World) (e : Ending) (w' : World) : Prop :=
 ∃ A c, e = .returned (.slice A l.length c) ∧ RowAt w' ok 10 (.slice A l.length c) l.length (rowL eL l) ∧ Kp ok w w'
theorem RowAt.drew1 {ok : Nat → Prop} {w : World} {sz n : Nat} {v : Value} {cs : List Value} (h : RowAt w ok sz v n cs) : RowAt w.drew ok sz v n cs := h
theorem RowAt.range {ok : Nat → Prop} {w : World} {sz n g o cap : Nat} {cs : List Value} (h : RowAt w ok sz (.slice (some ⟨g, o, none⟩) n cap) n cs) : w.rangeAt g o cs := by
 rcases h.2 with ⟨e, _⟩ | ⟨g', o', cap', e, _, _, _, _, h5, _⟩
 ·cases e
 ·obtain ⟨e1, _, _⟩ := Value.slice.inj e
  obtain ⟨rfl, rfl, _⟩ := Addr.mk.inj (Option.some.inj e1)
  exact h5
set_option maxHeartbeats 1000000 in
theorem edelete_nat {ok : Nat → Prop} {g o cap : Nat} (l : List Ent) (i : Nat) (w : World) (hn : l.length ≤ 1000) (hi : i < l.length) (hcap : ¬ cap = i + 1) (h : RowAt w ok 10 (.slice (some ⟨g, o, none⟩) l.length cap) l.length (rowL eL l)) :
  Calls Tryz.prog 112 #[.slice (some ⟨g, o, none⟩) l.length cap, .int .i64 i, .int .i64 (i + 1 : Nat)] w (DelPost ok (l.eraseIdx i) w) := by
 obtain ⟨i0, hi0, hz0, hz1, hz2⟩ := info_parts infoE
 have I0 := Lib.hid hi0
 have I1 := Lib.hid hz0
 have I2 := Lib.hid hz1
 clear hi0 hz0 hz1 hz2
 have hle : l.length ≤ cap ∧ cap ≤ maxLen := by
  rcases h.2 with ⟨e, _⟩ | ⟨g', o', cap', e, _, _, h3, h4, _⟩
  ·cases e
  ·obtain ⟨_, _, rfl⟩ := Value.slice.inj e; exact ⟨h3, h4⟩
 obtain ⟨hle, hmax⟩ := hle
 unfold maxLen at hmax
 have HR := Lib.hid h
 have e1 : ((i + 1 : Nat) : Int) = (i : Int) + 1 := by omega
 have hneq : ((i : Int) == (i : Int) + 1) = false := by simp; omega
 clear h
 have HS : Hid (RowAt w ok 10 (.slice (some ⟨g, o, none⟩) i cap) i (rowL eL (l.take i))) := by
  rw [← rowL_take eL 10 eL_len]; exact HR.out.short (by omega)
 have HD : Hid (RowAt w ok 10 (.slice (some ⟨g, o + (i + 1) * 10, none⟩) (l.length - (i + 1)) (cap - (i + 1))) (l.length - (i + 1)) (rowL eL (l.drop (i + 1)))) := by
  rw [← rowL_drop eL 10 eL_len]; exact HR.out.cut (by omega)
 have HE : Hid (l.eraseIdx i = l.take i ++ l.drop (i + 1)) := List.eraseIdx_eq_take_drop_succ l i
 have HEL : Hid ((l.eraseIdx i).length = l.length - 1) := by rw [Hid, List.length_eraseIdx, if_pos hi]
 have hK := Lib.hid (row_one eL_one (l.drop (i + 1)))
 generalize hn' : l.length = n at *
 have HN := Lib.hid hn'
 clear hn'
 rw [e1]
 go_enter Tryz.func112, Tryz.ntmps112
 go_wp2
 have hsi : IntKind.i64.wrap ((i : Int) + 1) = (i : Int) + 1 := IntWalk.i64_in _ (by omega)
 have hc1 : (i : Int) + 1 < cap := by omega
 have f1 : i ≤ cap := by omega
 have b0 : (0 : Int) ≤ (i : Int) + 1 := by omega
 have b1 : (i : Int) + 1 ≤ n := by omega
 have f2 : i + 1 ≤ n := by omega
 have f3 : i + 1 ≤ cap := by omega
 go_region_law ((refine step_append_room_row (by rfl) _ _ 113 (by rfl) 119 i0 10 Tryz.underlying113 I0.out I2.out ok g o cap i (rowL eL (l.take i)) (by rfl) (by exact HS.out.drew1) ⟨g, o + (i + 1) * 10, none⟩ (n - (i + 1)) (cap - (i + 1)) (rowL eL (l.drop (i + 1))) (by rfl) (HD.out.1) (by intro j u hu; rw [Addr.add_mid]; exact HD.out.range j u hu) hK.out (by omega) ?_; intro W hW hrow2))
 all_goals
  have HW0 : Hid (Kp ok w (w.drew.setCells g (o + i * 10) (rowL eL (l.drop (i + 1))))) := by
   rcases HR.out.2 with ⟨e, _⟩ | ⟨g', o', cap', e, r1, _⟩
   ·cases e
   ·obtain ⟨e1, _, _⟩ := Value.slice.inj e
    obtain ⟨rfl, rfl, _⟩ := Addr.mk.inj (Option.some.inj e1)
    exact ((Kp.refl ok w).drew).setCells (.inl r1) _ _
  rw [← hW] at HW0
  have HR2 := Lib.hid hrow2
  try simp only [← hW]
  clear hW hrow2 hsi
  have hm1 : i + (n - (i + 1)) + 1 = n := by omega
  have hm2 : i + (n - (i + 1)) + 1 ≤ cap := by omega
  have hm3 : ((i + (n - (i + 1)) : Nat) : Int) ≤ n := by omega
  have hm4 : ¬ cap = i + (n - (i + 1)) := by omega
  generalize i + (n - (i + 1)) = m1 at *
  have HM1 := Lib.hid hm1
  have hn3 : (n : Int) = (m1 : Int) + 1 := by omega
  have hm5 : (m1 : Int) ≤ (n : Int) := by omega
  have hm6 : (n : Int) ≤ (cap : Int) := by omega
  clear hm1 hn3
  have hm7 : 0 < n - m1 := by have := HM1.out; omega
  have hm8 : m1 + (n - m1) ≤ cap := by have := HM1.out; omega
  have HSZ : Hid (m1 = (l.eraseIdx i).length) := by have := HM1.out; rw [Hid, HEL.out]; omega
  go_wp2_with (refine wpList_clear_row (by rfl) (.tmp 31) 113 (by rfl) 119 _ 10 Tryz.underlying113 zeroEntry rfl zeroE_one ok g o cap m1 0 (n - m1) (cap - m1) (rowL eL (l.take i) ++ rowL eL (l.drop (i + 1))) HR2.out (by rfl) hm7 hm8 ?_; intro W3 hrow3 hkp3)
  go_ret
  have hrow4 : RowAt W3 ok 10 (.slice (some ⟨g, o, none⟩) m1 cap) m1 (rowL eL (l.eraseIdx i)) := by rw [HE.out, rowL_append]; exact hrow3
  rw [HSZ.out] at hrow4
  exact ⟨_, _, by rw [← HSZ.out]; rfl, hrow4, HW0.out.trans hkp3 (fun k h => .inl h)⟩
end Go.Proofs.YtbapgngngaaojaaGreat
namespace Go.Proofs.YtbapgngngaaojaaGreat
open Go.RowKit Go.Lib
set_option maxRecDepth 100000
set_option maxHeartbeats 2000000 in
theorem entry_right (ea ev el K out attr : Nat) (b1 b2 b3 : Bool) (w : World) (h1 : ea < 256) (h2 : 1 ≤ el) (h3 : el ≤ 3) (hv : ev < 281474976710656) (hbase : baseP ev el = ev) (hk : K = 2 ∨ K = 3) (hr : rightL ⟨K, out, b1, b2, b3, true, attr⟩ el = true) :
  Calls Tryz.prog 138 #[.agg #[.int .i64 ea, .int .u64 ev, .int .i64 el, .int .i64 K, .int .u64 out, .bool b1, .bool b2, .bool b3, .bool true, .int .i64 attr]] w fun e w' => e = .returned (.bool true) ∧ Below w.heap.size w w' := by
 have hl : lowB ev = true := by unfold lowB; simp; omega
 have ho : out < 18446744073709551616 := by
  unfold rightL at hr; simp only [Bool.and_eq_true, decide_eq_true_eq] at hr; omega
 have C1 := Lib.hid (fun w => low_nat ev w)
 have C2 := Lib.hid (fun w => vbase_nat ev el w h3 (by omega))
 have C3 := Lib.hid (fun w => right_leaf K out attr el b1 b2 b3 true w hk h3 ho)
 rw [hl] at C1
 rw [hbase] at C2
 rw [hr] at C3
 have e1 : decide ((ea : Int) < 0) = false := by simp
 have e2 : decide ((256 : Int) ≤ (ea : Int)) = false := by simp; omega
 have e3 : decide ((el : Int) < 1) = false := by simp; omega
 have e4 : decide ((4 : Int) ≤ (el : Int)) = false := by simp; omega
 have e5 : ((ev : Int) == (ev : Int)) = true := by simp
 clear hl hbase hr ho hv
 rcases hk with rfl | rfl
 case inl =>
  go_enter Tryz.func138, Tryz.ntmps138
  go_wp2_with fail
  generalize hW : World.alloc _ _ = W
  have m1 : W.cell? ⟨w.heap.size, 1, none⟩ = some (.int .u64 ev) := by rw [← hW]; simp
  have m2 : W.cell? ⟨w.heap.size, 2, none⟩ = some (.int .i64 el) := by rw [← hW]; simp
  have m3 : W.cell? ⟨w.heap.size, 3, none⟩ = some (.int .i64 2) := by rw [← hW]; simp
  have m4 : W.cell? ⟨w.heap.size, 4, none⟩ = some (.int .u64 out) := by rw [← hW]; simp
  have m5 : W.cell? ⟨w.heap.size, 5, none⟩ = some (.bool b1) := by rw [← hW]; simp
  have m6 : W.cell? ⟨w.heap.size, 6, none⟩ = some (.bool b2) := by rw [← hW]; simp
  have m7 : W.cell? ⟨w.heap.size, 7, none⟩ = some (.bool b3) := by rw [← hW]; simp
  have m8 : W.cell? ⟨w.heap.size, 8, none⟩ = some (.bool true) := by rw [← hW]; simp
  have m9 : W.cell? ⟨w.heap.size, 9, none⟩ = some (.int .i64 attr) := by rw [← hW]; simp
  have hC : CtxB w W := hW ▸ below1 w _
  clear hW
  go_region_held3 (fun u => u.cell? ⟨w.heap.size, 1, none⟩ = some (.int .u64 ev) ∧ u.cell? ⟨w.heap.size, 2, none⟩ = some (.int .i64 el) ∧ u.cell? ⟨w.heap.size, 3, none⟩ = some (.int .i64 2) ∧ u.cell? ⟨w.heap.size, 4, none⟩ = some (.int .u64 out) ∧ u.cell? ⟨w.heap.size, 5, none⟩ = some (.bool b1) ∧ u.cell? ⟨w.heap.size, 6, none⟩ = some (.bool b2) ∧ u.cell? ⟨w.heap.size, 7, none⟩ = some (.bool b3) ∧ u.cell? ⟨w.heap.size, 8, none⟩ = some (.bool true) ∧ u.cell? ⟨w.heap.size, 9, none⟩ = some (.int .i64 attr) ∧ CtxB w u)
   (first | assumption | exact ⟨drew_cell m1, drew_cell m2, drew_cell m3, drew_cell m4, drew_cell m5, drew_cell m6, drew_cell m7, drew_cell m8, drew_cell m9, hC.drew⟩ | (go_split_ands; exact ⟨keep_cell hb5 (by assumption), keep_cell hb5 (by assumption), keep_cell hb5 (by assumption), keep_cell hb5 (by assumption), keep_cell hb5 (by assumption), keep_cell hb5 (by assumption), keep_cell hb5 (by assumption), keep_cell hb5 (by assumption), keep_cell hb5 (by assumption), CtxB.next (by assumption) hb5⟩))
   (first | (go_at_call 133; refine (C1.out _).mono ?_; rintro e w' ⟨rfl, rfl⟩) | (go_at_call 111; refine (C2.out _).mono ?_; rintro e w' ⟨rfl, rfl⟩) | (go_at_call 131; refine (C3.out _).mono ?_; rintro e w5 ⟨rfl, hb5⟩))
  go_split_ands
  have HB : Hid (Below w.heap.size w w5) := CtxB.out (by assumption)
  clear m1 m2 m3 m4 m5 m6 m7 m8 m9 hC
  go_wp2
  go_ret
  exact ⟨rfl, HB.out⟩
 case inr =>
  go_enter Tryz.func138, Tryz.ntmps138
  go_wp2_with fail
  generalize hW : World.alloc _ _ = W
  have m1 : W.cell? ⟨w.heap.size, 1, none⟩ = some (.int .u64 ev) := by rw [← hW]; simp
  have m2 : W.cell? ⟨w.heap.size, 2, none⟩ = some (.int .i64 el) := by rw [← hW]; simp
  have m3 : W.cell? ⟨w.heap.size, 3, none⟩ = some (.int .i64 3) := by rw [← hW]; simp
  have m4 : W.cell? ⟨w.heap.size, 4, none⟩ = some (.int .u64 out) := by rw [← hW]; simp
  have m5 : W.cell? ⟨w.heap.size, 5, none⟩ = some (.bool b1) := by rw [← hW]; simp
  have m6 : W.cell? ⟨w.heap.size, 6, none⟩ = some (.bool b2) := by rw [← hW]; simp
  have m7 : W.cell? ⟨w.heap.size, 7, none⟩ = some (.bool b3) := by rw [← hW]; simp
  have m8 : W.cell? ⟨w.heap.size, 8, none⟩ = some (.bool true) := by rw [← hW]; simp
  have m9 : W.cell? ⟨w.heap.size, 9, none⟩ = some (.int .i64 attr) := by rw [← hW]; simp
  have hC : CtxB w W := hW ▸ below1 w _
  clear hW
  go_region_held3 (fun u => u.cell? ⟨w.heap.size, 1, none⟩ = some (.int .u64 ev) ∧ u.cell? ⟨w.heap.size, 2, none⟩ = some (.int .i64 el) ∧ u.cell? ⟨w.heap.size, 3, none⟩ = some (.int .i64 3) ∧ u.cell? ⟨w.heap.size, 4, none⟩ = some (.int .u64 out) ∧ u.cell? ⟨w.heap.size, 5, none⟩ = some (.bool b1) ∧ u.cell? ⟨w.heap.size, 6, none⟩ = some (.bool b2) ∧ u.cell? ⟨w.heap.size, 7, none⟩ = some (.bool b3) ∧ u.cell? ⟨w.heap.size, 8, none⟩ = some (.bool true) ∧ u.cell? ⟨w.heap.size, 9, none⟩ = some (.int .i64 attr) ∧ CtxB w u)
   (first | assumption | exact ⟨drew_cell m1, drew_cell m2, drew_cell m3, drew_cell m4, drew_cell m5, drew_cell m6, drew_cell m7, drew_cell m8, drew_cell m9, hC.drew⟩ | (go_split_ands; exact ⟨keep_cell hb5 (by assumption), keep_cell hb5 (by assumption), keep_cell hb5 (by assumption), keep_cell hb5 (by assumption), keep_cell hb5 (by assumption), keep_cell hb5 (by assumption), keep_cell hb5 (by assumption), keep_cell hb5 (by assumption), keep_cell hb5 (by assumption), CtxB.next (by assumption) hb5⟩))
   (first | (go_at_call 133; refine (C1.out _).mono ?_; rintro e w' ⟨rfl, rfl⟩) | (go_at_call 111; refine (C2.out _).mono ?_; rintro e w' ⟨rfl, rfl⟩) | (go_at_call 131; refine (C3.out _).mono ?_; rintro e w5 ⟨rfl, hb5⟩))
  go_split_ands
  have HB : Hid (Below w.heap.size w w5) := CtxB.out (by assumption)
  clear m1 m2 m3 m4 m5 m6 m7 m8 m9 hC
  go_wp2
  go_ret
  exact ⟨rfl, HB.out⟩
theorem mark_right (ea ev el tb : Nat) (w : World) (h1 : ea < 256) (h2 : 1 ≤ el) (h3 : el ≤ 3) (hv : ev < 281474976710656) (hbase : baseP ev (el - 1) = ev) (ht : tb < 281474976710656) (ha : tb % 4096 = 0) :
  Calls Tryz.prog 152 #[.agg #[.int .i64 ea, .int .u64 ev, .int .i64 el, .int .u64 tb]] w fun e w' => e = .returned (.bool true) ∧ Below w.heap.size w w' := by
 have hl : lowB ev = true := by unfold lowB; simp; omega
 have C1 := Lib.hid (fun w => low_nat ev w)
 have C2 := Lib.hid (fun w => vbase_nat ev (el - 1) w (by omega) (by omega))
 have C3 : Hid (∀ w, Calls Tryz.prog 73 #[.int .u64 tb, .int .i64 12] w fun e w' => e = .returned (.bool true) ∧ w' = w) := fun w => by
  have h := aligned_nat tb 12 w (by omega) (by omega)
  rw [show (tb % 2 ^ 12 == 0) = true by simp; omega] at h
  exact h
 rw [hl] at C1
 rw [hbase] at C2
 have e9 : IntKind.i64.wrap ((el : Int) - 1) = ((el - 1 : Nat) : Int) := by rw [show (el : Int) - 1 = ((el - 1 : Nat) : Int) by omega]; exact IntWalk.i64_in _ (by omega)
 have e8 : ((el : Int) - 1) = ((el - 1 : Nat) : Int) := by omega
 have e1 : decide ((ea : Int) < 0) = false := by simp
 have e2 : decide ((256 : Int) ≤ (ea : Int)) = false := by simp; omega
 have e3 : decide ((el : Int) < 1) = false := by simp; omega
 have e4 : decide ((4 : Int) ≤ (el : Int)) = false := by simp; omega
 have e5 : ((ev : Int) == (ev : Int)) = true := by simp
 have e6 : ((tb : Int) / 281474976710656 == 0) = true := by simp; omega
 generalize el - 1 = el1 at C2 e9 e8
 clear hl hbase hv
 go_enter Tryz.func152, Tryz.ntmps152
 go_wp2_with fail
 go_quiet (first | (go_at_call 133; exact Calls.quiet_of_same (C1.out _)) | (go_at_call 111; (try rw [e9]); (try rw [e8]); exact Calls.quiet_of_same (C2.out _)) | (go_at_call 73; exact Calls.quiet_of_same (C3.out _)))
 go_wp2_with fail
 go_ret
 exact ⟨by first | rfl | (refine ret_bool ?_; simp), below_drewN (below1 _ _) _⟩
theorem leaf_out (level K out attr va : Nat) (b1 b2 b3 b4 : Bool) (w : World) (hl : level ≤ 3) (hv : va < 18446744073709551616) (ho : out < 281474976710656) :
  Calls Tryz.prog 23 #[.agg #[.int .i64 level, .int .i64 K, .int .u64 out, .bool b1, .bool b2, .bool b3, .bool b4, .int .i64 attr], .int .u64 va] w fun e w' => e = .returned (.int .u64 (out + offP va level : Nat)) ∧ Below w.heap.size w w' := by
 have C1 := Lib.hid (fun w => offset_nat va level w hl hv)
 have hof : offP va level < 1099511627776 := by
  unfold offP bitsL
  split
  ·omega
  ·split
   ·omega
   ·split <;> omega
 have e1 : IntKind.u64.wrap ((out : Int) + (offP va level : Int)) = ((out + offP va level : Nat) : Int) := by rw [IntKind.wrap_u64]; omega
 have e2 : ((out : Int) + (offP va level : Int)) = ((out + offP va level : Nat) : Int) := by omega
 generalize out + offP va level = R at e1 e2 ⊢
 generalize offP va level = O at C1 e1 e2 hof
 go_enter Tryz.func23, Tryz.ntmps23
 go_wp2_with fail
 go_quiet (first | (go_at_call 63; exact Calls.quiet_of_same (C1.out _)))
 go_wp2_with fail
 go_ret
 exact ⟨by first | rfl | (refine ret_int ?_; first | exact e1 | exact e2 | simp [e1, e2]), below_drewN (below1 _ _) _⟩
end Go.Proofs.YtbapgngngaaojaaGreat
