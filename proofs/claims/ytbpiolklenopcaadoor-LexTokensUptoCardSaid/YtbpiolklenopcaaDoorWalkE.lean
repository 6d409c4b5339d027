/- The walks of layer 2: Value, word, next. -/
import Derived.Test.YtbpiolklenopcaaDoorWalkD
set_option linter.unusedSimpArgs false
set_option linter.unusedVariables false
namespace Go.Proofs.YtbpiolklenopcaaDoor
open Go.RowKit Go.Lib
def strOf (l : Bs) : ByteArray := ⟨l.toArray⟩
theorem strOf_list (l : Bs) : (strOf l).data.toList = l := by simp [strOf]
theorem strOf_size (l : Bs) : (strOf l).size = l.length := by simp [strOf, ByteArray.size]
theorem cut_yes (s : ByteArray) (qs : List Ch) (w : World) (hq : AllPc qs) (hs : s.data.toList = bytesOf qs) (hx : hexC (charsOf qs) = true) (p : ByteArray) (hp : p.data.toList = [48, 120]) :
    Calls Tryd.prog 23 #[.string s, .string p] w fun e w' => e = .returned (.tuple #[.string (strOf (bytesOf (qs.drop 2))), .bool true]) ∧ w = w' :=
  (Tryd.strings_CutPrefix s p w).mono fun e w' ⟨h1, h2⟩ => ⟨by
    have h := hex_has qs hq
    rw [h1, hs, hp, h.1, hx]
    unfold trimPrefix
    rw [h.1, hx, if_pos rfl]
    rw [← h.2 hx]
    rfl, h2.symm⟩
theorem cut_no (s : ByteArray) (qs : List Ch) (w : World) (hq : AllPc qs) (hs : s.data.toList = bytesOf qs) (hx : hexC (charsOf qs) = false) (p : ByteArray) (hp : p.data.toList = [48, 120]) :
    Calls Tryd.prog 23 #[.string s, .string p] w fun e w' => e = .returned (.tuple #[.string s, .bool false]) ∧ w = w' :=
  (Tryd.strings_CutPrefix s p w).mono fun e w' ⟨h1, h2⟩ => ⟨by
    have h := hex_has qs hq
    rw [h1, hs, hp, h.1, hx]
    unfold trimPrefix
    rw [h.1, hx, if_neg (by simp), ← hs], h2.symm⟩
set_option maxHeartbeats 1000000 in
theorem value_any (s : ByteArray) (qs : List Ch) (w : World) (hT : Tabs w) (hq : AllPc qs) (hs : Hid (s.data.toList = bytesOf qs)) (hm : s.size ≤ 9223372036854775807) :
    Calls Tryd.prog 13 #[.string s] w fun e w' => e = .returned (.tuple #[.int .u64 (valueC (charsOf qs)).1, .int .i64 (valueC (charsOf qs)).2]) ∧ Below w.heap.size w w' := by
  have c1 := told_any s w hT hm
  rw [hs, valid_of qs hq] at c1
  have C1 := Lib.hid c1; clear c1
  cases hx : hexC (charsOf qs) with
  | true =>
    have hv : valueC (charsOf qs) = basedC 16 (charsOf (qs.drop 2)) 0 true false := by
      unfold valueC; rw [hx, if_pos rfl]; simp [charsOf, List.map_drop]
    rw [hv]
    have C2 := Lib.hid (fun w p hp => cut_yes s qs w hq hs hx p hp); clear hx hv
    have hlen : (strOf (bytesOf (qs.drop 2))).size ≤ 9223372036854775807 := by
      rw [strOf_size]
      have h1 := size_chars hs
      have h2 : (bytesOf qs).length = (bytesOf (qs.take 2)).length + (bytesOf (qs.drop 2)).length := by rw [← List.length_append, ← bytesOf_append, List.take_append_drop]
      omega
    have C3 := Lib.hid (fun w => based_any 16 (strOf (bytesOf (qs.drop 2))) (qs.drop 2) w (.inr rfl) (hq.drop 2) (strOf_list _) hlen)
    clear hlen
    generalize strOf (bytesOf (qs.drop 2)) = S2 at C2 C3
    generalize basedC 16 (charsOf (qs.drop 2)) 0 true false = V at C3 ⊢
    go_enter Tryd.func13, Tryd.ntmps13
    go_wp2_with (first | (go_at_call 12; refine C1.out.mono ?_; rintro e w1 ⟨rfl, hb1⟩) | (go_at_call 23; refine (C2.out _ _ (by rfl)).mono ?_; rintro e w' ⟨rfl, rfl⟩) | (go_at_call 24; refine (C3.out _).mono ?_; rintro e w' ⟨rfl, hb2⟩))
    go_ret2
    exact ⟨rfl, hb1.trans (hb2.mono hb1.size)⟩
  | false =>
    have hv : valueC (charsOf qs) = basedC 10 (charsOf qs) 0 true false := by
      unfold valueC; rw [hx, if_neg (by simp)]
    rw [hv]
    have C2 := Lib.hid (fun w p hp => cut_no s qs w hq hs hx p hp); clear hx hv
    have C3 := Lib.hid (fun w => based_any 10 s qs w (.inl rfl) hq hs hm)
    generalize basedC 10 (charsOf qs) 0 true false = V at C3 ⊢
    go_enter Tryd.func13, Tryd.ntmps13
    go_wp2_with (first | (go_at_call 12; refine C1.out.mono ?_; rintro e w1 ⟨rfl, hb1⟩) | (go_at_call 23; refine (C2.out _ _ (by rfl)).mono ?_; rintro e w' ⟨rfl, rfl⟩) | (go_at_call 24; refine (C3.out _).mono ?_; rintro e w' ⟨rfl, hb2⟩))
    go_ret2
    exact ⟨rfl, hb1.trans (hb2.mono hb1.size)⟩
theorem value_bad (s : ByteArray) (w : World) (hT : Tabs w) (hs : validD s.data.toList = false) (hm : s.size ≤ 9223372036854775807) :
    Calls Tryd.prog 13 #[.string s] w fun e w' => e = .returned (.tuple #[.int .u64 0, .int .i64 61]) ∧ Below w.heap.size w w' := by
  have c1 := told_any s w hT hm
  rw [hs] at c1
  have C1 := Lib.hid c1; clear c1 hs
  go_enter Tryd.func13, Tryd.ntmps13
  go_wp2_with (go_at_call 12; refine C1.out.mono ?_; rintro e w1 ⟨rfl, hb1⟩)
  go_ret2
  exact ⟨rfl, hb1⟩
theorem bcell {W w1 : World} (hb : Below W.heap.size W w1) : (∀ b o, b < W.heap.size → w1.cell? ⟨b, o, none⟩ = W.cell? ⟨b, o, none⟩) ∧ (∀ b o, b < W.heap.size → w1.frozen? ⟨b, o, none⟩ = W.frozen? ⟨b, o, none⟩) :=
  ⟨fun b o h => hb.cell (p := ⟨b, o, none⟩) h, fun b o h => hb.frozen (p := ⟨b, o, none⟩) h⟩
theorem head_byte (s : ByteArray) (c : Nat) (p : Bs) (t : List Ch) (hp : PcOk (c, p)) (hs : s.data.toList = bytesOf ((c, p) :: t)) (h : 0 < s.size) :
    (s[0]'h).toNat = c ∨ 128 ≤ (s[0]'h).toNat ∧ 128 ≤ c := by
  obtain ⟨b, r, rfl, hb⟩ := pc_head hp
  have : (s[0]'h) = b := by
    have h1 := data_getElem? s 0 h
    rw [hs, bytesOf_cons] at h1
    simp at h1
    exact h1.symm
  rw [this]
  exact hb
set_option maxHeartbeats 1000000 in
theorem word_any (s : ByteArray) (c : Nat) (p : Bs) (t : List Ch) (at_ : Int) (w : World) (hT : Tabs w) (hq : AllPc ((c, p) :: t)) (hs : Hid (s.data.toList = bytesOf ((c, p) :: t))) (hm : s.size ≤ 9223372036854775807) :
    Calls Tryd.prog 26 #[.string s, .int .i64 at_] w fun e w' => e = .returned (.tuple #[.agg #[.int .i64 (wordC (charsOf ((c, p) :: t))).1, .string s, .int .u64 (wordC (charsOf ((c, p) :: t))).2.1, .int .i64 at_], .int .i64 (wordC (charsOf ((c, p) :: t))).2.2]) ∧ Below w.heap.size w w' := by
  have hz : 0 < s.size := by
    rw [size_chars hs, bytesOf_cons, List.length_append]
    have : 1 ≤ (c, p).2.length := pc_len hq.head
    omega
  have hb := head_byte s c p t hq.head hs hz
  have hd : digN (s[0]'hz).toNat = digN c := by
    rcases hb with h | ⟨h1, h2⟩
    · rw [h]
    · unfold digN; rw [decide_eq_false (by omega), decide_eq_false (by omega)]
  have C1 : Hid (∀ w, Calls Tryd.prog 32 #[.int .i32 (wrap32 ((s[0]'hz).toNat : Int))] w fun e w' => e = .returned (.bool (digN c)) ∧ w = w') := by
    intro w
    have h1 := digit_any (s[0]'hz).toNat w
    rw [hd] at h1
    rw [show wrap32 ((s[0]'hz).toNat : Int) = ((s[0]'hz).toNat : Int) by have := (s[0]'hz).toNat_lt; unfold wrap32; omega]
    exact h1
  clear hb hd
  have hT0 := Lib.hid hT
  have HQ := Lib.hid hq
  cases hx : digN c with
  | true =>
    rw [hx] at C1
    have hw : wordC (charsOf ((c, p) :: t)) = (2, valueC (charsOf ((c, p) :: t))) := by
      unfold wordC; rw [show digN ((charsOf ((c, p) :: t)).headD 0) = true from hx, if_pos rfl]
    rw [hw]
    clear hw hx
    have C2 := Lib.hid (fun w hT => value_any s ((c, p) :: t) w hT hq hs hm)
    generalize valueC (charsOf ((c, p) :: t)) = V at C2 ⊢
    obtain ⟨v1, v2⟩ := V
    have hbz := (Below.refl w.heap.size w).alloc (Nat.le_refl _) (Obj.cells #[Value.int IntKind.i64 0, Value.string ⟨#[]⟩, Value.int IntKind.u64 0, Value.int IntKind.i64 0] 32)
    have HTT := Lib.hid (hT.below (hbz.alloc hbz.size (Obj.cells #[Value.int IntKind.i64 1, Value.string s, Value.int IntKind.u64 0, Value.int IntKind.i64 at_] 32)))
    have HB := Lib.hid (hbz.alloc hbz.size (Obj.cells #[Value.int IntKind.i64 1, Value.string s, Value.int IntKind.u64 0, Value.int IntKind.i64 at_] 32))
    clear hT hbz
    go_enter Tryd.func26, Tryd.ntmps26
    go_wp2_with (go_at_call 32; refine (C1.out _).mono ?_; rintro e w' ⟨rfl, rfl⟩)
    refine (C2.out _ HTT.out).mono ?_
    rintro e w1 ⟨rfl, hb1⟩
    obtain ⟨hc, hf⟩ := bcell hb1
    have hz2 : w.heap.size + 1 < w1.heap.size := by have := hb1.size; simp at this; omega
    have HBB := Lib.hid (HB.out.trans (hb1.mono HB.out.size))
    clear C1 C2 HTT HB hb1
    have k0 : w1.cell? ⟨w.heap.size, 0, none⟩ = some (.int .i64 0) := by rw [hc _ _ (by simp; omega)]; simp
    have k1 : w1.cell? ⟨w.heap.size, 1, none⟩ = some (.string ⟨#[]⟩) := by rw [hc _ _ (by simp; omega)]; simp
    have k2 : w1.cell? ⟨w.heap.size, 2, none⟩ = some (.int .u64 0) := by rw [hc _ _ (by simp; omega)]; simp
    have k3 : w1.cell? ⟨w.heap.size, 3, none⟩ = some (.int .i64 0) := by rw [hc _ _ (by simp; omega)]; simp
    have j0 : w1.cell? ⟨w.heap.size + 1, 0, none⟩ = some (.int .i64 1) := by rw [hc _ _ (by simp)]; simp
    have j1 : w1.cell? ⟨w.heap.size + 1, 1, none⟩ = some (.string s) := by rw [hc _ _ (by simp)]; simp
    have j2 : w1.cell? ⟨w.heap.size + 1, 2, none⟩ = some (.int .u64 0) := by rw [hc _ _ (by simp)]; simp
    have j3 : w1.cell? ⟨w.heap.size + 1, 3, none⟩ = some (.int .i64 at_) := by rw [hc _ _ (by simp)]; simp
    have f0 : ∀ j, w1.frozen? ⟨w.heap.size, j, none⟩ = false := fun j => by rw [hf _ _ (by simp; omega)]; simp
    have f1 : ∀ j, w1.frozen? ⟨w.heap.size + 1, j, none⟩ = false := fun j => by rw [hf _ _ (by simp)]; simp
    clear hc hf
    go_wp2
    refine bodyPost_ret (v := .tuple #[.agg #[.int .i64 (2 : Nat), .string s, .int .u64 v1, .int .i64 at_], .int .i64 v2]) (by simp [results, Tryd.results26, go_sem, k0, k1, k2, k3, j0, j1, j2, j3]) rfl ⟨rfl, ?_⟩
    exact ((((((HBB.out.setCell (by simp) _).setCell (by simp) _).setCell (by simp) _).setCell (by simp) _).setCell (by simp) _).setCell (by simp) _)
  | false =>
    rw [hx] at C1
    have hw : wordC (charsOf ((c, p) :: t)) = (1, 0, if ((c, p) :: t).length > 40 then 11 else 0) := by
      unfold wordC; rw [show digN ((charsOf ((c, p) :: t)).headD 0) = false from hx, if_neg (by simp)]; simp [charsOf]
    rw [hw]
    clear hw hx
    have C2 := Lib.hid (fun w hT => count_told s ((c, p) :: t) w hT hq hs hm)
    generalize ((c, p) :: t).length = n at C2 ⊢
    obtain ⟨E, hE⟩ : ∃ E, (if n > 40 then 11 else 0 : Nat) = E := ⟨_, rfl⟩
    rw [hE]
    have HE := Lib.hid hE; clear hE
    have hbz := (Below.refl w.heap.size w).alloc (Nat.le_refl _) (Obj.cells #[Value.int IntKind.i64 0, Value.string ⟨#[]⟩, Value.int IntKind.u64 0, Value.int IntKind.i64 0] 32)
    have HTT := Lib.hid (hT.below (hbz.alloc hbz.size (Obj.cells #[Value.int IntKind.i64 1, Value.string s, Value.int IntKind.u64 0, Value.int IntKind.i64 at_] 32)))
    have HB := Lib.hid (hbz.alloc hbz.size (Obj.cells #[Value.int IntKind.i64 1, Value.string s, Value.int IntKind.u64 0, Value.int IntKind.i64 at_] 32))
    clear hT hbz
    go_enter Tryd.func26, Tryd.ntmps26
    go_wp2_with (go_at_call 32; refine (C1.out _).mono ?_; rintro e w' ⟨rfl, rfl⟩)
    refine (C2.out _ HTT.out).mono ?_
    rintro e w1 ⟨rfl, hb1⟩
    obtain ⟨hc, hf⟩ := bcell hb1
    have hz2 : w.heap.size + 1 < w1.heap.size := by have := hb1.size; simp at this; omega
    have HBB := Lib.hid (HB.out.trans (hb1.mono HB.out.size))
    clear C1 C2 HTT HB hb1
    have k0 : w1.cell? ⟨w.heap.size, 0, none⟩ = some (.int .i64 0) := by rw [hc _ _ (by simp; omega)]; simp
    have k1 : w1.cell? ⟨w.heap.size, 1, none⟩ = some (.string ⟨#[]⟩) := by rw [hc _ _ (by simp; omega)]; simp
    have k2 : w1.cell? ⟨w.heap.size, 2, none⟩ = some (.int .u64 0) := by rw [hc _ _ (by simp; omega)]; simp
    have k3 : w1.cell? ⟨w.heap.size, 3, none⟩ = some (.int .i64 0) := by rw [hc _ _ (by simp; omega)]; simp
    have j0 : w1.cell? ⟨w.heap.size + 1, 0, none⟩ = some (.int .i64 1) := by rw [hc _ _ (by simp)]; simp
    have j1 : w1.cell? ⟨w.heap.size + 1, 1, none⟩ = some (.string s) := by rw [hc _ _ (by simp)]; simp
    have j2 : w1.cell? ⟨w.heap.size + 1, 2, none⟩ = some (.int .u64 0) := by rw [hc _ _ (by simp)]; simp
    have j3 : w1.cell? ⟨w.heap.size + 1, 3, none⟩ = some (.int .i64 at_) := by rw [hc _ _ (by simp)]; simp
    have f0 : ∀ j, w1.frozen? ⟨w.heap.size, j, none⟩ = false := fun j => by rw [hf _ _ (by simp; omega)]; simp
    have f1 : ∀ j, w1.frozen? ⟨w.heap.size + 1, j, none⟩ = false := fun j => by rw [hf _ _ (by simp)]; simp
    clear hc hf
    by_cases hn : n > 40
    · go_wp2
      refine bodyPost_ret (v := .tuple #[.agg #[.int .i64 (1 : Nat), .string s, .int .u64 (0 : Nat), .int .i64 at_], .int .i64 (11 : Nat)]) (by simp [results, Tryd.results26, go_sem, k0, k1, k2, k3, j0, j1, j2, j3]) rfl ⟨by rw [← HE.out, if_pos hn], ?_⟩
      exact ((((HBB.out.setCell (by simp) _).setCell (by simp) _).setCell (by simp) _).setCell (by simp) _)
    · go_wp2
      refine bodyPost_ret (v := .tuple #[.agg #[.int .i64 (1 : Nat), .string s, .int .u64 (0 : Nat), .int .i64 at_], .int .i64 (0 : Nat)]) (by simp [results, Tryd.results26, go_sem, k0, k1, k2, k3, j0, j1, j2, j3]) rfl ⟨by rw [← HE.out, if_neg hn], ?_⟩
      exact ((((HBB.out.setCell (by simp) _).setCell (by simp) _).setCell (by simp) _).setCell (by simp) _)
end Go.Proofs.YtbpiolklenopcaaDoor
