/- The walk of layer 2: next. -/
import Derived.Test.YtbpiolklenopcaaDoorWalkE
set_option linter.unusedSimpArgs false
set_option linter.unusedVariables false
namespace Go.Proofs.YtbpiolklenopcaaDoor
open Go.RowKit Go.Lib
def TW (qs : List Ch) : List Ch := qs.takeWhile fun q => partN q.1
theorem TW_split (qs : List Ch) : qs = TW qs ++ qs.drop (TW qs).length := by
  have h : ∀ (qs : List Ch), qs = qs.takeWhile (fun q => partN q.1) ++ qs.drop (qs.takeWhile fun q => partN q.1).length := by
    intro qs
    induction qs with
    | nil => rfl
    | cons q t ih =>
      rw [List.takeWhile_cons]
      split
      · simp only [List.length_cons, List.drop_succ_cons, List.cons_append]
        rw [← ih]
      · rfl
  exact h qs
theorem TW_chars (qs : List Ch) : (charsOf qs).takeWhile partN = charsOf (TW qs) := by
  unfold charsOf TW
  induction qs with
  | nil => rfl
  | cons q t ih =>
    rw [List.map_cons, List.takeWhile_cons, List.takeWhile_cons]
    split
    · rw [ih]; rfl
    · rfl
theorem TW_len (qs : List Ch) : partLen (charsOf qs) = (TW qs).length := by
  unfold partLen; rw [TW_chars]; simp [charsOf]
theorem TW_pc {qs : List Ch} (h : AllPc qs) : AllPc (TW qs) := fun x hx => h x (by rw [TW_split qs]; exact List.mem_append_left _ hx)
theorem ext_take {s : ByteArray} {a b : List Ch} (hs : s.data.toList = bytesOf (a ++ b)) : s.extract 0 (bytesOf a).length = strOf (bytesOf a) := by
  have h : (s.extract 0 (bytesOf a).length).data.toList = bytesOf a := by
    rw [Lib.extract_data]
    rw [hs, bytesOf_append]
    simp
  have h2 : ∀ (x y : ByteArray), x.data.toList = y.data.toList → x = y := by
    intro x y h
    cases x; cases y
    simp at h
    rw [h]
  exact h2 _ _ (by rw [h, strOf_list])
def signsL : Bs := [61, 58, 44, 46, 43, 45, 47, 42, 40, 41]
def sgV (b : UInt8) : Int := indexByte signsL b
theorem sgV_sign : ∀ b : Fin 256, decide (sgV (UInt8.ofNat b.val) < 0) = !signN b.val := by decide +kernel
theorem sg_any {b : UInt8} {v : Int} (hv : sgV b = v) (S : ByteArray) (x : Int) (w : World) (hS : S.data.toList = signsL) (hx : x = (b.toNat : Int)) :
    Calls Tryd.prog 27 #[.string S, .int .u8 x] w fun e w' => e = .returned (.int .i64 v) ∧ w = w' :=
  (Tryd.strings_IndexByte S x w).mono fun e w' ⟨h1, h2⟩ => ⟨by
    rw [h1, hS, hx, ← hv]
    unfold sgV
    simp, h2.symm⟩
set_option maxHeartbeats 1000000 in
theorem next_word (s : ByteArray) (c : Nat) (p : Bs) (t : List Ch) (at_ : Int) (w : World) (hT : Tabs w) (hq : AllPc ((c, p) :: t)) (hs : Hid (s.data.toList = bytesOf ((c, p) :: t))) (hm : s.size ≤ 9223372036854775807) (hp : partN c = true) :
    Calls Tryd.prog 17 #[.string s, .int .i64 at_] w fun e w' => e = .returned (.tuple #[.agg #[.int .i64 (wordC (charsOf (TW ((c, p) :: t)))).1, .string (strOf (bytesOf (TW ((c, p) :: t)))), .int .u64 (wordC (charsOf (TW ((c, p) :: t)))).2.1, .int .i64 at_], .int .i64 (bytesOf (TW ((c, p) :: t))).length, .int .i64 (wordC (charsOf (TW ((c, p) :: t)))).2.2]) ∧ Below w.heap.size w w' := by
  have htw : TW ((c, p) :: t) = (c, p) :: TW t := by unfold TW; rw [List.takeWhile_cons, if_pos hp]
  have C1 := Lib.hid (fun w => run_any s ((c, p) :: t) w hq hs hm)
  have hext := ext_take (s := s) (a := TW ((c, p) :: t)) (b := ((c, p) :: t).drop (TW ((c, p) :: t)).length) (by rw [← TW_split]; exact hs)
  have hle : (bytesOf (TW ((c, p) :: t))).length ≤ s.size := by
    rw [size_chars hs]
    have h2 := congrArg (fun x => (bytesOf x).length) (TW_split ((c, p) :: t))
    simp only [bytesOf_append, List.length_append] at h2
    omega
  have h1 : 0 < (bytesOf (TW ((c, p) :: t))).length := by
    rw [htw, bytesOf_cons, List.length_append]
    have : 1 ≤ (c, p).2.length := pc_len hq.head
    omega
  have C2 : Hid (∀ w, Tabs w → Calls Tryd.prog 26 #[.string (strOf (bytesOf (TW ((c, p) :: t)))), .int .i64 at_] w _) := fun w hT => by
    have hq2 := TW_pc hq
    have := word_any (strOf (bytesOf (TW ((c, p) :: t)))) c p (TW t) at_ w hT (htw ▸ hq2) (by rw [htw]; exact strOf_list _) (by rw [strOf_size]; omega)
    rw [← htw] at this
    exact this
  have hR : runB ((c, p) :: t) = (bytesOf (TW ((c, p) :: t))).length := rfl
  rw [hR] at C1
  clear hR
  generalize wordC (charsOf (TW ((c, p) :: t))) = V at C2 ⊢
  generalize bytesOf (TW ((c, p) :: t)) = B at C1 C2 hext hle h1 ⊢
  obtain ⟨v1, v2, v3⟩ := V
  have HX := Lib.hid hext
  clear hext htw hq hs hp
  generalize strOf B = S2 at C2 HX ⊢
  obtain ⟨n, hn⟩ : ∃ n, B.length = n := ⟨_, rfl⟩
  rw [hn] at C1 HX hle h1 ⊢
  clear hn
  go_enter Tryd.func17, Tryd.ntmps17
  go_wp2_with (go_at_call 25; refine (C1.out _).mono ?_; rintro e w1 ⟨rfl, hb1⟩)
  have hB1 := ((Below.refl w.heap.size w).alloc (Nat.le_refl _) _).trans (hb1.mono (by simp))
  have HT1 := hT.below hB1
  rw [HX.out]
  refine (C2.out _ HT1).mono ?_
  rintro e w2 ⟨rfl, hb2⟩
  have hz1 : w.heap.size < w1.heap.size := by have := hb1.size; simp at this; omega
  have hz2 : w.heap.size < w2.heap.size := by have := hb2.size; omega
  obtain ⟨hc, hf⟩ := bcell hb1
  obtain ⟨hc2, hf2⟩ := bcell hb2
  have k0 : w2.cell? ⟨w.heap.size, 0, none⟩ = some (.int .i64 0) := by rw [hc2 _ _ hz1, hc _ _ (by simp)]; simp
  have k1 : w2.cell? ⟨w.heap.size, 1, none⟩ = some (.string ⟨#[]⟩) := by rw [hc2 _ _ hz1, hc _ _ (by simp)]; simp
  have k2 : w2.cell? ⟨w.heap.size, 2, none⟩ = some (.int .u64 0) := by rw [hc2 _ _ hz1, hc _ _ (by simp)]; simp
  have k3 : w2.cell? ⟨w.heap.size, 3, none⟩ = some (.int .i64 0) := by rw [hc2 _ _ hz1, hc _ _ (by simp)]; simp
  have f0 : ∀ j, w2.frozen? ⟨w.heap.size, j, none⟩ = false := fun j => by rw [hf2 _ _ hz1, hf _ _ (by simp)]; simp
  have HBB := Lib.hid (hB1.trans (hb2.mono (by omega)))
  clear hB1 HT1 hb1 hb2 hc hf hc2 hf2 C1 C2 HX hT
  go_wp2
  refine bodyPost_ret (v := .tuple #[.agg #[.int .i64 v1, .string S2, .int .u64 v2, .int .i64 at_], .int .i64 n, .int .i64 v3]) (by simp [results, Tryd.results17, go_sem, k0, k1, k2, k3, f0, hz2]) rfl ⟨rfl, ?_⟩
  exact (((((HBB.out.setCell (by simp) _).setCell (by simp) _).setCell (by simp) _).setCell (by simp) _).alloc (by simp; omega) _)
theorem sg_head {s : ByteArray} {c : Nat} {p : Bs} {t : List Ch} (hp : PcOk (c, p)) (hs : s.data.toList = bytesOf ((c, p) :: t)) (h : 0 < s.size) : decide (sgV (s[0]'h) < 0) = !signN c := by
  have h1 := sgV_sign ⟨(s[0]'h).toNat, (s[0]'h).toNat_lt⟩
  simp only [UInt8.ofNat_toNat] at h1
  rw [h1]
  rcases head_byte s c p t hp hs h with h2 | ⟨h2, h3⟩
  · rw [h2]
  · unfold signN
    rw [decide_eq_false (by omega), decide_eq_false (by omega)]
set_option maxHeartbeats 1000000 in
theorem next_sign (s : ByteArray) (c : Nat) (p : Bs) (t : List Ch) (at_ : Int) (w : World) (hq : AllPc ((c, p) :: t)) (hs : Hid (s.data.toList = bytesOf ((c, p) :: t))) (hm : s.size ≤ 9223372036854775807) (hp : partN c = false) (hg : signN c = true) :
    Calls Tryd.prog 17 #[.string s, .int .i64 at_] w fun e w' => e = .returned (.tuple #[.agg #[.int .i64 3, .string (strOf p), .int .u64 0, .int .i64 at_], .int .i64 1, .int .i64 0]) ∧ Below w.heap.size w w' := by
  have C1 := Lib.hid (fun w => run_any s ((c, p) :: t) w hq hs hm)
  rw [runB_no hp] at C1
  have hz : 0 < s.size := by
    rw [size_chars hs, bytesOf_cons, List.length_append]
    have : 1 ≤ (c, p).2.length := pc_len hq.head
    omega
  have hsg := sg_head hq.head hs hz
  rw [hg] at hsg
  have hp1 : p.length = 1 := by
    have : c < 128 := by unfold signN at hg; have := of_decide_eq_true hg; omega
    have := pc_ascii hq.head this
    have this : p = [UInt8.ofNat c] := this
    rw [this]; rfl
  have hext : s.extract 0 1 = strOf p := by
    have := ext_take (s := s) (a := [(c, p)]) (b := t) hs
    rw [show bytesOf [(c, p)] = p by simp [bytesOf], hp1] at this
    exact this
  have HX := Lib.hid hext
  generalize strOf p = S2 at HX ⊢
  obtain ⟨v, hv⟩ : ∃ v, sgV (s[0]'hz) = v := ⟨_, rfl⟩
  rw [hv] at hsg
  have hv0 : 0 ≤ v := by have := of_decide_eq_false hsg; omega
  have C2 := Lib.hid (fun S x w h1 h2 => sg_any hv S x w h1 h2)
  clear hsg hv hext hp1 hg hp hq hs
  go_enter Tryd.func17, Tryd.ntmps17
  go_wp2_with (go_at_call 25; refine (C1.out _).mono ?_; rintro e w1 ⟨rfl, hb1⟩)
  have hz1 : w.heap.size < w1.heap.size := by have := hb1.size; simp at this; omega
  obtain ⟨hc, hf⟩ := bcell hb1
  have k0 : w1.cell? ⟨w.heap.size, 0, none⟩ = some (.int .i64 0) := by rw [hc _ _ (by simp)]; simp
  have k1 : w1.cell? ⟨w.heap.size, 1, none⟩ = some (.string ⟨#[]⟩) := by rw [hc _ _ (by simp)]; simp
  have k2 : w1.cell? ⟨w.heap.size, 2, none⟩ = some (.int .u64 0) := by rw [hc _ _ (by simp)]; simp
  have k3 : w1.cell? ⟨w.heap.size, 3, none⟩ = some (.int .i64 0) := by rw [hc _ _ (by simp)]; simp
  have f0 : ∀ j, w1.frozen? ⟨w.heap.size, j, none⟩ = false := fun j => by rw [hf _ _ (by simp)]; simp
  have HBB := Lib.hid (((Below.refl w.heap.size w).alloc (Nat.le_refl _) _).trans (hb1.mono (by simp)))
  clear hc hf hb1 C1
  refine (C2.out _ _ _ (by rfl) (by rfl)).mono ?_
  rintro e w' ⟨rfl, rfl⟩
  have hext := HX.out
  go_wp2
  refine bodyPost_ret (v := .tuple #[.agg #[.int .i64 3, .string S2, .int .u64 0, .int .i64 at_], .int .i64 1, .int .i64 0]) (by simp [results, Tryd.results17, go_sem, k0, k1, k2, k3, f0, hz1]) rfl ⟨rfl, ?_⟩
  exact ((((HBB.out.setCell (by simp) _).setCell (by simp) _).setCell (by simp) _).setCell (by simp) _)
set_option maxHeartbeats 1000000 in
theorem next_bad (s : ByteArray) (c : Nat) (p : Bs) (t : List Ch) (at_ : Int) (w : World) (hq : AllPc ((c, p) :: t)) (hs : Hid (s.data.toList = bytesOf ((c, p) :: t))) (hm : s.size ≤ 9223372036854775807) (hp : partN c = false) (hg : signN c = false) :
    Calls Tryd.prog 17 #[.string s, .int .i64 at_] w fun e w' => e = .returned (.tuple #[.agg #[.int .i64 0, .string ⟨#[]⟩, .int .u64 0, .int .i64 0], .int .i64 0, .int .i64 61]) ∧ Below w.heap.size w w' := by
  have C1 := Lib.hid (fun w => run_any s ((c, p) :: t) w hq hs hm)
  rw [runB_no hp] at C1
  have hz : 0 < s.size := by
    rw [size_chars hs, bytesOf_cons, List.length_append]
    have : 1 ≤ (c, p).2.length := pc_len hq.head
    omega
  have hsg := sg_head hq.head hs hz
  rw [hg] at hsg
  obtain ⟨v, hv⟩ : ∃ v, sgV (s[0]'hz) = v := ⟨_, rfl⟩
  rw [hv] at hsg
  have hv0 : v < 0 := of_decide_eq_true hsg
  have C2 := Lib.hid (fun S x w h1 h2 => sg_any hv S x w h1 h2)
  clear hsg hv hg hp hq hs
  go_enter Tryd.func17, Tryd.ntmps17
  go_wp2_with (go_at_call 25; refine (C1.out _).mono ?_; rintro e w1 ⟨rfl, hb1⟩)
  have hz1 : w.heap.size < w1.heap.size := by have := hb1.size; simp at this; omega
  obtain ⟨hc, hf⟩ := bcell hb1
  have k0 : w1.cell? ⟨w.heap.size, 0, none⟩ = some (.int .i64 0) := by rw [hc _ _ (by simp)]; simp
  have k1 : w1.cell? ⟨w.heap.size, 1, none⟩ = some (.string ⟨#[]⟩) := by rw [hc _ _ (by simp)]; simp
  have k2 : w1.cell? ⟨w.heap.size, 2, none⟩ = some (.int .u64 0) := by rw [hc _ _ (by simp)]; simp
  have k3 : w1.cell? ⟨w.heap.size, 3, none⟩ = some (.int .i64 0) := by rw [hc _ _ (by simp)]; simp
  have f0 : ∀ j, w1.frozen? ⟨w.heap.size, j, none⟩ = false := fun j => by rw [hf _ _ (by simp)]; simp
  have HBB := Lib.hid (((Below.refl w.heap.size w).alloc (Nat.le_refl _) _).trans (hb1.mono (by simp)))
  clear hc hf hb1 C1
  refine (C2.out _ _ _ (by rfl) (by rfl)).mono ?_
  rintro e w' ⟨rfl, rfl⟩
  go_wp2
  refine bodyPost_ret (v := .tuple #[.agg #[.int .i64 0, .string ⟨#[]⟩, .int .u64 0, .int .i64 0], .int .i64 0, .int .i64 61]) (by simp [results, Tryd.results17, go_sem, k0, k1, k2, k3, f0, hz1]) rfl ⟨rfl, ?_⟩
  exact ((((HBB.out.setCell (by simp) _).setCell (by simp) _).setCell (by simp) _).setCell (by simp) _)
theorem nextC_word {qs : List Ch} (h : (TW qs).length ≠ 0) : nextC (charsOf qs) = ((wordC (charsOf (TW qs))).1, (TW qs).length, (wordC (charsOf (TW qs))).2) := by
  unfold nextC
  rw [TW_len, if_neg h]
  have : (charsOf qs).take (TW qs).length = charsOf (TW qs) := by
    have h2 := congrArg charsOf (TW_split qs)
    unfold charsOf at h2 ⊢
    rw [List.map_append] at h2
    rw [h2, List.take_left' (by simp)]
  rw [this]
theorem TW_take (qs : List Ch) : qs.take (TW qs).length = TW qs := by
  have h := TW_split qs
  generalize TW qs = a at h ⊢
  rw [h]
  exact List.take_left' rfl
theorem TW_yes {c : Nat} {p : Bs} {t : List Ch} (h : partN c = true) : TW ((c, p) :: t) = (c, p) :: TW t := by unfold TW; rw [List.takeWhile_cons, if_pos h]
theorem TW_no {c : Nat} {p : Bs} {t : List Ch} (h : partN c = false) : TW ((c, p) :: t) = [] := by unfold TW; rw [List.takeWhile_cons, h]; rfl
theorem nextC_sign {c : Nat} {p : Bs} {t : List Ch} (h : partN c = false) : nextC (charsOf ((c, p) :: t)) = (3, 1, 0, if signN c then 0 else 61) := by
  unfold nextC
  rw [TW_len, TW_no h, if_pos (show ([] : List Ch).length = 0 from rfl)]
  rfl
theorem next_ok (s : ByteArray) (c : Nat) (p : Bs) (t : List Ch) (at_ : Int) (w : World) (kind k word : Nat) (hT : Tabs w) (hq : AllPc ((c, p) :: t)) (hs : Hid (s.data.toList = bytesOf ((c, p) :: t))) (hm : s.size ≤ 9223372036854775807) (hn : nextC (charsOf ((c, p) :: t)) = (kind, k, word, 0)) :
    Calls Tryd.prog 17 #[.string s, .int .i64 at_] w fun e w' => e = .returned (.tuple #[.agg #[.int .i64 kind, .string (strOf (bytesOf (((c, p) :: t).take k))), .int .u64 word, .int .i64 at_], .int .i64 (bytesOf (((c, p) :: t).take k)).length, .int .i64 0]) ∧ Below w.heap.size w w' := by
  cases hp : partN c with
  | true =>
    have h := next_word s c p t at_ w hT hq hs hm hp
    rw [nextC_word (by rw [TW_yes hp]; simp)] at hn
    have e1 := congrArg (fun x : Nat × Nat × Nat × Nat => x.1) hn
    have e2 := congrArg (fun x : Nat × Nat × Nat × Nat => x.2.1) hn
    have e3 := congrArg (fun x : Nat × Nat × Nat × Nat => x.2.2.1) hn
    have e4 := congrArg (fun x : Nat × Nat × Nat × Nat => x.2.2.2) hn
    dsimp only at e1 e2 e3 e4
    rw [← e2, TW_take]
    rw [e1, e3, e4] at h
    exact h
  | false =>
    rw [nextC_sign hp] at hn
    cases hg : signN c with
    | true =>
      have h := next_sign s c p t at_ w hq hs hm hp hg
      have e1 := congrArg (fun x : Nat × Nat × Nat × Nat => x.1) hn
      have e2 := congrArg (fun x : Nat × Nat × Nat × Nat => x.2.1) hn
      have e3 := congrArg (fun x : Nat × Nat × Nat × Nat => x.2.2.1) hn
      dsimp only at e1 e2 e3
      have hp1 : p.length = 1 := by
        have h1 : c < 128 := by unfold signN at hg; have := of_decide_eq_true hg; omega
        have h2 := pc_ascii hq.head h1
        have h3 : p = [UInt8.ofNat c] := h2
        rw [h3]; rfl
      subst e1 e2 e3
      have hb : bytesOf (((c, p) :: t).take 1) = p := by simp [bytesOf]
      rw [hb, hp1]
      exact h
    | false =>
      rw [hg] at hn
      have e4 := congrArg (fun x : Nat × Nat × Nat × Nat => x.2.2.2) hn
      exact absurd e4 (by simp)
/-- Beside a fault the token may be any. -/
def NextErr (w : World) (err : Nat) (e : Ending) (w' : World) : Prop :=
  ∃ (a0 : Int) (a1 : ByteArray) (a2 a3 n : Int), e = .returned (.tuple #[.agg #[.int .i64 a0, .string a1, .int .u64 a2, .int .i64 a3], .int .i64 n, .int .i64 err]) ∧ Below w.heap.size w w'
theorem next_err (s : ByteArray) (c : Nat) (p : Bs) (t : List Ch) (at_ : Int) (w : World) (kind k word err : Nat) (hT : Tabs w) (hq : AllPc ((c, p) :: t)) (hs : Hid (s.data.toList = bytesOf ((c, p) :: t))) (hm : s.size ≤ 9223372036854775807) (hn : nextC (charsOf ((c, p) :: t)) = (kind, k, word, err)) (he : err ≠ 0) :
    Calls Tryd.prog 17 #[.string s, .int .i64 at_] w (NextErr w err) := by
  cases hp : partN c with
  | true =>
    have h := next_word s c p t at_ w hT hq hs hm hp
    rw [nextC_word (by rw [TW_yes hp]; simp)] at hn
    have e4 := congrArg (fun x : Nat × Nat × Nat × Nat => x.2.2.2) hn
    dsimp only at e4
    rw [e4] at h
    exact h.mono fun e w' ⟨h1, h2⟩ => ⟨_, _, _, _, _, h1, h2⟩
  | false =>
    rw [nextC_sign hp] at hn
    have e4 := congrArg (fun x : Nat × Nat × Nat × Nat => x.2.2.2) hn
    dsimp only at e4
    cases hg : signN c with
    | true =>
      rw [hg, if_pos rfl] at e4
      exact absurd e4.symm he
    | false =>
      rw [hg, if_neg (by simp)] at e4
      subst e4
      exact (next_bad s c p t at_ w hq hs hm hp hg).mono fun e w' ⟨h1, h2⟩ => ⟨_, _, _, _, _, h1, h2⟩
end Go.Proofs.YtbpiolklenopcaaDoor
