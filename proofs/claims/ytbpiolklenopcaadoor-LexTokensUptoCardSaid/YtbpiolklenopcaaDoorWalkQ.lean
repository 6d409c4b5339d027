/- The statement LexTexts, walked. -/
import Derived.Test.YtbpiolklenopcaaDoorWalkM
import Derived.Test.YtbpiolklenopcaaDoorPureD
set_option linter.unusedSimpArgs false
set_option linter.unusedVariables false
namespace Go.Proofs.YtbpiolklenopcaaDoor
open Go.RowKit Go.Lib
theorem rowOf_len (qs : List Ch) (l : List Tk) : (rowOf qs l).length = l.length * 4 := by
  induction l with
  | nil => rfl
  | cons x l ih =>
    have : rowOf qs (x :: l) = tkCells qs x ++ rowOf qs l := by simp [rowOf]
    rw [this, List.length_append, ih, List.length_cons]
    show 4 + _ = _
    omega
theorem rowOf_at (qs : List Ch) : ∀ (l : List Tk) (i : Nat) (h : i < l.length) (j : Nat), j < 4 → (rowOf qs l)[i * 4 + j]? = (tkCells qs (l[i]'h))[j]?
  | x :: l, 0, _, j, hj => by
    have : rowOf qs (x :: l) = tkCells qs x ++ rowOf qs l := by simp [rowOf]
    rw [this, Nat.zero_mul, Nat.zero_add, List.getElem?_append_left (show j < (tkCells qs x).length from hj)]
    rfl
  | x :: l, i + 1, h, j, hj => by
    have : rowOf qs (x :: l) = tkCells qs x ++ rowOf qs l := by simp [rowOf]
    rw [this, List.getElem?_append_right (by show 4 ≤ _; omega)]
    have hh : (i + 1) * 4 + j - (tkCells qs x).length = i * 4 + j := by show (i + 1) * 4 + j - 4 = _; omega
    rw [hh, rowOf_at qs l i (by simpa using h) j hj]
    rfl
/-- A row's cells, token by token. -/
theorem tok_cells {qs : List Ch} {l : List Tk} {w : World} {base g cap : Nat} (h : w.ownsRow base 32 4 (.slice (some ⟨g, 0, none⟩) l.length cap) l.length (rowOf qs l)) (i : Nat) (hi : i < l.length) :
    w.cell? ⟨g, i * 4, none⟩ = some (.int .i64 (l[i]'hi).kind) ∧ w.cell? ⟨g, i * 4 + 1, none⟩ = some (.string (tkText qs (l[i]'hi))) ∧ w.cell? ⟨g, i * 4 + 2, none⟩ = some (.int .u64 (l[i]'hi).word) ∧ w.cell? ⟨g, i * 4 + 3, none⟩ = some (.int .i64 (l[i]'hi).at_) := by
  have hc : ∀ j, j < 4 → w.cell? ⟨g, i * 4 + j, none⟩ = (tkCells qs (l[i]'hi))[j]? := fun j hj => by
    rw [World.ownsRow.cellAt h (i * 4 + j) (by omega)]
    exact rowOf_at qs l i hi j hj
  exact ⟨hc 0 (by omega), hc 1 (by omega), hc 2 (by omega), hc 3 (by omega)⟩
theorem own_slice2 {w : World} {base n : Nat} {e : TypeId} {size : Nat} {v : Value} {xs : List Value} (h : w.ownsRow base e size v n xs) : ∃ A c, v = .slice A n c := by
  rcases h.2 with ⟨rfl, rfl⟩ | ⟨g, cap, cur, rfl, _⟩
  · exact ⟨none, 0, rfl⟩
  · exact ⟨_, cap, rfl⟩
set_option maxRecDepth 100000 in
set_option maxHeartbeats 8000000 in
theorem texts_any (s : ByteArray) (w : World) (hT : Tabs w) (hm : s.size ≤ 9223372036854775807) :
    Calls Tryd.prog 4 #[.string s] w fun e w' => e = .returned (.bool true) ∧ Below w.heap.size w w' := by
  have C1 := Lib.hid (anchor_any w hT)
  by_cases hbig : 1000 < s.size
  · go_enter Tryd.func4, Tryd.ntmps4
    go_wp2_with (go_at_call 7; refine C1.out.mono ?_; rintro e w1 ⟨rfl, hb1⟩)
    go_ret
    exact ⟨rfl, hb1⟩
  · cases hv : validD s.data.toList with
    | false =>
      have C2 := Lib.hid (fun w hT => tokens_bad s w hT hv (by omega))
      have HT0 := Lib.hid hT
      clear hT hv
      go_enter Tryd.func4, Tryd.ntmps4
      go_wp2_with (go_at_call 7; refine C1.out.mono ?_; rintro e w1 ⟨rfl, hb1⟩)
      refine (C2.out _ (HT0.out.below hb1)).mono ?_
      rintro e w2 ⟨rfl, hb2⟩
      go_wp2
      go_ret
      exact ⟨rfl, hb1.trans (hb2.mono hb1.size)⟩
    | true =>
      obtain ⟨qs, hq, hs⟩ := chars_exist _ hv
      have C2 := Lib.hid (fun w hT => tokens_told s qs w hT hq hs (by omega))
      have HT0 := Lib.hid hT
      by_cases he : (tokF (charsOf qs) 0).2.1 = 0
      · have hwell := tokC_well (charsOf qs).length (charsOf qs) 0 he
        have hR : tokF (charsOf qs) 0 = ((tokF (charsOf qs) 0).1, 0, 0) := by
          have h1 := tokF_zero _ _ he
          exact Prod.ext rfl (Prod.ext he h1)
        have hbytes := texts_bytes qs hq
        have hqb : (bytesOf qs).length ≤ 1000 := by rw [← size_chars hs]; omega
        change ∀ x ∈ (tokF (charsOf qs) 0).1, _ at hwell
        rw [hR] at C2
        obtain ⟨l, hl⟩ : ∃ l, (tokF (charsOf qs) 0).1 = l := ⟨_, rfl⟩
        rw [hl] at hwell hbytes C2
        have hlens : ∀ x ∈ l, ((qs.drop x.at_).take x.len).length = x.len := fun x hx => by
          have h1 := (hwell x hx).2.2.2
          rw [Nat.sub_zero, ← charsOf_sub] at h1
          simpa [charsOf] using h1
        have htok : tokF (charsOf (texts qs l)) 0 = (again l 0, 0, 0) := tokF_texts qs l 0 (fun x hx => by
          have h1 := hwell x hx
          rw [Nat.sub_zero] at h1
          exact h1.2.2)
        have hTQ := texts_all hq l
        have hll : l.length ≤ (bytesOf (texts qs l)).length := by
          have h1 : ∀ l : List Tk, l.length ≤ (bytesOf (texts qs l)).length := by
            intro l
            induction l with
            | nil => simp
            | cons x l ih => rw [texts_cons, bytesOf_append, bytesOf_cons, List.length_append, List.length_append, List.length_cons]; show _ ≤ _ + (1 + _); omega
          exact h1 l
        have C3 := Lib.hid (fun w hT => tokens_told (strOf (bytesOf (texts qs l))) (texts qs l) w hT hTQ (strOf_list _) (by rw [strOf_size]; omega))
        rw [htok] at C3
        have HLENS := Lib.hid hlens
        have HBY := Lib.hid hbytes
        have HQ := Lib.hid hq
        have HQB := Lib.hid hqb
        have hl2 : l.length ≤ 2000 := by omega
        have ha0 := again_len l 0
        clear hT hv he hwell hR hl hlens htok hTQ hll hbytes hqb hs hq
        go_enter Tryd.func4, Tryd.ntmps4
        go_wp2_with (go_at_call 7; refine C1.out.mono ?_; rintro e w1 ⟨rfl, hb1⟩)
        have hT1 := HT0.out.below hb1
        refine (C2.out _ hT1).mono ?_
        rintro e w2 ⟨v, rfl, hown, hb2⟩
        have hT2 := hT1.below hb2
        have hB2 := hb1.trans (hb2.mono hb1.size)
        obtain ⟨A, cap, rfl⟩ := own_slice2 hown
        have HO := Lib.hid hown
        have HB2 := Lib.hid hB2
        have HT2 := Lib.hid hT2
        have hz2 := hB2.size
        clear hT1 hb1 hb2 hown hB2 hT2 C1 C2 HT0
        go_wp2
        go_loopw [6, 30] (fun tv iv wr => ∃ i : Nat, iv = .int .i64 i ∧ i ≤ l.length ∧ tv = .string (strOf (bytesOf (texts qs (l.take i)))) ∧ Hid (Below w2.heap.size w2 wr)) (fun _ iv _ => l.length - (RowKit.intOf iv).toNat)
        case atStart => exact ⟨0, rfl, by omega, rfl, Below.refl _ _⟩
        case round =>
          obtain ⟨i, rfl, hi, rfl, HBr⟩ := hrel
          have hzr := HBr.size
          by_cases hlt : i < l.length
          · obtain ⟨g, cap', hA, _, hg⟩ := World.ownsRow.form HO.out (by omega)
            simp only [Value.slice.injEq, true_and] at hA
            obtain ⟨rfl, rfl⟩ := hA
            obtain ⟨k0, k1, k2, k3⟩ := tok_cells HO.out i hlt
            have m0 := (HBr.cell (p := ⟨g, i * 4, none⟩) hg).trans k0
            have m1 := (HBr.cell (p := ⟨g, i * 4 + 1, none⟩) hg).trans k1
            have m2 := (HBr.cell (p := ⟨g, i * 4 + 2, none⟩) hg).trans k2
            have m3 := (HBr.cell (p := ⟨g, i * 4 + 3, none⟩) hg).trans k3
            have hnew : Hid (strOf (bytesOf (texts qs (l.take i))) ++ (tkText qs l[i] ++ (⟨#[32]⟩ : ByteArray)) = strOf (bytesOf (texts qs (l.take (i + 1))))) := by
              refine str_ext ?_
              rw [strOf_list, List.take_succ_eq_append_getElem hlt, texts_append, ByteArray.data_append, Array.toList_append, ByteArray.data_append, Array.toList_append, bytesOf_append, strOf_list]
              unfold tkText
              rw [strOf_list, texts_cons, bytesOf_append, texts_nil]
              rfl
            have hs1 : (strOf (bytesOf (texts qs (l.take i)))).size ≤ 2000 := by
              rw [strOf_size]
              have h1 := texts_take_le qs l i
              have h2 := HBY.out
              have h3 := HQB.out
              omega
            have hs2 : (tkText qs l[i]).size ≤ 2000 := by
              unfold tkText
              rw [strOf_size]
              have h1 := bytes_split qs l[i].at_
              have h2 := bytes_split (qs.drop l[i].at_) l[i].len
              have h3 := HQB.out
              omega
            generalize l[i] = x at m0 m1 m2 m3 hnew hs2
            obtain ⟨kind, at1, len, word⟩ := x
            generalize tkText qs ⟨kind, at1, len, word⟩ = X at m1 hnew hs2
            generalize strOf (bytesOf (texts qs (l.take i))) = S at hnew hs1
            dsimp only at m0 m2 m3
            clear k0 k1 k2 k3
            go_wp2
            go_roundw
            case rel => exact ⟨i + 1, by first | rfl | go_num, by omega, by rw [← hnew.out], HBr.out.alloc HBr.size _⟩
            case measure => simp [RowKit.intOf]; omega
          · obtain rfl : i = l.length := by omega
            rw [List.take_length]
            have hT3 := HT2.out.below HBr.out
            have hB3 := HB2.out.trans (HBr.out.mono hz2)
            go_wp2_with fail
            refine (C3.out _ hT3).mono ?_
            rintro e w4 ⟨v4, rfl, hown4, hb4⟩
            have hB4 := hB3.trans (hb4.mono hB3.size)
            have hBr4 := HBr.out.trans (hb4.mono hzr)
            have hT4 := hT3.below hb4
            have HO4a := Lib.hid hown4
            rw [ha0] at hown4
            obtain ⟨A4, cap4, rfl⟩ := own_slice2 hown4
            have HO4 := Lib.hid hown4
            have HB4 := Lib.hid hB4
            have HBr4 := Lib.hid hBr4
            have HT4 := Lib.hid hT4
            have hz4 := hBr4.size
            have hz44 := hB4.size
            clear hT3 hB3 hb4 hown4 hB4 hBr4 hT4 HBr C3 HT2 HB2 hlt
            go_wp2
            go_loopw [12, 57] (fun av iv wq => ∃ i : Nat, iv = .int .i64 i ∧ i ≤ l.length ∧ av = .int .i64 ((texts qs (l.take i)).length : Nat) ∧ Hid (Below w4.heap.size w4 wq)) (fun _ iv _ => l.length - (RowKit.intOf iv).toNat)
            case atStart => exact ⟨0, rfl, by omega, rfl, Below.refl _ _⟩
            case round =>
              obtain ⟨i, rfl, hi, rfl, HBq⟩ := hrel
              have hzq := HBq.size
              by_cases hlt : i < l.length
              · obtain ⟨g, cap', hA, _, hg⟩ := World.ownsRow.form HO.out (by omega)
                simp only [Value.slice.injEq, true_and] at hA
                obtain ⟨rfl, rfl⟩ := hA
                obtain ⟨g4, cap4', hA4, _, hg4⟩ := World.ownsRow.form HO4.out (by omega)
                simp only [Value.slice.injEq, true_and] at hA4
                obtain ⟨rfl, rfl⟩ := hA4
                have hag := again_at qs l 0 i hlt HLENS.out
                rw [List.getElem?_eq_getElem (by rw [ha0]; exact hlt)] at hag
                have hag := Option.some.inj hag
                have hc4 := tok_cells (l := again l 0) (by rw [ha0]; exact ha0 ▸ HO4a.out) i (by rw [ha0]; exact hlt)
                rw [hag] at hc4
                have htx : tkText (texts qs l) ⟨l[i].kind, 0 + (texts qs (l.take i)).length, l[i].len, l[i].word⟩ = tkText qs l[i] := by
                  unfold tkText
                  simp only [Nat.zero_add]
                  rw [texts_sub qs l i hlt HLENS.out]
                rw [htx, Nat.zero_add] at hc4
                obtain ⟨p0, p1, p2, p3⟩ := hc4
                have q0 := (HBq.cell (p := ⟨g4, i * 4, none⟩) hg4).trans p0
                have q1 := (HBq.cell (p := ⟨g4, i * 4 + 1, none⟩) hg4).trans p1
                have q2 := (HBq.cell (p := ⟨g4, i * 4 + 2, none⟩) hg4).trans p2
                have q3 := (HBq.cell (p := ⟨g4, i * 4 + 3, none⟩) hg4).trans p3
                obtain ⟨k0, k1, k2, k3⟩ := tok_cells HO.out i hlt
                have hb2q := HBr4.out.trans (HBq.out.mono hz4)
                have m0 := (hb2q.cell (p := ⟨g, i * 4, none⟩) hg).trans k0
                have m1 := (hb2q.cell (p := ⟨g, i * 4 + 1, none⟩) hg).trans k1
                have m2 := (hb2q.cell (p := ⟨g, i * 4 + 2, none⟩) hg).trans k2
                have hTq := HT4.out.below HBq.out
                have HTq := Lib.hid hTq
                have hlen := HLENS.out l[i] (List.getElem_mem hlt)
                have hszX : (tkText qs l[i]).size ≤ 2000 := by
                  unfold tkText
                  rw [strOf_size]
                  have h1 := bytes_split qs l[i].at_
                  have h2 := bytes_split (qs.drop l[i].at_) l[i].len
                  have h3 := HQB.out
                  omega
                have C5 := Lib.hid (fun w hT => count_told (tkText qs l[i]) ((qs.drop l[i].at_).take l[i].len) w hT ((HQ.out.drop _).take _) (strOf_list _) (by omega))
                rw [hlen] at C5
                have hoff : (texts qs (l.take i)).length + l[i].len + 1 = (texts qs (l.take (i + 1))).length := by
                  rw [List.take_succ_eq_append_getElem hlt, texts_append, texts_cons, List.length_append, List.length_append, hlen]
                  simp [texts_nil]
                  omega
                have hoffb : (texts qs (l.take (i + 1))).length ≤ 2000 := by
                  have h0 := chars_le (texts_all HQ.out (l.take (i + 1)))
                  have h1 := texts_take_le qs l (i + 1)
                  have h2 := HBY.out
                  have h3 := HQB.out
                  omega
                have HOFF := Lib.hid hoff
                rw [← hoff] at hoffb
                have hgq : g4 < wr.heap.size := by omega
                have hgq2 : g < wr.heap.size := by omega
                have hI1 : (i : Int) < (l.length : Int) := by omega
                have hI0 : (0 : Int) ≤ (i : Int) := by omega
                generalize l[i] = x at q0 q1 q2 q3 m0 m1 m2 C5 HOFF hoffb hszX
                obtain ⟨kind, at1, len, word⟩ := x
                generalize tkText qs ⟨kind, at1, len, word⟩ = X at q1 m1 C5 hszX
                obtain ⟨off, hofe⟩ : ∃ off, (texts qs (l.take i)).length = off := ⟨_, rfl⟩
                rw [hofe] at q3 HOFF hoffb
                dsimp only at q0 q2 q3 m0 m2 C5 HOFF hoffb
                have HOE := Lib.hid hofe
                rw [HOE.out]
                clear hofe k0 k1 k2 k3 p0 p1 p2 p3 hag htx hlen hoff hb2q hTq
                go_wp2_with fail
                go_quiet (fail)
                go_wp2_with fail
                have hbw : ∀ o n, Below wr.heap.size wr ((wr.alloc o).drewN n) := fun o n => below_drewN ((Below.refl _ _).alloc (Nat.le_refl _) o) n
                refine (C5.out _ (HTq.out.below (hbw _ _))).mono ?_
                rintro e w5 ⟨rfl, hb5⟩
                have hb45 : Below w4.heap.size w4 w5 := HBq.out.trans (((hbw _ _).trans (hb5.mono (hbw _ _).size)).mono hzq)
                have HB45 := Lib.hid hb45
                clear hb5 hb45 hbw C5 HTq
                go_wp2
                go_roundw
                case rel => exact ⟨i + 1, by first | rfl | go_num, by omega, by rw [← HOFF.out]; first | rfl | (congr 1; omega) | (congr 1), HB45⟩
                case measure => simp [RowKit.intOf]; omega
              · obtain rfl : i = l.length := by omega
                have hfin := HB4.out.trans (HBq.out.mono hz44)
                clear hlt
                go_wp2
                go_ret
                exact ⟨rfl, hfin⟩
      · obtain ⟨R, hR⟩ : ∃ R, tokF (charsOf qs) 0 = R := ⟨_, rfl⟩
        rw [hR] at C2 he
        obtain ⟨r1, r2, r3⟩ := R
        have he1 : ((r2 : Int) != 0) = true := by simpa using he
        clear hT hv hR hs hq
        go_enter Tryd.func4, Tryd.ntmps4
        go_wp2_with (go_at_call 7; refine C1.out.mono ?_; rintro e w1 ⟨rfl, hb1⟩)
        refine (C2.out _ (HT0.out.below hb1)).mono ?_
        rintro e w2 ⟨v, rfl, _, hb2⟩
        go_wp2
        go_ret
        exact ⟨rfl, hb1.trans (hb2.mono hb1.size)⟩
end Go.Proofs.YtbpiolklenopcaaDoor
