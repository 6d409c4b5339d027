/- The walk of layer 2: Tokens. -/
import Derived.Test.YtbpiolklenopcaaDoorWalkF
import Derived.Test.YtbpiolklenopcaaDoorPureB
import Derived.Laws.AppendOwn
set_option linter.unusedSimpArgs false
set_option linter.unusedVariables false
namespace Go.Proofs.YtbpiolklenopcaaDoor
open Go.RowKit Go.Lib
def tkText (qs : List Ch) (x : Tk) : ByteArray := strOf (bytesOf ((qs.drop x.at_).take x.len))
def tkCells (qs : List Ch) (x : Tk) : List Value := [.int .i64 x.kind, .string (tkText qs x), .int .u64 x.word, .int .i64 x.at_]
def rowOf (qs : List Ch) (l : List Tk) : List Value := (l.map (tkCells qs)).flatten
theorem rowOf_append (qs : List Ch) (a b : List Tk) : rowOf qs (a ++ b) = rowOf qs a ++ rowOf qs b := by simp [rowOf]
theorem rowOf_one (qs : List Ch) (x : Tk) : rowOf qs [x] = tkCells qs x := by simp [rowOf]
theorem Tryd.infoTok : (Tryd.prog.info? 32).map (fun i => (i.zero, i.size, i.bytes)) = some (some (.agg #[.int .i64 0, .string ⟨#[]⟩, .int .u64 0, .int .i64 0]), 4, 40) := by kernel_rfl
theorem ext_drop {s : ByteArray} {a b : List Ch} (hs : s.data.toList = bytesOf (a ++ b)) : s.extract (bytesOf a).length s.size = strOf (bytesOf b) := by
  have hz : s.size = (bytesOf (a ++ b)).length := size_chars hs
  have h : (s.extract (bytesOf a).length s.size).data.toList = bytesOf b := by
    rw [Lib.extract_data]
    rw [hs, hz, bytesOf_append]
    simp
  have h2 : ∀ (x y : ByteArray), x.data.toList = y.data.toList → x = y := by
    intro x y h
    cases x; cases y
    simp at h
    rw [h]
  exact h2 _ _ (by rw [h, strOf_list])
theorem cell_four_new (w : World) (a b c d : Value) (t : TypeId) : ∀ j u, [a, b, c, d][j]? = some u → (w.alloc (.cells #[a, b, c, d] t)).cell? ((⟨w.heap.size, 0, none⟩ : Addr).add j) = some u := by
  intro j u hj
  match j, hj with
  | 0, hj => simp at hj; subst hj; simp [Addr.add]
  | 1, hj => simp at hj; subst hj; simp [Addr.add]
  | 2, hj => simp at hj; subst hj; simp [Addr.add]
  | 3, hj => simp at hj; subst hj; simp [Addr.add]
  | j + 4, hj => simp at hj
theorem cell_four_at (w : World) (k : Nat) (a b c d : Value) (t : TypeId) (hk : k = w.heap.size) : ∀ j u, [a, b, c, d][j]? = some u → (w.alloc (.cells #[a, b, c, d] t)).cell? ((⟨k, 0, none⟩ : Addr).add j) = some u := by
  subst hk
  exact cell_four_new w a b c d t
theorem chars_le {qs : List Ch} (hq : AllPc qs) : qs.length ≤ (bytesOf qs).length := by
  induction qs with
  | nil => simp
  | cons q t ih =>
    have := pc_len hq.head
    have := ih hq.tail
    rw [bytesOf_cons, List.length_append, List.length_cons]
    omega
theorem own_lower {w : World} {B B' : Nat} {e : TypeId} {size : Nat} {v : Value} {n : Nat} {xs : List Value} (h : w.ownsRow B e size v n xs) (hb : B' ≤ B) : w.ownsRow B' e size v n xs := by
  obtain ⟨h1, h2⟩ := h
  refine ⟨h1, ?_⟩
  rcases h2 with h2 | ⟨g, cap, cur, a, b, c, d⟩
  · exact .inl h2
  · exact .inr ⟨g, cap, cur, a, by omega, c, d⟩
theorem below_iter {w w1 wr : World} (hb1 : Below w.heap.size w w1) (HB : Below w1.heap.size w1 wr) : Below w.heap.size w wr :=
  hb1.trans (HB.mono hb1.size)
theorem own_below {w w1 : World} {base : Nat} {e : TypeId} {size n : Nat} {v : Value} {xs : List Value} (h : w.ownsRow base e size v n xs) (hb : Below w.heap.size w w1) : w1.ownsRow base e size v n xs :=
  h.kept (row := none) ⟨hb.os, hb.tape, hb.output, hb.size, fun i hi _ => hb.block i hi⟩ (by cases v.ownBlock <;> simp)
def TokPost (qs : List Ch) (w : World) (R : List Tk × Nat × Nat) (e : Ending) (w' : World) : Prop :=
  ∃ v, e = .returned (.tuple #[v, .int .i64 R.2.1, .int .i64 R.2.2]) ∧ w'.ownsRow w.heap.size 32 4 v R.1.length (rowOf qs R.1) ∧ Below w.heap.size w w'
set_option maxRecDepth 100000 in
set_option maxHeartbeats 4000000 in
theorem tokens_told (s : ByteArray) (qs : List Ch) (w : World) (hT : Tabs w) (hq : AllPc qs) (hs : Hid (s.data.toList = bytesOf qs)) (hm : s.size ≤ 16384) :
    Calls Tryd.prog 8 #[.string s] w (TokPost qs w (tokF (charsOf qs) 0)) := by
  have c1 := told_any s w hT (by omega)
  rw [hs, valid_of qs hq] at c1
  have C1 := Lib.hid c1; clear c1
  obtain ⟨i0, hi, hz0, hz1, hz2⟩ := info_parts Tryd.infoTok
  go_enter Tryd.func8, Tryd.ntmps8
  go_wp2_with (go_at_call 12; refine C1.out.mono ?_; rintro e w1 ⟨rfl, hb1⟩)
  have hTA := hT.below hb1
  have HT1 := Lib.hid (hT.below (hb1.alloc hb1.size (.stringIter s 0)))
  have hz := hb1.size
  clear C1 hT
  go_loopw [5, 6, 7] (fun ov av kv wr => ∃ (d t : List Ch) (l : List Tk) (m skip : Nat), wr.heap[w1.heap.size]? = some (.stringIter s (bytesOf d).length) ∧ av = .int .i64 (d.length : Nat) ∧ kv = .int .i64 skip ∧ Hid (wr.ownsRow (w1.heap.size + 1) 32 4 ov l.length (rowOf qs l)) ∧ Hid (Below w1.heap.size w1 wr) ∧ Hid (qs = d ++ t) ∧ Hid (m ≤ t.length ∧ (skip ≤ (bytesOf d).length ∧ m = 0 ∨ skip = (bytesOf d).length + (bytesOf (t.take m)).length)) ∧ Hid (l.length ≤ d.length + m ∧ skip ≤ s.size) ∧ Hid (tokF (charsOf qs) 0 = joinT l (tokF (charsOf (t.drop m)) (d.length + m)))) (fun _ _ _ wr => s.size - wr.iterPos w1.heap.size)
  case atStart => exact ⟨[], qs, [], 0, 0, World.iter_heap w1 s 0, rfl, rfl, World.ownsRow_nil _ _ _ _, (Below.refl _ _).alloc (Nat.le_refl _) _, rfl, ⟨by omega, .inl ⟨by simp [bytesOf_nil], rfl⟩⟩, ⟨by simp, by omega⟩, (joinT_nil _ (tokF_zero _ _)).symm⟩
  case round =>
    obtain ⟨d, t, l, m, skip, hit, rfl, rfl, HO, HB, HQ, HM, HL, HR⟩ := hrel
    have hdl : d.length + t.length ≤ s.size := by
      have h1 := chars_le hq
      rw [← size_chars hs, HQ, List.length_append] at h1
      exact h1
    cases t with
    | nil =>
      have hzz := size_chars hs
      rw [HQ, List.append_nil] at hzz
      have hm0 : m = 0 := by have := HM.1; simpa using this
      have hnx : ∀ ty, (Instr.next (.pointer (some ⟨w1.heap.size, 0, none⟩)) true ty).run Tryd.prog wr = _ := fun ty => Lib.run_next_end_at wr w1.heap.size s _ ty hit (by omega)
      have HRR : Hid (tokF (charsOf qs) 0 = (l, 0, 0)) := by
        unfold Hid; rw [HR, hm0]; simp [charsOf, tokF_nil, joinT]
      clear hzz hm0 HM HL HR HQ hdl
      go_wp2
      go_ret3
      refine ⟨_, by rw [HRR]; rfl, ?_, ?_⟩
      · rw [HRR]; exact own_lower HO (by omega)
      · exact below_iter hb1 HB
    | cons q t =>
      obtain ⟨c, p⟩ := q
      have hp : PcOk (c, p) := hq _ (by rw [HQ]; simp)
      obtain ⟨h1, h2⟩ := next_at s d (c, p) t hp (by rw [hs, HQ])
      have hnx : ∀ ty, (Instr.next (.pointer (some ⟨w1.heap.size, 0, none⟩)) true ty).run Tryd.prog wr = _ := fun ty => Lib.run_next_any_at wr w1.heap.size s _ ty hit h2
      rw [h1] at hnx
      have hl2 : 1 ≤ p.length := pc_len hp
      have hcr : c ≤ 1114111 := pc_rune hp
      have hpos0 := iterPos_of hit
      have hKlt : w1.heap.size < wr.heap.size := (Array.getElem?_eq_some_iff.1 hit).1
      have hit2 := Lib.iterAt_heap wr w1.heap.size s _ ((bytesOf d).length + p.length) hit
      have hbw2 := Lib.below_iterAt HB (k := w1.heap.size) (Nat.le_refl _) s ((bytesOf d).length + p.length)
      have hown2 := ownsRow_iterAt HO (k := w1.heap.size) (by omega) s ((bytesOf d).length + p.length)
      have hsz2 := Lib.iterAt_size wr w1.heap.size s ((bytesOf d).length + p.length)
      dsimp only at hnx
      obtain ⟨W1, hW1⟩ : ∃ W1, W1 = wr.iterAt w1.heap.size s ((bytesOf d).length + p.length) := ⟨_, rfl⟩
      rw [← hW1] at hnx hit2 hbw2 hown2 hsz2
      have hKlt2 : w1.heap.size < W1.heap.size := by omega
      have HB2 := Lib.hid hbw2
      have HO2 := Lib.hid hown2
      have HI2 := Lib.hid hit2
      have HP0 := Lib.hid hpos0
      have hq2 : qs = (d ++ [(c, p)]) ++ t := by rw [HQ]; simp
      have HQ2 := Lib.hid hq2
      have hb2 : (bytesOf (d ++ [(c, p)])).length = (bytesOf d).length + p.length := by rw [bytesOf_append, List.length_append, bytesOf_cons, bytesOf_nil, List.append_nil]
      have HL2 := Lib.hid hb2
      have hd2 : d.length + 1 ≤ s.size := by simp at hdl; omega
      clear hW1 hbw2 hown2 hit2 hit HO HB hpos0 h1 hsz2 hq2 hb2
      cases m with
      | succ m =>
        have hm1 := HM.1
        have hm2 := HM.2
        have hsk : Hid (skip = (bytesOf (d ++ [(c, p)])).length + (bytesOf (t.take m)).length) := by
          unfold Hid
          rcases hm2 with ⟨_, h⟩ | h
          · cases h
          · rw [h, HL2.out, List.take_succ_cons, bytesOf_cons, List.length_append]
            show _ + (p.length + _) = _
            omega
        have hlt : (bytesOf d).length < skip := by rw [hsk, HL2.out]; omega
        have HR2 : Hid (tokF (charsOf qs) 0 = joinT l (tokF (charsOf (t.drop m)) ((d ++ [(c, p)]).length + m))) := by
          unfold Hid
          rw [HR, List.drop_succ_cons, List.length_append]
          simp only [List.length_cons, List.length_nil]
          rw [show d.length + (m + 1) = d.length + (0 + 1) + m by omega]
        have HLL : Hid (l.length ≤ (d ++ [(c, p)]).length + m ∧ skip ≤ s.size) := ⟨by have := HL.1; rw [List.length_append]; simp; omega, HL.2⟩
        have HMM : Hid (m ≤ t.length ∧ (skip ≤ (bytesOf (d ++ [(c, p)])).length ∧ m = 0 ∨ skip = (bytesOf (d ++ [(c, p)])).length + (bytesOf (t.take m)).length)) := ⟨by simp at hm1; omega, .inr hsk⟩
        clear hm1 hm2 hsk HM HL HR HQ
        go_wp2
        go_roundw
        case rel => exact ⟨d ++ [(c, p)], t, l, m, skip, by rw [HL2.out]; exact HI2.out, by simp, rfl, HO2, HB2, HQ2, HMM, HLL, HR2⟩
        case measure => rw [iterPos_of HI2.out, HP0.out]; omega
      | zero =>
        have hle : skip ≤ (bytesOf d).length := by
          rcases HM.2 with ⟨h, _⟩ | h
          · exact h
          · rw [h]; simp [bytesOf]
        have HR0 : Hid (tokF (charsOf qs) 0 = joinT l (tokF (c :: charsOf t) d.length)) := HR
        clear HR HM
        have hll : l.length ≤ d.length := HL.1
        have hsz3 : skip ≤ s.size := HL.2
        have HMM : Hid (0 ≤ t.length ∧ (skip ≤ (bytesOf (d ++ [(c, p)])).length ∧ 0 = 0 ∨ skip = (bytesOf (d ++ [(c, p)])).length + (bytesOf (t.take 0)).length)) := ⟨by omega, .inl ⟨by rw [HL2.out]; omega, rfl⟩⟩
        have HLL : Hid (l.length ≤ (d ++ [(c, p)]).length + 0 ∧ skip ≤ s.size) := ⟨by rw [List.length_append]; simp; omega, hsz3⟩
        by_cases h32 : c = 32
        · have HR2 : Hid (tokF (charsOf qs) 0 = joinT l (tokF (charsOf (t.drop 0)) ((d ++ [(c, p)]).length + 0))) := by
            unfold Hid; rw [HR0, tokF_blank (.inl h32)]; simp
          subst h32
          clear HR0 HL HQ
          go_wp2
          go_roundw
          case rel => exact ⟨d ++ [(32, p)], t, l, 0, skip, by rw [HL2.out]; exact HI2.out, by simp, rfl, HO2, HB2, HQ2, HMM, HLL, HR2⟩
          case measure => rw [iterPos_of HI2.out, HP0.out]; omega
        · by_cases h9 : c = 9
          · have HR2 : Hid (tokF (charsOf qs) 0 = joinT l (tokF (charsOf (t.drop 0)) ((d ++ [(c, p)]).length + 0))) := by
              unfold Hid; rw [HR0, tokF_blank (.inr h9)]; simp
            subst h9
            clear HR0 HL HQ
            go_wp2
            go_roundw
            case rel => exact ⟨d ++ [(9, p)], t, l, 0, skip, by rw [HL2.out]; exact HI2.out, by simp, rfl, HO2, HB2, HQ2, HMM, HLL, HR2⟩
            case measure => rw [iterPos_of HI2.out, HP0.out]; omega
          · by_cases h35 : c = 35
            · have HR2 : Hid (tokF (charsOf qs) 0 = (l, 0, 0)) := by
                subst h35
                unfold Hid; rw [HR0, tokF_remark]; simp [joinT]
              subst h35
              clear HR0 HL HQ
              go_wp2
              go_ret3
              refine ⟨_, by rw [HR2.out]; rfl, ?_, ?_⟩
              · rw [HR2.out]; exact own_lower HO2.out (by omega)
              · exact below_iter hb1 HB2.out
            · have hext := ext_drop (s := s) (a := d) (b := (c, p) :: t) (by rw [hs, HQ])
              have HX := Lib.hid hext
              have hTW := hTA.below HB2.out
              have hq3 : AllPc ((c, p) :: t) := fun x hx => hq x (by rw [HQ]; exact List.mem_append_right _ hx)
              have hbl : (bytesOf ((c, p) :: t)).length ≤ s.size := by rw [size_chars hs, HQ, bytesOf_append, List.length_append]; omega
              obtain ⟨kind, k, word, err, hN⟩ : ∃ kind k word err, nextC (charsOf ((c, p) :: t)) = (kind, k, word, err) := ⟨_, _, _, _, rfl⟩
              have b32 : ((c : Int) == 32) = false := by simp; omega
              have b9 : ((c : Int) == 9) = false := by simp; omega
              have b35 : ((c : Int) == 35) = false := by simp; omega
              by_cases herr : err = 0
              · subst herr
                have hk := @nextC_len c (charsOf t)
                rw [show nextC (c :: charsOf t) = (kind, k, word, 0) from hN] at hk
                have hk1 : 1 ≤ k := hk.1
                have hk2 : k ≤ t.length + 1 := by have := hk.2; simpa [charsOf] using this
                have C2 := Lib.hid (fun (a : Int) w hT => next_ok (strOf (bytesOf ((c, p) :: t))) c p t a w kind k word hT hq3 (strOf_list _) (by rw [strOf_size]; omega) hN)
                obtain ⟨S2, hS2⟩ : ∃ S2, strOf (bytesOf (((c, p) :: t).take k)) = S2 := ⟨_, rfl⟩
                obtain ⟨N2, hN2⟩ : ∃ N2, (bytesOf (((c, p) :: t).take k)).length = N2 := ⟨_, rfl⟩
                have hNs : (bytesOf d).length + N2 ≤ s.size := by
                  have h3 : (bytesOf ((c, p) :: t)).length = (bytesOf (((c, p) :: t).take k)).length + (bytesOf (((c, p) :: t).drop k)).length := by rw [← List.length_append, ← bytesOf_append, List.take_append_drop]
                  have h4 : s.size = (bytesOf d).length + (bytesOf ((c, p) :: t)).length := by rw [size_chars hs, HQ, bytesOf_append, List.length_append]
                  omega
                rw [hS2, hN2] at C2
                have hXT : rowOf qs [⟨kind, d.length, k, word⟩] = [.int .i64 kind, .string S2, .int .u64 word, .int .i64 (d.length : Nat)] := by
                  rw [rowOf_one]
                  unfold tkCells tkText
                  simp only
                  rw [HQ, List.drop_left' rfl, hS2]
                have HXT := Lib.hid hXT
                have HR2 : Hid (tokF (charsOf qs) 0 = joinT (l ++ [⟨kind, d.length, k, word⟩]) (tokF (charsOf (t.drop (k - 1))) ((d ++ [(c, p)]).length + (k - 1)))) := by
                  unfold Hid
                  rw [HR0, tokF_ok (by omega) h35 (by rw [show nextC (c :: charsOf t) = (kind, k, word, 0) from hN]), show nextC (c :: charsOf t) = (kind, k, word, 0) from hN, joinT_join]
                  obtain ⟨k, rfl⟩ : ∃ k', k = k' + 1 := ⟨k - 1, by omega⟩
                  simp only [List.drop_succ_cons, Nat.add_sub_cancel, List.length_append, List.length_cons, List.length_nil]
                  rw [show d.length + (k + 1) = d.length + (0 + 1) + k by omega]
                  unfold charsOf
                  rw [List.map_drop]
                have HMM2 : Hid (k - 1 ≤ t.length ∧ ((bytesOf d).length + N2 ≤ (bytesOf (d ++ [(c, p)])).length ∧ k - 1 = 0 ∨ (bytesOf d).length + N2 = (bytesOf (d ++ [(c, p)])).length + (bytesOf (t.take (k - 1))).length)) := by
                  refine ⟨by omega, .inr ?_⟩
                  obtain ⟨k, rfl⟩ : ∃ k', k = k' + 1 := ⟨k - 1, by omega⟩
                  rw [← hN2, HL2.out, List.take_succ_cons, bytesOf_cons, List.length_append]
                  simp only [Nat.add_sub_cancel]
                  omega
                have HLL2 : Hid ((l ++ [(⟨kind, d.length, k, word⟩ : Tk)]).length ≤ (d ++ [(c, p)]).length + (k - 1) ∧ (bytesOf d).length + N2 ≤ s.size) := ⟨by rw [List.length_append, List.length_append]; simp; omega, hNs⟩
                clear hext hk HL HLL HMM HR0 hXT hS2 hN2 hN hq3 HQ hbl hk1 hk2
                go_wp2_with fail
                rw [HX.out]
                refine (C2.out _ _ hTW).mono ?_
                rintro e w3 ⟨rfl, hb3⟩
                have hz3 := hb3.size
                have hKlt3 : w1.heap.size < w3.heap.size := by omega
                have HB3 := Lib.hid (HB2.out.trans (hb3.mono (by omega)))
                have hown3 := own_below HO2.out hb3
                have HO3 := Lib.hid hown3
                have hit3 : w3.heap[w1.heap.size]? = some (.stringIter s ((bytesOf d).length + p.length)) := by rw [hb3.block _ (by omega)]; exact HI2.out
                have HI3 := Lib.hid hit3
                clear C2 HX hb3 hTW hown3 hit3 HI2 HB2 HO2
                go_wp2_with (at_builtin; refine wpList_append_own _ rfl _ _ 23 rfl (w1.heap.size + 1) 32 i0 (.agg #[.int .i64 0, .string ⟨#[]⟩, .int .u64 0, .int .i64 0]) 4 40 Tryd.underlying23 hi hz0 hz1 hz2 rfl (by decide) _ _ _ rfl ((HO3.out.alloc _).alloc _) ⟨w3.heap.size + 1, 0, none⟩ 1 1 [.int .i64 kind, .string S2, .int .u64 word, .int .i64 (d.length : Nat)] rfl rfl (cell_four_at _ _ _ _ _ _ _ (by simp)) (fun x hx => by simp at hx; rcases hx with rfl | rfl | rfl | rfl <;> rfl) (by unfold maxLen; omega) (by omega) (by simp; omega) ?_; intro v' w4 hown4 hgrow4 _)
                have hit4 : w4.heap[w1.heap.size]? = some (.stringIter s ((bytesOf d).length + p.length)) := by
                  rw [hgrow4.block w1.heap.size (by simp; omega) (fun h => by have := (HO3.out.lt _ h.symm).1; omega), Below.heap_alloc _ _ _ (by simp; omega), Below.heap_alloc _ _ _ hKlt3]
                  exact HI3.out
                have hb4 : Below w1.heap.size w1 w4 := Below.grown ((HB3.out.alloc (by omega) _).alloc (by simp; omega) _) hgrow4 (by simp; omega) (fun j hj => by have := (HO3.out.lt _ hj).1; omega)
                have ho4 : w4.ownsRow (w1.heap.size + 1) 32 4 v' (l ++ [(⟨kind, d.length, k, word⟩ : Tk)]).length (rowOf qs (l ++ [⟨kind, d.length, k, word⟩])) := by
                  rw [rowOf_append, HXT.out, List.length_append]
                  exact hown4
                have HI4 := Lib.hid hit4
                have HB4 := Lib.hid hb4
                have HO4 := Lib.hid ho4
                clear hit4 hb4 ho4 hown4 hgrow4 HO3 HB3 HI3 HXT
                go_roundw
                case rel => exact ⟨d ++ [(c, p)], t, l ++ [⟨kind, d.length, k, word⟩], k - 1, (bytesOf d).length + N2, by rw [HL2.out]; exact HI4.out, by simp, by simp, HO4, HB4, HQ2, HMM2, HLL2, HR2⟩
                case measure => rw [iterPos_of HI4.out, HP0.out]; omega
              · have C2 := Lib.hid (fun (a : Int) w hT => next_err (strOf (bytesOf ((c, p) :: t))) c p t a w kind k word err hT hq3 (strOf_list _) (by rw [strOf_size]; omega) hN herr)
                have HR2 : Hid (tokF (charsOf qs) 0 = ([], err, d.length)) := by
                  unfold Hid
                  rw [HR0, tokF_bad (by omega) h35 (by rw [show nextC (c :: charsOf t) = (kind, k, word, err) from hN]; exact herr)]
                  rw [show nextC (c :: charsOf t) = (kind, k, word, err) from hN]
                  unfold joinT
                  rw [if_pos herr]
                have herr2 : ((err : Int) == 0) = false := by simp; omega
                clear HR0 HL HLL HMM hext hN hq3 HQ hbl herr
                go_wp2_with fail
                rw [HX.out]
                refine (C2.out _ _ hTW).mono ?_
                rintro e w3 ⟨a0, a1, a2, a3, n, rfl, hb3⟩
                have hz3 := hb3.size
                have HB3 := Lib.hid (below_iter hb1 (HB2.out.trans (hb3.mono (by omega))))
                clear C2 HX hb3 hTW
                go_wp2
                go_ret3
                refine ⟨_, by rw [HR2.out]; rfl, ?_, ?_⟩
                · rw [HR2.out]; exact World.ownsRow_nil _ _ _ _
                · exact HB3.out.alloc (by omega) _
end Go.Proofs.YtbpiolklenopcaaDoor
