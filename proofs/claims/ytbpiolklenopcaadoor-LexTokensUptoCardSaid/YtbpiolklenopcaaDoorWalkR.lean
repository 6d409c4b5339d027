/- The walk of the reference's Tokens. -/
import Derived.Test.YtbpiolklenopcaaDoorWalkO
import Derived.Test.YtbpiolklenopcaaDoorPureD
set_option linter.unusedSimpArgs false
set_option linter.unusedVariables false
namespace Go.Proofs.YtbpiolklenopcaaDoor
open Go.RowKit Go.Lib
def tCells (x : Tk) : List Value := [.int .i64 x.kind, .int .i64 x.at_, .int .i64 (x.at_ + x.len : Nat), .int .u64 x.word]
def rowR (l : List Tk) : List Value := (l.map tCells).flatten
theorem rowR_append (a b : List Tk) : rowR (a ++ b) = rowR a ++ rowR b := by simp [rowR]
theorem rowR_one (x : Tk) : rowR [x] = tCells x := by simp [rowR]
theorem Tryd.infoT : (Tryd.prog.info? 34).map (fun i => (i.zero, i.size, i.bytes)) = some (some (.agg #[.int .i64 0, .int .i64 0, .int .i64 0, .int .u64 0]), 4, 32) := by kernel_rfl
def RTokPost (w : World) (R : List Tk × Nat × Nat) (e : Ending) (w' : World) : Prop :=
  ∃ v, e = .returned (.tuple #[v, .int .i64 R.2.1, .int .i64 R.2.2]) ∧ w'.ownsRow w.heap.size 34 4 v R.1.length (rowR R.1) ∧ Below w.heap.size w w'
theorem rtokPost_no {R : List Tk × Nat × Nat} {w w' : World} {e at_ : Nat} (hR : R = ([], e, at_)) (hb : Below w.heap.size w w') : RTokPost w R (.returned (.tuple #[.slice none 0 0, .int .i64 e, .int .i64 at_])) w' :=
  ⟨_, by rw [hR], by rw [hR]; exact World.ownsRow_nil w' w.heap.size 34 4, hb⟩
/-- How many letters and digits stand at a place. -/
theorem partLen_next {cs : List Nat} {i k : Nat} (h1 : i ≤ k) (h2 : k < i + partLen (cs.drop i)) : ∃ h : k < cs.length, partN (cs[k]'h) = true := by
  have h3 := partLen_le (cs.drop i)
  rw [List.length_drop] at h3
  have hk : k < cs.length := by omega
  refine ⟨hk, ?_⟩
  have hp := List.takeWhile_prefix (l := cs.drop i) partN
  have h4 : (cs.drop i)[k - i]? = some (cs[k]'hk) := by
    rw [List.getElem?_drop, show i + (k - i) = k by omega, List.getElem?_eq_getElem hk]
  have hlt : k - i < ((cs.drop i).takeWhile partN).length := by unfold partLen at h2; omega
  have h5 : ((cs.drop i).takeWhile partN)[k - i]'hlt = cs[k]'hk := by
    have h6 := List.IsPrefix.getElem hp hlt
    rw [h6]
    rw [List.getElem?_eq_getElem (by rw [List.length_drop]; omega)] at h4
    exact Option.some.inj h4
  have h7 := List.all_eq_true.1 (List.all_takeWhile (l := cs.drop i) (p := partN)) _ (List.getElem_mem hlt)
  rw [h5] at h7
  exact h7
theorem partLen_stop {cs : List Nat} {i : Nat} (h : i + partLen (cs.drop i) < cs.length) : partN (cs[i + partLen (cs.drop i)]'h) = false := by
  have h2 : (cs.drop i)[partLen (cs.drop i)]? = some (cs[i + partLen (cs.drop i)]'h) := by
    rw [List.getElem?_drop, List.getElem?_eq_getElem h]
  have h3 : ∀ L : List Nat, L[partLen L]? = (L.dropWhile partN)[0]? := by
    intro L
    unfold partLen
    induction L with
    | nil => rfl
    | cons c t ih =>
      rw [List.takeWhile_cons, List.dropWhile_cons]
      split
      · rw [List.length_cons, List.getElem?_cons_succ]; exact ih
      · rfl
  rw [h3] at h2
  have h4 := List.head?_dropWhile_not partN (cs.drop i)
  rw [List.head?_eq_getElem?, h2] at h4
  simpa using h4
theorem partLen_none {c : Nat} {t : List Nat} (h : partN c = false) : partLen (c :: t) = 0 := by unfold partLen; rw [List.takeWhile_cons, h]; rfl
theorem partLen_some {c : Nat} {t : List Nat} (h : partN c = true) : 1 ≤ partLen (c :: t) := by unfold partLen; rw [List.takeWhile_cons, if_pos h]; simp
set_option maxRecDepth 100000 in
set_option maxHeartbeats 400000 in
theorem rtokens_long (s : ByteArray) (w : World) (hm : 16384 < s.size) (hm2 : s.size ≤ 9223372036854775807) :
    Calls Tryd.prog 9 #[.string s] w fun e w' => e = .returned (.tuple #[.slice none 0 0, .int .i64 11, .int .i64 0]) ∧ Below w.heap.size w w' := by
  go_enter Tryd.func9, Tryd.ntmps9
  go_wp2_with fail
  go_ret3
  exact ⟨rfl, Below.refl _ _⟩
set_option maxRecDepth 100000 in
set_option maxHeartbeats 400000 in
theorem rtokens_bad (s : ByteArray) (w : World) (hv : charsV s.data.toList = ([], false)) (hm : s.size ≤ 16384) :
    Calls Tryd.prog 9 #[.string s] w fun e w' => e = .returned (.tuple #[.slice none 0 0, .int .i64 60, .int .i64 0]) ∧ Below w.heap.size w w' := by
  have c1 := chars_any s w (by omega)
  rw [hv] at c1
  have C1 := Lib.hid c1
  clear c1 hv
  go_enter Tryd.func9, Tryd.ntmps9
  go_wp2_with (go_at_call 18; refine C1.out.mono ?_; rintro e w1 ⟨v, rfl, hown, hb⟩; have HO := Lib.hid hown; clear hown)
  go_ret3
  exact ⟨rfl, hb⟩
set_option maxRecDepth 100000 in
set_option maxHeartbeats 16000000 in
theorem rtokens_told (s : ByteArray) (cs : List Nat) (w : World) (hv : charsV s.data.toList = (cs, true)) (hcs : cs.length ≤ 16384) (hmax : ∀ x ∈ cs, x ≤ 1114111) (hm : s.size ≤ 16384) :
    Calls Tryd.prog 9 #[.string s] w (RTokPost w (tokF cs 0)) := by
  have c1 := chars_any s w (by omega)
  rw [hv] at c1
  have C1 := Lib.hid c1
  clear c1 hv
  obtain ⟨i0, hi, hz0, hz1, hz2⟩ := info_parts Tryd.infoT
  obtain ⟨R, hR⟩ : ∃ R, tokF cs 0 = R := ⟨_, rfl⟩
  have HR0 : Hid (R = joinT [] (tokF (cs.drop 0) 0)) := by unfold Hid; rw [List.drop_zero, hR, joinT_nil _ (by rw [← hR]; exact tokF_zero _ _)]
  rw [hR]
  clear hR
  have HM := Lib.hid hmax
  clear hmax
  go_enter Tryd.func9, Tryd.ntmps9
  go_wp2_with (go_at_call 18; refine C1.out.mono ?_; rintro e w1 ⟨v, rfl, hown, hb⟩; obtain ⟨A, cap, rfl⟩ : ∃ A cap, v = .slice A cs.length cap := own_slice hown; have HO := Lib.hid hown; clear hown)
  have HB1 := Lib.hid hb
  have hz1b := hb.size
  clear hb C1
  go_loopw [7, 8] (fun ov iv wr => ∃ (i : Nat) (l : List Tk), iv = .int .i64 i ∧ i ≤ cs.length ∧ l.length ≤ i ∧ Hid (wr.ownsRow w1.heap.size 34 4 ov l.length (rowR l)) ∧ Hid (Below w1.heap.size w1 wr) ∧ Hid (R = joinT l (tokF (cs.drop i) i))) (fun _ iv _ => cs.length - (RowKit.intOf iv).toNat)
  case atStart => exact ⟨0, [], rfl, by omega, by simp, World.ownsRow_nil w1 w1.heap.size 34 4, Below.refl _ _, HR0⟩
  case round =>
    clear HR0
    obtain ⟨i, l, rfl, hil, hll, HOo, HBr, HR⟩ := hrel
    have hzr := HBr.size
    have hfinal := HB1.out.trans (HBr.out.mono hz1b)
    by_cases hlt : i < cs.length
    · obtain ⟨g, cap', hA, _, hg⟩ := World.ownsRow.form HO.out (by omega)
      simp only [Value.slice.injEq, true_and] at hA
      obtain ⟨rfl, rfl⟩ := hA
      have hcell : ∀ j (h : j < cs.length), wr.cell? ⟨g, j, none⟩ = some (.int .i64 (cs[j]'h : Nat)) := fun j h => by
        rw [HBr.out.cell (p := ⟨g, j, none⟩) hg, World.ownsRow.cellAt HO.out j (by omega)]
        exact natsV_at h
      have hcap : cs.length ≤ cap ∧ cap ≤ 9223372036854775807 := by
        rcases HO.out.2 with ⟨h, _⟩ | ⟨g', cap', cur, h, _, _, h1, h2, _⟩
        · cases h
        · cases h
          unfold maxLen at h2
          omega
      have HC := Lib.hid hcell
      have hci := hcell i hlt
      have hdr := List.drop_eq_getElem_cons hlt
      obtain ⟨c, hc⟩ : ∃ c, cs[i] = c := ⟨_, rfl⟩
      rw [hc] at hci hdr
      have hcm : c ≤ 1114111 := by rw [← hc]; exact HM.out _ (List.getElem_mem hlt)
      have HDR := Lib.hid hdr
      have HCC := Lib.hid hc
      clear hcell hdr hc
      have hRl := HR
      by_cases h35 : c = 35
      · have hend : Hid (R = (l, 0, 0)) := by unfold Hid; rw [HR, HDR.out, h35, tokF_remark]; simp [joinT]
        subst h35
        clear HR hRl
        go_wp2
        go_ret3
        refine ⟨_, by rw [hend.out]; rfl, ?_, hfinal⟩
        rw [hend.out]; exact own_lower HOo.out (by omega)
      · by_cases hbl : c = 32 ∨ c = 9
        · have HR2 : Hid (R = joinT l (tokF (cs.drop (i + 1)) (i + 1))) := by unfold Hid; rw [HR, HDR.out, tokF_blank hbl]
          clear HR hRl
          rcases hbl with rfl | rfl
          all_goals
            go_wp2
            go_roundw
            case rel => exact ⟨i + 1, l, by first | rfl | go_num, by omega, by omega, HOo, HBr, HR2⟩
            case measure => simp [RowKit.intOf]; omega
        · have b32 : ((c : Int) == 32) = false := by simp; omega
          have b9 : ((c : Int) == 9) = false := by simp; omega
          have b35 : ((c : Int) != 35) = true := by simp; omega
          -- TOKEN
          obtain ⟨P, hP⟩ : ∃ P, partLen (cs.drop i) = P := ⟨_, rfl⟩
          have hP1 : ∀ k, i ≤ k → k < i + P → ∃ h : k < cs.length, partN (cs[k]'h) = true := fun k h1 h2 => partLen_next h1 (by rw [hP]; exact h2)
          have hP2 : ∀ h : i + P < cs.length, partN (cs[i + P]'h) = false := fun h => by
            have h1 := partLen_stop (cs := cs) (i := i) (by rw [hP]; exact h)
            simp only [hP] at h1
            exact h1
          have hPle : i + P ≤ cs.length := by
            have h1 := partLen_le (cs.drop i)
            rw [hP, List.length_drop] at h1
            omega
          have hgw : g < wr.heap.size := by omega
          have HP1 := Lib.hid hP1
          have HP2 := Lib.hid hP2
          have HFIN := Lib.hid hfinal
          rw [HDR.out] at hP hRl
          have HRl := Lib.hid hRl
          clear hP1 hP2 hRl HR hfinal
          cases hpc : partN c with
          | false =>
            have hP0 : P = 0 := by rw [← hP]; exact partLen_none hpc
            have CP := Lib.hid (fun w => rpart_any c w)
            rw [hpc] at CP
            subst hP0
            have CS := Lib.hid (fun w => rsign_any c w)
            have hN : nextC (c :: cs.drop (i + 1)) = (3, 1, 0, if signN c then 0 else 61) := by
              unfold nextC; rw [hP, if_pos rfl]; rfl
            cases hsg : signN c with
            | false =>
              rw [hsg] at CS hN
              have hbad : Hid (R = ([], 61, i)) := by
                unfold Hid
                rw [HRl.out, tokF_bad hbl h35 (by rw [hN]; simp), hN]
                rfl
              have HBAD := Lib.hid hbad
              clear hbad hN hsg hpc hP hbl h35
              go_wp2_with fail
              go_loop [9] (fun kv => kv = .int .i64 i) (fun _ => 0)
              case atStart => rfl
              case round =>
                subst hrel
                go_wp2_with (first | (go_at_call 19; refine (CP.out _).mono ?_; rintro e w' ⟨rfl, rfl⟩) | (go_at_call 20; refine (CS.out _).mono ?_; rintro e w' ⟨rfl, rfl⟩))
                go_ret3
                exact rtokPost_no HBAD.out (HFIN.out.alloc HFIN.out.size _)
            | true =>
              rw [hsg] at CS hN
              have HR2 : Hid (R = joinT (l ++ [(⟨3, i, 1, 0⟩ : Tk)]) (tokF (cs.drop (i + 1)) (i + 1))) := by
                unfold Hid
                rw [HRl.out, tokF_ok hbl h35 (by rw [hN]; simp), hN, joinT_join]
                rfl
              clear hN hsg hpc hP hbl h35 HRl
              go_wp2_with fail
              go_loop [9] (fun kv => kv = .int .i64 i) (fun _ => 0)
              case atStart => rfl
              case round =>
                subst hrel
                go_wp2_with (first | (go_at_call 19; refine (CP.out _).mono ?_; rintro e w' ⟨rfl, rfl⟩) | (go_at_call 20; refine (CS.out _).mono ?_; rintro e w' ⟨rfl, rfl⟩) | (at_builtin; refine wpList_append_own _ rfl _ _ 27 rfl w1.heap.size 34 i0 (.agg #[.int .i64 0, .int .i64 0, .int .i64 0, .int .u64 0]) 4 32 Tryd.underlying27 hi hz0 hz1 hz2 rfl (by decide) _ _ _ rfl ((HOo.out.alloc _).alloc _) ⟨wr.heap.size + 1, 0, none⟩ 1 1 [.int .i64 3, .int .i64 (i : Nat), .int .i64 ((i : Int) + 1), .int .u64 0] rfl rfl (cell_four_at _ _ _ _ _ _ _ (by simp)) (fun x hx => by simp at hx; rcases hx with rfl | rfl | rfl | rfl <;> rfl) (by unfold maxLen; omega) (by omega) (by simp; omega) ?_; intro v' w4 hown4 hgrow4 _; have hto : w4.cell? ⟨wr.heap.size, 2, none⟩ = some (.int .i64 ((i : Int) + 1)) := hgrow4.cell (a := ⟨wr.heap.size, 2, none⟩) (by simp) (fun h => absurd (HOo.out.lt wr.heap.size h.symm).2 (Nat.lt_irrefl _))))
                all_goals
                  have hb4 : Below w1.heap.size w1 w4 := Below.grown ((HBr.out.alloc hzr _).alloc (by simp; omega) _) hgrow4 (by simp; omega) (fun j hj => by have := (HOo.out.lt _ hj).1; omega)
                  have ho4 : w4.ownsRow w1.heap.size 34 4 v' (l ++ [(⟨3, i, 1, 0⟩ : Tk)]).length (rowR (l ++ [(⟨3, i, 1, 0⟩ : Tk)])) := by
                    rw [rowR_append, rowR_one, List.length_append]
                    exact hown4
                  have HB4 := Lib.hid hb4
                  have HO4 := Lib.hid ho4
                  clear hb4 ho4 hown4 hgrow4
                  go_roundw
                  case rel => exact ⟨i + 1, l ++ [(⟨3, i, 1, 0⟩ : Tk)], by first | rfl | go_num, by omega, by rw [List.length_append]; simp; omega, HO4, HB4, HR2⟩
                  case measure => simp [RowKit.intOf]; omega
          | true =>
            have hP1 : 1 ≤ P := by rw [← hP]; exact partLen_some hpc
            have hlenu : ((cs.drop i).take P).length = P := by rw [List.length_take, List.length_drop]; omega
            have hNw : nextC (c :: cs.drop (i + 1)) = ((wordC ((cs.drop i).take P)).1, P, (wordC ((cs.drop i).take P)).2) := by
              unfold nextC; rw [hP, if_neg (by omega), ← HDR.out]
            have hhead : ((cs.drop i).take P).headD 0 = c := by
              rw [HDR.out]
              obtain ⟨P, rfl⟩ : ∃ p, P = p + 1 := ⟨P - 1, by omega⟩
              rfl
            have CD := Lib.hid (fun w => rdigit_any c w)
            have hstep : ∀ kind word, nextC (c :: cs.drop (i + 1)) = (kind, P, word, 0) → R = joinT (l ++ [(⟨kind, i, P, word⟩ : Tk)]) (tokF (cs.drop (i + P)) (i + P)) := fun kind word hN => by
              rw [HRl.out, tokF_ok hbl h35 (by rw [hN]), hN, joinT_join, ← HDR.out, List.drop_drop]
            have hstop : ∀ kind word err, nextC (c :: cs.drop (i + 1)) = (kind, P, word, err) → err ≠ 0 → R = ([], err, i) := fun kind word err hN he => by
              rw [HRl.out, tokF_bad hbl h35 (by rw [hN]; exact he), hN]
              unfold joinT
              rw [if_pos he]
            have hki : (((i : Int) + (P : Int)) == (i : Int)) = false := by simp; omega
            have hke : decide ((i : Int) + (P : Int) = (i : Int)) = false := decide_eq_false (by omega)
            cases hdc : digN c with
            | true =>
              rw [hdc] at CD
              have CV : Hid (∀ W, Below wr.heap.size wr W → Calls Tryd.prog 14 #[.slice (some ⟨g, i, none⟩) P (cap - i)] W fun e w' => e = .returned (.tuple #[.int .u64 (valueC ((cs.drop i).take P)).1, .int .i64 (valueC ((cs.drop i).take P)).2]) ∧ W = w') := fun W hb => by
                have h1 := rvalue_cells ((cs.drop i).take P) g i (cap - i) W (by rw [hlenu]; omega) (by rw [hlenu]; omega) (by omega) (fun j hj => by
                  rw [hlenu] at hj
                  have h2 := HC.out (i + j) (by omega)
                  rw [hb.cell (p := ⟨g, i + j, none⟩) hgw, h2, List.getElem_take, List.getElem_drop]) (fun x hx => HM.out x (List.mem_of_mem_drop (List.mem_of_mem_take hx)))
                rw [hlenu] at h1
                exact h1
              have hN : nextC (c :: cs.drop (i + 1)) = (2, P, valueC ((cs.drop i).take P)) := by rw [hNw]; unfold wordC; rw [hhead, hdc, if_pos rfl]
              generalize valueC ((cs.drop i).take P) = V at CV hN
              obtain ⟨v1, v2⟩ := V
              by_cases hv2 : v2 = 0
              · subst hv2
                have HR2 := Lib.hid (hstep 2 v1 hN)
                clear hN hNw hstep hstop hpc hP hbl h35 HRl hhead hlenu hdc
                go_wp2_with fail
                go_loop [9] (fun kv => ∃ k : Nat, kv = .int .i64 k ∧ i ≤ k ∧ k ≤ i + P) (fun kv => i + P - (RowKit.intOf kv).toNat)
                case atStart => exact ⟨i, rfl, by omega, by omega⟩
                case round =>
                  obtain ⟨k, rfl, hk1, hk2⟩ := hrel
                  by_cases hkP : k < i + P
                  · obtain ⟨hkl, hpk⟩ := HP1.out k hk1 hkP
                    have hck := HC.out k hkl
                    have CP := Lib.hid (fun w => rpart_any cs[k] w)
                    rw [hpk] at CP
                    generalize cs[k] = ck at hck CP
                    clear hpk
                    go_wp2_with (go_at_call 19; refine (CP.out _).mono ?_; rintro e w' ⟨rfl, rfl⟩)
                    go_round
                    case rel => exact ⟨k + 1, by first | rfl | go_num, by omega, by omega⟩
                    case measure => simp [RowKit.intOf]; omega
                  · obtain rfl : k = i + P := by omega
                    clear hkP hk1 hk2
                    rcases (by omega : i + P = cs.length ∨ i + P < cs.length) with hPl | hPl
                    · have hPl2 : ¬ (((i : Int) + (P : Int)) < (cs.length : Int)) := by omega
                      have hPl3 : (cs.length : Int) ≤ (i : Int) + (P : Int) := by omega
                      clear hPl
                      go_wp2_with (first | (go_at_call 19; refine (CP.out _).mono ?_; rintro e w' ⟨rfl, rfl⟩) | (go_at_call 21; refine (CD.out _).mono ?_; rintro e w' ⟨rfl, rfl⟩) | (go_at_call 14; refine (CV.out _ ((Below.refl _ _).alloc (Nat.le_refl _) _)).mono ?_; rintro e w' ⟨rfl, rfl⟩) | (at_builtin; refine wpList_append_own _ rfl _ _ 27 rfl w1.heap.size 34 i0 (.agg #[.int .i64 0, .int .i64 0, .int .i64 0, .int .u64 0]) 4 32 Tryd.underlying27 hi hz0 hz1 hz2 rfl (by decide) _ _ _ rfl ((HOo.out.alloc _).alloc _) ⟨wr.heap.size + 1, 0, none⟩ 1 1 [.int .i64 2, .int .i64 (i : Nat), .int .i64 ((i : Int) + (P : Int)), .int .u64 v1] rfl rfl (cell_four_at _ _ _ _ _ _ _ (by simp)) (fun x hx => by simp at hx; rcases hx with rfl | rfl | rfl | rfl <;> rfl) (by unfold maxLen; omega) (by omega) (by simp; omega) ?_; intro v' w4 hown4 hgrow4 _; have hto : w4.cell? ⟨wr.heap.size, 2, none⟩ = some (.int .i64 ((i : Int) + (P : Int))) := hgrow4.cell (a := ⟨wr.heap.size, 2, none⟩) (by simp) (fun h => absurd (HOo.out.lt wr.heap.size h.symm).2 (Nat.lt_irrefl _))))
                      all_goals
                        have hb4 : Below w1.heap.size w1 w4 := Below.grown ((HBr.out.alloc hzr _).alloc (by simp; omega) _) hgrow4 (by simp; omega) (fun j hj => by have := (HOo.out.lt _ hj).1; omega)
                        have ho4 : w4.ownsRow w1.heap.size 34 4 v' (l ++ [(⟨2, i, P, v1⟩ : Tk)]).length (rowR (l ++ [(⟨2, i, P, v1⟩ : Tk)])) := by
                          rw [rowR_append, rowR_one, List.length_append]
                          exact hown4
                        have HB4 := Lib.hid hb4
                        have HO4 := Lib.hid ho4
                        clear hb4 ho4 hown4 hgrow4
                        go_roundw
                        case rel => exact ⟨i + P, l ++ [(⟨2, i, P, v1⟩ : Tk)], by first | rfl | go_num, by omega, by rw [List.length_append]; simp; omega, HO4, HB4, HR2⟩
                        case measure => simp [RowKit.intOf]; omega
                    · have hps := HP2.out hPl
                      have hck := HC.out (i + P) hPl
                      have CP := Lib.hid (fun w => rpart_any cs[i + P] w)
                      rw [hps] at CP
                      generalize cs[i + P] = ck at hck CP
                      clear hps
                      go_wp2_with (first | (go_at_call 19; refine (CP.out _).mono ?_; rintro e w' ⟨rfl, rfl⟩) | (go_at_call 21; refine (CD.out _).mono ?_; rintro e w' ⟨rfl, rfl⟩) | (go_at_call 14; refine (CV.out _ ((Below.refl _ _).alloc (Nat.le_refl _) _)).mono ?_; rintro e w' ⟨rfl, rfl⟩) | (at_builtin; refine wpList_append_own _ rfl _ _ 27 rfl w1.heap.size 34 i0 (.agg #[.int .i64 0, .int .i64 0, .int .i64 0, .int .u64 0]) 4 32 Tryd.underlying27 hi hz0 hz1 hz2 rfl (by decide) _ _ _ rfl ((HOo.out.alloc _).alloc _) ⟨wr.heap.size + 1, 0, none⟩ 1 1 [.int .i64 2, .int .i64 (i : Nat), .int .i64 ((i : Int) + (P : Int)), .int .u64 v1] rfl rfl (cell_four_at _ _ _ _ _ _ _ (by simp)) (fun x hx => by simp at hx; rcases hx with rfl | rfl | rfl | rfl <;> rfl) (by unfold maxLen; omega) (by omega) (by simp; omega) ?_; intro v' w4 hown4 hgrow4 _; have hto : w4.cell? ⟨wr.heap.size, 2, none⟩ = some (.int .i64 ((i : Int) + (P : Int))) := hgrow4.cell (a := ⟨wr.heap.size, 2, none⟩) (by simp) (fun h => absurd (HOo.out.lt wr.heap.size h.symm).2 (Nat.lt_irrefl _))))
                      all_goals
                        have hb4 : Below w1.heap.size w1 w4 := Below.grown ((HBr.out.alloc hzr _).alloc (by simp; omega) _) hgrow4 (by simp; omega) (fun j hj => by have := (HOo.out.lt _ hj).1; omega)
                        have ho4 : w4.ownsRow w1.heap.size 34 4 v' (l ++ [(⟨2, i, P, v1⟩ : Tk)]).length (rowR (l ++ [(⟨2, i, P, v1⟩ : Tk)])) := by
                          rw [rowR_append, rowR_one, List.length_append]
                          exact hown4
                        have HB4 := Lib.hid hb4
                        have HO4 := Lib.hid ho4
                        clear hb4 ho4 hown4 hgrow4
                        go_roundw
                        case rel => exact ⟨i + P, l ++ [(⟨2, i, P, v1⟩ : Tk)], by first | rfl | go_num, by omega, by rw [List.length_append]; simp; omega, HO4, HB4, HR2⟩
                        case measure => simp [RowKit.intOf]; omega
              · have HBAD := Lib.hid (hstop 2 v1 v2 hN hv2)
                have hbv : ((v2 : Int) != 0) = true := by simp; omega
                clear hN hNw hstep hstop hpc hP hbl h35 HRl hhead hlenu hdc hv2
                go_wp2_with fail
                go_loop [9] (fun kv => ∃ k : Nat, kv = .int .i64 k ∧ i ≤ k ∧ k ≤ i + P) (fun kv => i + P - (RowKit.intOf kv).toNat)
                case atStart => exact ⟨i, rfl, by omega, by omega⟩
                case round =>
                  obtain ⟨k, rfl, hk1, hk2⟩ := hrel
                  by_cases hkP : k < i + P
                  · obtain ⟨hkl, hpk⟩ := HP1.out k hk1 hkP
                    have hck := HC.out k hkl
                    have CP := Lib.hid (fun w => rpart_any cs[k] w)
                    rw [hpk] at CP
                    generalize cs[k] = ck at hck CP
                    clear hpk
                    go_wp2_with (go_at_call 19; refine (CP.out _).mono ?_; rintro e w' ⟨rfl, rfl⟩)
                    go_round
                    case rel => exact ⟨k + 1, by first | rfl | go_num, by omega, by omega⟩
                    case measure => simp [RowKit.intOf]; omega
                  · obtain rfl : k = i + P := by omega
                    clear hkP hk1 hk2
                    rcases (by omega : i + P = cs.length ∨ i + P < cs.length) with hPl | hPl
                    · have hPl2 : ¬ (((i : Int) + (P : Int)) < (cs.length : Int)) := by omega
                      have hPl3 : (cs.length : Int) ≤ (i : Int) + (P : Int) := by omega
                      clear hPl
                      go_wp2_with (first | (go_at_call 19; refine (CP.out _).mono ?_; rintro e w' ⟨rfl, rfl⟩) | (go_at_call 21; refine (CD.out _).mono ?_; rintro e w' ⟨rfl, rfl⟩) | (go_at_call 14; refine (CV.out _ ((Below.refl _ _).alloc (Nat.le_refl _) _)).mono ?_; rintro e w' ⟨rfl, rfl⟩))
                      go_ret3
                      exact rtokPost_no HBAD.out (HFIN.out.alloc HFIN.out.size _)
                    · have hps := HP2.out hPl
                      have hck := HC.out (i + P) hPl
                      have CP := Lib.hid (fun w => rpart_any cs[i + P] w)
                      rw [hps] at CP
                      generalize cs[i + P] = ck at hck CP
                      clear hps
                      go_wp2_with (first | (go_at_call 19; refine (CP.out _).mono ?_; rintro e w' ⟨rfl, rfl⟩) | (go_at_call 21; refine (CD.out _).mono ?_; rintro e w' ⟨rfl, rfl⟩) | (go_at_call 14; refine (CV.out _ ((Below.refl _ _).alloc (Nat.le_refl _) _)).mono ?_; rintro e w' ⟨rfl, rfl⟩))
                      go_ret3
                      exact rtokPost_no HBAD.out (HFIN.out.alloc HFIN.out.size _)
            | false =>
              rw [hdc] at CD
              have hN : nextC (c :: cs.drop (i + 1)) = (1, P, 0, if P > 40 then 11 else 0) := by rw [hNw]; unfold wordC; rw [hhead, hdc, if_neg (by simp), hlenu]
              by_cases h40 : 40 < P
              · rw [if_pos h40] at hN
                have HBAD := Lib.hid (hstop 1 0 11 hN (by omega))
                clear hN hNw hstep hstop hpc hP hbl h35 HRl hhead hlenu hdc
                go_wp2_with fail
                go_loop [9] (fun kv => ∃ k : Nat, kv = .int .i64 k ∧ i ≤ k ∧ k ≤ i + P) (fun kv => i + P - (RowKit.intOf kv).toNat)
                case atStart => exact ⟨i, rfl, by omega, by omega⟩
                case round =>
                  obtain ⟨k, rfl, hk1, hk2⟩ := hrel
                  by_cases hkP : k < i + P
                  · obtain ⟨hkl, hpk⟩ := HP1.out k hk1 hkP
                    have hck := HC.out k hkl
                    have CP := Lib.hid (fun w => rpart_any cs[k] w)
                    rw [hpk] at CP
                    generalize cs[k] = ck at hck CP
                    clear hpk
                    go_wp2_with (go_at_call 19; refine (CP.out _).mono ?_; rintro e w' ⟨rfl, rfl⟩)
                    go_round
                    case rel => exact ⟨k + 1, by first | rfl | go_num, by omega, by omega⟩
                    case measure => simp [RowKit.intOf]; omega
                  · obtain rfl : k = i + P := by omega
                    clear hkP hk1 hk2
                    rcases (by omega : i + P = cs.length ∨ i + P < cs.length) with hPl | hPl
                    · have hPl2 : ¬ (((i : Int) + (P : Int)) < (cs.length : Int)) := by omega
                      have hPl3 : (cs.length : Int) ≤ (i : Int) + (P : Int) := by omega
                      clear hPl
                      go_wp2_with (first | (go_at_call 19; refine (CP.out _).mono ?_; rintro e w' ⟨rfl, rfl⟩) | (go_at_call 21; refine (CD.out _).mono ?_; rintro e w' ⟨rfl, rfl⟩))
                      go_ret3
                      exact rtokPost_no HBAD.out (HFIN.out.alloc HFIN.out.size _)
                    · have hps := HP2.out hPl
                      have hck := HC.out (i + P) hPl
                      have CP := Lib.hid (fun w => rpart_any cs[i + P] w)
                      rw [hps] at CP
                      generalize cs[i + P] = ck at hck CP
                      clear hps
                      go_wp2_with (first | (go_at_call 19; refine (CP.out _).mono ?_; rintro e w' ⟨rfl, rfl⟩) | (go_at_call 21; refine (CD.out _).mono ?_; rintro e w' ⟨rfl, rfl⟩))
                      go_ret3
                      exact rtokPost_no HBAD.out (HFIN.out.alloc HFIN.out.size _)
              · rw [if_neg h40] at hN
                have HR2 := Lib.hid (hstep 1 0 hN)
                clear hN hNw hstep hstop hpc hP hbl h35 HRl hhead hlenu hdc
                go_wp2_with fail
                go_loop [9] (fun kv => ∃ k : Nat, kv = .int .i64 k ∧ i ≤ k ∧ k ≤ i + P) (fun kv => i + P - (RowKit.intOf kv).toNat)
                case atStart => exact ⟨i, rfl, by omega, by omega⟩
                case round =>
                  obtain ⟨k, rfl, hk1, hk2⟩ := hrel
                  by_cases hkP : k < i + P
                  · obtain ⟨hkl, hpk⟩ := HP1.out k hk1 hkP
                    have hck := HC.out k hkl
                    have CP := Lib.hid (fun w => rpart_any cs[k] w)
                    rw [hpk] at CP
                    generalize cs[k] = ck at hck CP
                    clear hpk
                    go_wp2_with (go_at_call 19; refine (CP.out _).mono ?_; rintro e w' ⟨rfl, rfl⟩)
                    go_round
                    case rel => exact ⟨k + 1, by first | rfl | go_num, by omega, by omega⟩
                    case measure => simp [RowKit.intOf]; omega
                  · obtain rfl : k = i + P := by omega
                    clear hkP hk1 hk2
                    rcases (by omega : i + P = cs.length ∨ i + P < cs.length) with hPl | hPl
                    · have hPl2 : ¬ (((i : Int) + (P : Int)) < (cs.length : Int)) := by omega
                      have hPl3 : (cs.length : Int) ≤ (i : Int) + (P : Int) := by omega
                      clear hPl
                      go_wp2_with (first | (go_at_call 19; refine (CP.out _).mono ?_; rintro e w' ⟨rfl, rfl⟩) | (go_at_call 21; refine (CD.out _).mono ?_; rintro e w' ⟨rfl, rfl⟩) | (at_builtin; refine wpList_append_own _ rfl _ _ 27 rfl w1.heap.size 34 i0 (.agg #[.int .i64 0, .int .i64 0, .int .i64 0, .int .u64 0]) 4 32 Tryd.underlying27 hi hz0 hz1 hz2 rfl (by decide) _ _ _ rfl ((HOo.out.alloc _).alloc _) ⟨wr.heap.size + 1, 0, none⟩ 1 1 [.int .i64 1, .int .i64 (i : Nat), .int .i64 ((i : Int) + (P : Int)), .int .u64 0] rfl rfl (cell_four_at _ _ _ _ _ _ _ (by simp)) (fun x hx => by simp at hx; rcases hx with rfl | rfl | rfl | rfl <;> rfl) (by unfold maxLen; omega) (by omega) (by simp; omega) ?_; intro v' w4 hown4 hgrow4 _; have hto : w4.cell? ⟨wr.heap.size, 2, none⟩ = some (.int .i64 ((i : Int) + (P : Int))) := hgrow4.cell (a := ⟨wr.heap.size, 2, none⟩) (by simp) (fun h => absurd (HOo.out.lt wr.heap.size h.symm).2 (Nat.lt_irrefl _))))
                      all_goals
                        have hb4 : Below w1.heap.size w1 w4 := Below.grown ((HBr.out.alloc hzr _).alloc (by simp; omega) _) hgrow4 (by simp; omega) (fun j hj => by have := (HOo.out.lt _ hj).1; omega)
                        have ho4 : w4.ownsRow w1.heap.size 34 4 v' (l ++ [(⟨1, i, P, 0⟩ : Tk)]).length (rowR (l ++ [(⟨1, i, P, 0⟩ : Tk)])) := by
                          rw [rowR_append, rowR_one, List.length_append]
                          exact hown4
                        have HB4 := Lib.hid hb4
                        have HO4 := Lib.hid ho4
                        clear hb4 ho4 hown4 hgrow4
                        go_roundw
                        case rel => exact ⟨i + P, l ++ [(⟨1, i, P, 0⟩ : Tk)], by first | rfl | go_num, by omega, by rw [List.length_append]; simp; omega, HO4, HB4, HR2⟩
                        case measure => simp [RowKit.intOf]; omega
                    · have hps := HP2.out hPl
                      have hck := HC.out (i + P) hPl
                      have CP := Lib.hid (fun w => rpart_any cs[i + P] w)
                      rw [hps] at CP
                      generalize cs[i + P] = ck at hck CP
                      clear hps
                      go_wp2_with (first | (go_at_call 19; refine (CP.out _).mono ?_; rintro e w' ⟨rfl, rfl⟩) | (go_at_call 21; refine (CD.out _).mono ?_; rintro e w' ⟨rfl, rfl⟩) | (at_builtin; refine wpList_append_own _ rfl _ _ 27 rfl w1.heap.size 34 i0 (.agg #[.int .i64 0, .int .i64 0, .int .i64 0, .int .u64 0]) 4 32 Tryd.underlying27 hi hz0 hz1 hz2 rfl (by decide) _ _ _ rfl ((HOo.out.alloc _).alloc _) ⟨wr.heap.size + 1, 0, none⟩ 1 1 [.int .i64 1, .int .i64 (i : Nat), .int .i64 ((i : Int) + (P : Int)), .int .u64 0] rfl rfl (cell_four_at _ _ _ _ _ _ _ (by simp)) (fun x hx => by simp at hx; rcases hx with rfl | rfl | rfl | rfl <;> rfl) (by unfold maxLen; omega) (by omega) (by simp; omega) ?_; intro v' w4 hown4 hgrow4 _; have hto : w4.cell? ⟨wr.heap.size, 2, none⟩ = some (.int .i64 ((i : Int) + (P : Int))) := hgrow4.cell (a := ⟨wr.heap.size, 2, none⟩) (by simp) (fun h => absurd (HOo.out.lt wr.heap.size h.symm).2 (Nat.lt_irrefl _))))
                      all_goals
                        have hb4 : Below w1.heap.size w1 w4 := Below.grown ((HBr.out.alloc hzr _).alloc (by simp; omega) _) hgrow4 (by simp; omega) (fun j hj => by have := (HOo.out.lt _ hj).1; omega)
                        have ho4 : w4.ownsRow w1.heap.size 34 4 v' (l ++ [(⟨1, i, P, 0⟩ : Tk)]).length (rowR (l ++ [(⟨1, i, P, 0⟩ : Tk)])) := by
                          rw [rowR_append, rowR_one, List.length_append]
                          exact hown4
                        have HB4 := Lib.hid hb4
                        have HO4 := Lib.hid ho4
                        clear hb4 ho4 hown4 hgrow4
                        go_roundw
                        case rel => exact ⟨i + P, l ++ [(⟨1, i, P, 0⟩ : Tk)], by first | rfl | go_num, by omega, by rw [List.length_append]; simp; omega, HO4, HB4, HR2⟩
                        case measure => simp [RowKit.intOf]; omega
    · obtain rfl : i = cs.length := by omega
      have hend : Hid (R = (l, 0, 0)) := by unfold Hid; rw [HR, List.drop_length, tokF_nil]; simp [joinT]
      clear HR
      go_wp2
      go_ret3
      refine ⟨_, by rw [hend.out]; rfl, ?_, hfinal⟩
      rw [hend.out]; exact own_lower HOo.out (by omega)
end Go.Proofs.YtbpiolklenopcaaDoor
