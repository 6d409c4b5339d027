/- The walk of the reference's chars. -/
import Derived.Test.YtbpiolklenopcaaDoorWalkG
import Derived.Test.YtbpiolklenopcaaDoorPureC
set_option linter.unusedSimpArgs false
set_option linter.unusedVariables false
namespace Go.Proofs.YtbpiolklenopcaaDoor
open Go.RowKit Go.Lib
def natsV (l : List Nat) : List Value := l.map fun x : Nat => Value.int .i64 (x : Int)
theorem natsV_append (a b : List Nat) : natsV (a ++ b) = natsV a ++ natsV b := by simp [natsV]
theorem natsV_one (a : Nat) : natsV [a] = [Value.int .i64 (a : Int)] := rfl
theorem Tryd.infoInt : (Tryd.prog.info? 3).map (fun i => (i.zero, i.size, i.bytes)) = some (some (.int .i64 0), 1, 8) := by kernel_rfl
theorem byte_bAt (s : ByteArray) (pos k : Nat) (h : pos + k < s.size) : (s[pos + k]'h).toNat = bAt (s.data.toList.drop pos) k := by
  unfold bAt
  have h1 := data_getElem? s (pos + k) h
  rw [List.getD_eq_getElem?_getD, List.getElem?_drop, h1]
  rfl
theorem byte_bAt0 (s : ByteArray) (pos : Nat) (h : pos < s.size) : (s[pos]'h).toNat = bAt (s.data.toList.drop pos) 0 := byte_bAt s pos 0 h
theorem valK_le {c0 n : Nat} {f : Nat → Nat} (hc : n = 1 ∧ c0 ≤ 127 ∨ n = 2 ∧ c0 ≤ 31 ∨ n = 3 ∧ c0 ≤ 15 ∨ n = 4 ∧ c0 ≤ 7) {k : Nat} (hk : k < n) (hf : ∀ j, 1 ≤ j → j ≤ k → f j ≤ 191) : valK c0 f k ≤ 2097151 := by
  have h4 : k = 0 ∨ k = 1 ∨ k = 2 ∨ k = 3 := by omega
  rcases h4 with rfl | rfl | rfl | rfl
  · show c0 ≤ 2097151; omega
  · have := hf 1 (by omega) (by omega)
    show 64 * c0 + f 1 - 128 ≤ 2097151; omega
  · have := hf 1 (by omega) (by omega)
    have := hf 2 (by omega) (by omega)
    show 64 * (64 * c0 + f 1 - 128) + f 2 - 128 ≤ 2097151; omega
  · have := hf 1 (by omega) (by omega)
    have := hf 2 (by omega) (by omega)
    have := hf 3 (by omega) (by omega)
    show 64 * (64 * (64 * c0 + f 1 - 128) + f 2 - 128) + f 3 - 128 ≤ 2097151; omega
theorem lead_no {b : Nat} (h : 128 ≤ b ∧ b < 192 ∨ 248 ≤ b) : leadC b = none := by
  unfold leadC
  rcases h with h | h
  · rw [if_neg (by omega), if_pos (by omega)]
  · rw [if_neg (by omega), if_neg (by omega), if_neg (by omega), if_neg (by omega), if_neg (by omega)]
theorem lead_1 {b : Nat} (h : b < 128) : leadC b = some (b, 1, 0) := by unfold leadC; rw [if_pos h]
theorem lead_2 {b : Nat} (h : 192 ≤ b ∧ b < 224) : leadC b = some (b - 192, 2, 128) := by unfold leadC; rw [if_neg (by omega), if_neg (by omega), if_pos (by omega)]
theorem lead_3 {b : Nat} (h : 224 ≤ b ∧ b < 240) : leadC b = some (b - 224, 3, 2048) := by unfold leadC; rw [if_neg (by omega), if_neg (by omega), if_neg (by omega), if_pos (by omega)]
theorem lead_4 {b : Nat} (h : 240 ≤ b ∧ b < 248) : leadC b = some (b - 240, 4, 65536) := by unfold leadC; rw [if_neg (by omega), if_neg (by omega), if_neg (by omega), if_neg (by omega), if_pos (by omega)]
def CharsPost (R : List Nat × Bool) (w : World) (e : Ending) (w' : World) : Prop :=
  ∃ v, e = .returned (.tuple #[v, .bool R.2]) ∧ w'.ownsRow w.heap.size 3 1 v R.1.length (natsV R.1) ∧ Below w.heap.size w w'
theorem charsPost_no {R : List Nat × Bool} {w w' : World} (hR : R = ([], false)) (hb : Below w.heap.size w w') : CharsPost R w (.returned (.tuple #[.slice none 0 0, .bool false])) w' :=
  ⟨_, by rw [hR], by rw [hR]; exact World.ownsRow_nil w' w.heap.size 3 1, hb⟩
set_option maxRecDepth 100000 in
set_option maxHeartbeats 8000000 in
theorem chars_any (s : ByteArray) (w : World) (hm : s.size ≤ 1099511627776) :
    Calls Tryd.prog 18 #[.string s] w (CharsPost (charsV s.data.toList) w) := by
  obtain ⟨i0, hi, hz0, hz1, hz2⟩ := info_parts Tryd.infoInt
  obtain ⟨R, hR⟩ : ∃ R, charsV s.data.toList = R := ⟨_, rfl⟩
  have HR0 : Hid (R = joinV [] (charsV (s.data.toList.drop 0))) := by unfold Hid; rw [joinV_nil, List.drop_zero]; exact hR.symm
  rw [hR]
  clear hR
  have hsz : s.size = s.data.toList.length := Array.length_toList.symm
  have HSZ := Lib.hid hsz
  clear hsz
  go_enter Tryd.func18, Tryd.ntmps18
  go_wp2
  go_loopw [4, 5] (fun ov iv wr => ∃ (pos : Nat) (acc : List Nat), iv = .int .i64 pos ∧ pos ≤ s.size ∧ acc.length ≤ pos ∧ Hid (wr.ownsRow w.heap.size 3 1 ov acc.length (natsV acc)) ∧ Hid (Below w.heap.size w wr) ∧ Hid (R = joinV acc (charsV (s.data.toList.drop pos)))) (fun _ iv _ => s.size - (RowKit.intOf iv).toNat)
  case atStart => exact ⟨0, [], rfl, by omega, by simp, World.ownsRow_nil w w.heap.size 3 1, Below.refl _ _, HR0⟩
  case round =>
    clear HR0
    obtain ⟨pos, acc, rfl, hpos, hacc, HO, HB, HR⟩ := hrel
    by_cases hlt : pos < s.size
    · have hb0 := byte_bAt0 s pos hlt
      obtain ⟨L, hL⟩ : ∃ L, s.data.toList.drop pos = L := ⟨_, rfl⟩
      have hLl : s.size = pos + L.length := by rw [HSZ.out, ← hL, List.length_drop]; rw [HSZ.out] at hlt; omega
      have hne : L ≠ [] := fun h => by rw [h] at hLl; simp at hLl; omega
      rw [hL] at HR hb0
      have hbk : ∀ k (h : pos + k < s.size), (s[pos + k]'h).toNat = bAt L k := fun k h => by rw [← hL]; exact byte_bAt s pos k h
      have hdr : ∀ n, L.drop n = s.data.toList.drop (pos + n) := fun n => by rw [← hL, List.drop_drop]
      have HBK := Lib.hid hbk
      have HDR := Lib.hid hdr
      have HNE := Lib.hid hne
      have HLL := Lib.hid hLl
      have hown := HO
      clear hbk hdr hne hLl hL
      obtain ⟨b, hb⟩ : ∃ b, bAt L 0 = b := ⟨_, rfl⟩
      have hb256 : b < 256 := by rw [← hb]; exact bAt_lt L 0
      rw [hb] at hb0
      have HB0 := Lib.hid hb
      clear hb
      by_cases hno : 128 ≤ b ∧ b < 192 ∨ 248 ≤ b
      · have hbad : Hid (R = ([], false)) := by
          unfold Hid
          rw [HR, charsV_bad HNE.out (dec_none (by rw [HB0.out]; exact lead_no hno))]
          rfl
        clear HR HBK HDR HNE HLL HB0
        have hx1 : decide ((192 : Int) ≤ b) = true → (248 : Int) ≤ b := fun h => by have := of_decide_eq_true h; omega
        rcases hno with ⟨h1, h2⟩ | h1
        all_goals
          clear hx1
          go_wp2
          go_ret2
          exact charsPost_no hbad.out HB.out
      · rcases (by omega : b < 128 ∨ 192 ≤ b ∧ b < 224 ∨ 224 ≤ b ∧ b < 240 ∨ 240 ≤ b ∧ b < 248) with hc | hc | hc | hc
        · have hlead : leadC (bAt L 0) = some (b, 1, 0) := by rw [HB0.out]; exact lead_1 hc
          have HLEAD := Lib.hid hlead
          clear hlead hno
          go_wp2
          go_loop [6, 9] (fun cv kv => ∃ (k x : Nat), kv = .int .i64 k ∧ cv = .int .i64 x ∧ 1 ≤ k ∧ k ≤ 1 ∧ x ≤ 2097151 ∧ Hid (x = valK (b) (bAt L) (k - 1)) ∧ Hid (∀ j, 1 ≤ j → j < k → j < L.length ∧ 128 ≤ bAt L j ∧ bAt L j ≤ 191)) (fun _ kv => 1 - (RowKit.intOf kv).toNat)
          case atStart => exact ⟨1, b, rfl, by first | rfl | (simp; omega) | (congr 1; omega), by omega, by omega, by omega, rfl, fun j h1 h2 => by omega⟩
          case round =>
            obtain ⟨k, x, rfl, rfl, hk1, hkn, hx, HX, HG⟩ := hrel
            obtain rfl : k = 1 := by omega
            have hover : ¬ (x < 0 ∨ x > 1114111 ∨ 55296 ≤ x ∧ x ≤ 57343) := by
              have h1 : x = b := HX
              omega
            have h1 : x < 128 := by
              have h1 : x = b := HX
              omega
            have hdec := dec_full HLEAD.out HG (by rw [← HX]; exact hover)
            rw [← HX] at hdec
            have hnl : pos + 1 ≤ s.size := by
              have := HLL.out
              have h2 := HG (1 - 1)
              omega
            have HR2 : Hid (R = joinV (acc ++ [x]) (charsV (s.data.toList.drop (pos + 1)))) := by
              unfold Hid
              rw [HR, charsV_step HNE.out hdec (by omega), joinV_join, HDR.out]
            clear hdec HR HX HG
            go_wp2_with (at_builtin; refine wpList_append_own _ rfl _ _ 43 rfl w.heap.size 3 i0 (.int .i64 0) 1 8 Tryd.underlying43 hi hz0 hz1 hz2 rfl (by decide) _ _ _ rfl (HO.out.alloc _) ⟨wr.heap.size, 0, none⟩ 1 1 [.int .i64 x] rfl rfl (cell_one_new _ _ _) (fun u hu => by simp at hu; rcases hu with rfl; rfl) (by unfold maxLen; omega) (by omega) (by have := HB.out.size; simp; omega) ?_; intro v' w4 hown4 hgrow4 _)
            all_goals
              have hb4 : Below w.heap.size w w4 := Below.grown (HB.out.alloc HB.out.size _) hgrow4 (by have := HB.out.size; simp; omega) (fun j hj => by have := (HO.out.lt _ hj).1; omega)
              have ho4 : w4.ownsRow w.heap.size 3 1 v' (acc ++ [x]).length (natsV (acc ++ [x])) := by
                rw [natsV_append, List.length_append]
                exact hown4
              have HB4 := Lib.hid hb4
              have HO4 := Lib.hid ho4
              clear hb4 ho4 hown4 hgrow4
              go_roundw
              case rel => exact ⟨pos + 1, acc ++ [x], by first | rfl | (simp; done) | (congr 1), by omega, by rw [List.length_append]; simp; omega, HO4, HB4, HR2⟩
              case measure => simp [RowKit.intOf]; omega
        · have hlead : leadC (bAt L 0) = some (b - 192, 2, 128) := by rw [HB0.out]; exact lead_2 hc
          have HLEAD := Lib.hid hlead
          clear hlead hno
          go_wp2
          go_loop [6, 9] (fun cv kv => ∃ (k x : Nat), kv = .int .i64 k ∧ cv = .int .i64 x ∧ 1 ≤ k ∧ k ≤ 2 ∧ x ≤ 2097151 ∧ Hid (x = valK (b - 192) (bAt L) (k - 1)) ∧ Hid (∀ j, 1 ≤ j → j < k → j < L.length ∧ 128 ≤ bAt L j ∧ bAt L j ≤ 191)) (fun _ kv => 2 - (RowKit.intOf kv).toNat)
          case atStart => exact ⟨1, b - 192, rfl, by first | rfl | (simp; omega) | (congr 1; omega), by omega, by omega, by omega, rfl, fun j h1 h2 => by omega⟩
          case round =>
            obtain ⟨k, x, rfl, rfl, hk1, hkn, hx, HX, HG⟩ := hrel
            by_cases hk : k < 2
            · by_cases hin : pos + k < s.size
              · have hby := HBK.out k hin
                obtain ⟨y, hy⟩ : ∃ y, bAt L k = y := ⟨_, rfl⟩
                have hy256 : y < 256 := by rw [← hy]; exact bAt_lt L k
                rw [hy] at hby
                have HY := Lib.hid hy
                clear hy
                have hix : ((pos : Int) + (k : Int)).toNat = pos + k := by omega
                by_cases hgood : 128 ≤ y ∧ y ≤ 191
                · have hg2 : ∀ j, 1 ≤ j → j < k + 1 → j < L.length ∧ 128 ≤ bAt L j ∧ bAt L j ≤ 191 := by
                    intro j h1 h2
                    by_cases e : j = k
                    · subst e; rw [HY.out]; have := HLL.out; omega
                    · exact HG j h1 (by omega)
                  have hx2 : 64 * x + y - 128 = valK (b - 192) (bAt L) k := by
                    obtain ⟨k, rfl⟩ : ∃ k', k = k' + 1 := ⟨k - 1, by omega⟩
                    rw [← HY.out, HX]; rfl
                  have hx3 : 64 * x + y - 128 ≤ 2097151 := by rw [hx2]; exact valK_le (n := 2) (by omega) hk (fun j h1 h2 => (hg2 j h1 (by omega)).2.2)
                  have HX2 : Hid (64 * x + y - 128 = valK (b - 192) (bAt L) (k + 1 - 1)) := hx2
                  have HG2 := Lib.hid hg2
                  clear hx2 hg2 HX HG
                  obtain ⟨hgood1, hgood2⟩ := hgood
                  go_wp2
                  go_round
                  case rel => exact ⟨_, _, _, _, ⟨k + 1, by first | rfl | go_num, 64 * x + y - 128, by congr 1; omega, by omega, by omega, hx3, HX2, HG2⟩, rfl, rfl, rfl, rfl⟩
                  case measure => simp [RowKit.intOf]; omega
                · have hbad : Hid (R = ([], false)) := by
                    unfold Hid
                    rw [HR, charsV_bad HNE.out (dec_part HLEAD.out hk1 hk (by rw [HY.out]; omega))]
                    rfl
                  clear HR HX HG HY
                  by_cases hlow : y < 128
                  · go_wp2
                    go_ret2
                    exact charsPost_no hbad.out HB.out
                  · have hhigh : 191 < y := by omega
                    go_wp2
                    go_ret2
                    exact charsPost_no hbad.out HB.out
              · have hbad : Hid (R = ([], false)) := by
                  unfold Hid
                  rw [HR, charsV_bad HNE.out (dec_part HLEAD.out hk1 hk (by have := HLL.out; omega))]
                  rfl
                clear HR HX HG
                have hin2 : s.size ≤ pos + k := by omega
                go_wp2
                go_ret2
                exact charsPost_no hbad.out HB.out
            · obtain rfl : k = 2 := by omega
              by_cases hover : x < 128 ∨ x > 1114111 ∨ 55296 ≤ x ∧ x ≤ 57343
              · have hbad : Hid (R = ([], false)) := by
                  unfold Hid
                  rw [HR, charsV_bad HNE.out (dec_over HLEAD.out HG (by rw [← HX]; exact hover))]
                  rfl
                clear HR HX HG hk
                by_cases h1 : x < 128
                · clear hover
                  go_wp2
                  go_ret2
                  exact charsPost_no hbad.out HB.out
                · by_cases h2 : 1114111 < x
                  · clear hover
                    go_wp2
                    go_ret2
                    exact charsPost_no hbad.out HB.out
                  · have h3 : 55296 ≤ x := by omega
                    have h4 : x ≤ 57343 := by omega
                    first
                      | (exfalso; omega)
                      | (clear hover
                         go_wp2
                         go_ret2
                         exact charsPost_no hbad.out HB.out)
              · have hdec := dec_full HLEAD.out HG (by rw [← HX]; exact hover)
                rw [← HX] at hdec
                have hnl : pos + 2 ≤ s.size := by
                  have := HLL.out
                  have h2 := HG (2 - 1)
                  omega
                have HR2 : Hid (R = joinV (acc ++ [x]) (charsV (s.data.toList.drop (pos + 2)))) := by
                  unfold Hid
                  rw [HR, charsV_step HNE.out hdec (by omega), joinV_join, HDR.out]
                clear hdec HR HX HG hk
                go_wp2_with (at_builtin; refine wpList_append_own _ rfl _ _ 43 rfl w.heap.size 3 i0 (.int .i64 0) 1 8 Tryd.underlying43 hi hz0 hz1 hz2 rfl (by decide) _ _ _ rfl (HO.out.alloc _) ⟨wr.heap.size, 0, none⟩ 1 1 [.int .i64 x] rfl rfl (cell_one_new _ _ _) (fun u hu => by simp at hu; rcases hu with rfl; rfl) (by unfold maxLen; omega) (by omega) (by have := HB.out.size; simp; omega) ?_; intro v' w4 hown4 hgrow4 _)
                all_goals
                  have hb4 : Below w.heap.size w w4 := Below.grown (HB.out.alloc HB.out.size _) hgrow4 (by have := HB.out.size; simp; omega) (fun j hj => by have := (HO.out.lt _ hj).1; omega)
                  have ho4 : w4.ownsRow w.heap.size 3 1 v' (acc ++ [x]).length (natsV (acc ++ [x])) := by
                    rw [natsV_append, List.length_append]
                    exact hown4
                  have HB4 := Lib.hid hb4
                  have HO4 := Lib.hid ho4
                  clear hb4 ho4 hown4 hgrow4
                  go_roundw
                  case rel => first | exact ⟨pos + 2, acc ++ [x], by first | rfl | (simp; done) | (congr 1), by omega, by rw [List.length_append]; simp; omega, HO4, HB4, HR2⟩ | ((repeat apply Exists.intro); exact ⟨⟨pos + 2, acc ++ [x], by first | rfl | (simp; done) | (congr 1), by omega, by rw [List.length_append]; simp; omega, HO4, HB4, HR2⟩, rfl⟩)
                  case measure => simp [RowKit.intOf]; omega
        · have hlead : leadC (bAt L 0) = some (b - 224, 3, 2048) := by rw [HB0.out]; exact lead_3 hc
          have HLEAD := Lib.hid hlead
          clear hlead hno
          go_wp2
          go_loop [6, 9] (fun cv kv => ∃ (k x : Nat), kv = .int .i64 k ∧ cv = .int .i64 x ∧ 1 ≤ k ∧ k ≤ 3 ∧ x ≤ 2097151 ∧ Hid (x = valK (b - 224) (bAt L) (k - 1)) ∧ Hid (∀ j, 1 ≤ j → j < k → j < L.length ∧ 128 ≤ bAt L j ∧ bAt L j ≤ 191)) (fun _ kv => 3 - (RowKit.intOf kv).toNat)
          case atStart => exact ⟨1, b - 224, rfl, by first | rfl | (simp; omega) | (congr 1; omega), by omega, by omega, by omega, rfl, fun j h1 h2 => by omega⟩
          case round =>
            obtain ⟨k, x, rfl, rfl, hk1, hkn, hx, HX, HG⟩ := hrel
            by_cases hk : k < 3
            · by_cases hin : pos + k < s.size
              · have hby := HBK.out k hin
                obtain ⟨y, hy⟩ : ∃ y, bAt L k = y := ⟨_, rfl⟩
                have hy256 : y < 256 := by rw [← hy]; exact bAt_lt L k
                rw [hy] at hby
                have HY := Lib.hid hy
                clear hy
                have hix : ((pos : Int) + (k : Int)).toNat = pos + k := by omega
                by_cases hgood : 128 ≤ y ∧ y ≤ 191
                · have hg2 : ∀ j, 1 ≤ j → j < k + 1 → j < L.length ∧ 128 ≤ bAt L j ∧ bAt L j ≤ 191 := by
                    intro j h1 h2
                    by_cases e : j = k
                    · subst e; rw [HY.out]; have := HLL.out; omega
                    · exact HG j h1 (by omega)
                  have hx2 : 64 * x + y - 128 = valK (b - 224) (bAt L) k := by
                    obtain ⟨k, rfl⟩ : ∃ k', k = k' + 1 := ⟨k - 1, by omega⟩
                    rw [← HY.out, HX]; rfl
                  have hx3 : 64 * x + y - 128 ≤ 2097151 := by rw [hx2]; exact valK_le (n := 3) (by omega) hk (fun j h1 h2 => (hg2 j h1 (by omega)).2.2)
                  have HX2 : Hid (64 * x + y - 128 = valK (b - 224) (bAt L) (k + 1 - 1)) := hx2
                  have HG2 := Lib.hid hg2
                  clear hx2 hg2 HX HG
                  obtain ⟨hgood1, hgood2⟩ := hgood
                  go_wp2
                  go_round
                  case rel => exact ⟨_, _, _, _, ⟨k + 1, by first | rfl | go_num, 64 * x + y - 128, by congr 1; omega, by omega, by omega, hx3, HX2, HG2⟩, rfl, rfl, rfl, rfl⟩
                  case measure => simp [RowKit.intOf]; omega
                · have hbad : Hid (R = ([], false)) := by
                    unfold Hid
                    rw [HR, charsV_bad HNE.out (dec_part HLEAD.out hk1 hk (by rw [HY.out]; omega))]
                    rfl
                  clear HR HX HG HY
                  by_cases hlow : y < 128
                  · go_wp2
                    go_ret2
                    exact charsPost_no hbad.out HB.out
                  · have hhigh : 191 < y := by omega
                    go_wp2
                    go_ret2
                    exact charsPost_no hbad.out HB.out
              · have hbad : Hid (R = ([], false)) := by
                  unfold Hid
                  rw [HR, charsV_bad HNE.out (dec_part HLEAD.out hk1 hk (by have := HLL.out; omega))]
                  rfl
                clear HR HX HG
                have hin2 : s.size ≤ pos + k := by omega
                go_wp2
                go_ret2
                exact charsPost_no hbad.out HB.out
            · obtain rfl : k = 3 := by omega
              by_cases hover : x < 2048 ∨ x > 1114111 ∨ 55296 ≤ x ∧ x ≤ 57343
              · have hbad : Hid (R = ([], false)) := by
                  unfold Hid
                  rw [HR, charsV_bad HNE.out (dec_over HLEAD.out HG (by rw [← HX]; exact hover))]
                  rfl
                clear HR HX HG hk
                by_cases h1 : x < 2048
                · clear hover
                  go_wp2
                  go_ret2
                  exact charsPost_no hbad.out HB.out
                · by_cases h2 : 1114111 < x
                  · clear hover
                    go_wp2
                    go_ret2
                    exact charsPost_no hbad.out HB.out
                  · have h3 : 55296 ≤ x := by omega
                    have h4 : x ≤ 57343 := by omega
                    first
                      | (exfalso; omega)
                      | (clear hover
                         go_wp2
                         go_ret2
                         exact charsPost_no hbad.out HB.out)
              · have hdec := dec_full HLEAD.out HG (by rw [← HX]; exact hover)
                rw [← HX] at hdec
                have hnl : pos + 3 ≤ s.size := by
                  have := HLL.out
                  have h2 := HG (3 - 1)
                  omega
                have HR2 : Hid (R = joinV (acc ++ [x]) (charsV (s.data.toList.drop (pos + 3)))) := by
                  unfold Hid
                  rw [HR, charsV_step HNE.out hdec (by omega), joinV_join, HDR.out]
                clear hdec HR HX HG hk
                go_wp2_with (at_builtin; refine wpList_append_own _ rfl _ _ 43 rfl w.heap.size 3 i0 (.int .i64 0) 1 8 Tryd.underlying43 hi hz0 hz1 hz2 rfl (by decide) _ _ _ rfl (HO.out.alloc _) ⟨wr.heap.size, 0, none⟩ 1 1 [.int .i64 x] rfl rfl (cell_one_new _ _ _) (fun u hu => by simp at hu; rcases hu with rfl; rfl) (by unfold maxLen; omega) (by omega) (by have := HB.out.size; simp; omega) ?_; intro v' w4 hown4 hgrow4 _)
                all_goals
                  have hb4 : Below w.heap.size w w4 := Below.grown (HB.out.alloc HB.out.size _) hgrow4 (by have := HB.out.size; simp; omega) (fun j hj => by have := (HO.out.lt _ hj).1; omega)
                  have ho4 : w4.ownsRow w.heap.size 3 1 v' (acc ++ [x]).length (natsV (acc ++ [x])) := by
                    rw [natsV_append, List.length_append]
                    exact hown4
                  have HB4 := Lib.hid hb4
                  have HO4 := Lib.hid ho4
                  clear hb4 ho4 hown4 hgrow4
                  go_roundw
                  case rel => first | exact ⟨pos + 3, acc ++ [x], by first | rfl | (simp; done) | (congr 1), by omega, by rw [List.length_append]; simp; omega, HO4, HB4, HR2⟩ | ((repeat apply Exists.intro); exact ⟨⟨pos + 3, acc ++ [x], by first | rfl | (simp; done) | (congr 1), by omega, by rw [List.length_append]; simp; omega, HO4, HB4, HR2⟩, rfl⟩)
                  case measure => simp [RowKit.intOf]; omega
        · have hlead : leadC (bAt L 0) = some (b - 240, 4, 65536) := by rw [HB0.out]; exact lead_4 hc
          have HLEAD := Lib.hid hlead
          clear hlead hno
          go_wp2
          go_loop [6, 9] (fun cv kv => ∃ (k x : Nat), kv = .int .i64 k ∧ cv = .int .i64 x ∧ 1 ≤ k ∧ k ≤ 4 ∧ x ≤ 2097151 ∧ Hid (x = valK (b - 240) (bAt L) (k - 1)) ∧ Hid (∀ j, 1 ≤ j → j < k → j < L.length ∧ 128 ≤ bAt L j ∧ bAt L j ≤ 191)) (fun _ kv => 4 - (RowKit.intOf kv).toNat)
          case atStart => exact ⟨1, b - 240, rfl, by first | rfl | (simp; omega) | (congr 1; omega), by omega, by omega, by omega, rfl, fun j h1 h2 => by omega⟩
          case round =>
            obtain ⟨k, x, rfl, rfl, hk1, hkn, hx, HX, HG⟩ := hrel
            by_cases hk : k < 4
            · by_cases hin : pos + k < s.size
              · have hby := HBK.out k hin
                obtain ⟨y, hy⟩ : ∃ y, bAt L k = y := ⟨_, rfl⟩
                have hy256 : y < 256 := by rw [← hy]; exact bAt_lt L k
                rw [hy] at hby
                have HY := Lib.hid hy
                clear hy
                have hix : ((pos : Int) + (k : Int)).toNat = pos + k := by omega
                by_cases hgood : 128 ≤ y ∧ y ≤ 191
                · have hg2 : ∀ j, 1 ≤ j → j < k + 1 → j < L.length ∧ 128 ≤ bAt L j ∧ bAt L j ≤ 191 := by
                    intro j h1 h2
                    by_cases e : j = k
                    · subst e; rw [HY.out]; have := HLL.out; omega
                    · exact HG j h1 (by omega)
                  have hx2 : 64 * x + y - 128 = valK (b - 240) (bAt L) k := by
                    obtain ⟨k, rfl⟩ : ∃ k', k = k' + 1 := ⟨k - 1, by omega⟩
                    rw [← HY.out, HX]; rfl
                  have hx3 : 64 * x + y - 128 ≤ 2097151 := by rw [hx2]; exact valK_le (n := 4) (by omega) hk (fun j h1 h2 => (hg2 j h1 (by omega)).2.2)
                  have HX2 : Hid (64 * x + y - 128 = valK (b - 240) (bAt L) (k + 1 - 1)) := hx2
                  have HG2 := Lib.hid hg2
                  clear hx2 hg2 HX HG
                  obtain ⟨hgood1, hgood2⟩ := hgood
                  go_wp2
                  go_round
                  case rel => exact ⟨_, _, _, _, ⟨k + 1, by first | rfl | go_num, 64 * x + y - 128, by congr 1; omega, by omega, by omega, hx3, HX2, HG2⟩, rfl, rfl, rfl, rfl⟩
                  case measure => simp [RowKit.intOf]; omega
                · have hbad : Hid (R = ([], false)) := by
                    unfold Hid
                    rw [HR, charsV_bad HNE.out (dec_part HLEAD.out hk1 hk (by rw [HY.out]; omega))]
                    rfl
                  clear HR HX HG HY
                  by_cases hlow : y < 128
                  · go_wp2
                    go_ret2
                    exact charsPost_no hbad.out HB.out
                  · have hhigh : 191 < y := by omega
                    go_wp2
                    go_ret2
                    exact charsPost_no hbad.out HB.out
              · have hbad : Hid (R = ([], false)) := by
                  unfold Hid
                  rw [HR, charsV_bad HNE.out (dec_part HLEAD.out hk1 hk (by have := HLL.out; omega))]
                  rfl
                clear HR HX HG
                have hin2 : s.size ≤ pos + k := by omega
                go_wp2
                go_ret2
                exact charsPost_no hbad.out HB.out
            · obtain rfl : k = 4 := by omega
              by_cases hover : x < 65536 ∨ x > 1114111 ∨ 55296 ≤ x ∧ x ≤ 57343
              · have hbad : Hid (R = ([], false)) := by
                  unfold Hid
                  rw [HR, charsV_bad HNE.out (dec_over HLEAD.out HG (by rw [← HX]; exact hover))]
                  rfl
                clear HR HX HG hk
                by_cases h1 : x < 65536
                · clear hover
                  go_wp2
                  go_ret2
                  exact charsPost_no hbad.out HB.out
                · by_cases h2 : 1114111 < x
                  · clear hover
                    go_wp2
                    go_ret2
                    exact charsPost_no hbad.out HB.out
                  · have h3 : 55296 ≤ x := by omega
                    have h4 : x ≤ 57343 := by omega
                    first
                      | (exfalso; omega)
                      | (clear hover
                         go_wp2
                         go_ret2
                         exact charsPost_no hbad.out HB.out)
              · have hdec := dec_full HLEAD.out HG (by rw [← HX]; exact hover)
                rw [← HX] at hdec
                have hnl : pos + 4 ≤ s.size := by
                  have := HLL.out
                  have h2 := HG (4 - 1)
                  omega
                have HR2 : Hid (R = joinV (acc ++ [x]) (charsV (s.data.toList.drop (pos + 4)))) := by
                  unfold Hid
                  rw [HR, charsV_step HNE.out hdec (by omega), joinV_join, HDR.out]
                clear hdec HR HX HG hk
                go_wp2_with (at_builtin; refine wpList_append_own _ rfl _ _ 43 rfl w.heap.size 3 i0 (.int .i64 0) 1 8 Tryd.underlying43 hi hz0 hz1 hz2 rfl (by decide) _ _ _ rfl (HO.out.alloc _) ⟨wr.heap.size, 0, none⟩ 1 1 [.int .i64 x] rfl rfl (cell_one_new _ _ _) (fun u hu => by simp at hu; rcases hu with rfl; rfl) (by unfold maxLen; omega) (by omega) (by have := HB.out.size; simp; omega) ?_; intro v' w4 hown4 hgrow4 _)
                all_goals
                  have hb4 : Below w.heap.size w w4 := Below.grown (HB.out.alloc HB.out.size _) hgrow4 (by have := HB.out.size; simp; omega) (fun j hj => by have := (HO.out.lt _ hj).1; omega)
                  have ho4 : w4.ownsRow w.heap.size 3 1 v' (acc ++ [x]).length (natsV (acc ++ [x])) := by
                    rw [natsV_append, List.length_append]
                    exact hown4
                  have HB4 := Lib.hid hb4
                  have HO4 := Lib.hid ho4
                  clear hb4 ho4 hown4 hgrow4
                  go_roundw
                  case rel => first | exact ⟨pos + 4, acc ++ [x], by first | rfl | (simp; done) | (congr 1), by omega, by rw [List.length_append]; simp; omega, HO4, HB4, HR2⟩ | ((repeat apply Exists.intro); exact ⟨⟨pos + 4, acc ++ [x], by first | rfl | (simp; done) | (congr 1), by omega, by rw [List.length_append]; simp; omega, HO4, HB4, HR2⟩, rfl⟩)
                  case measure => simp [RowKit.intOf]; omega
    · have hdone : Hid (R = (acc, true)) := by
        unfold Hid
        rw [HR, List.drop_eq_nil_of_le (by rw [← HSZ.out]; omega), charsV_nil]
        simp [joinV]
      clear HR
      go_wp2
      go_ret2
      refine ⟨_, by rw [hdone.out]; rfl, ?_, HB.out⟩
      rw [hdone.out]; exact HO.out
end Go.Proofs.YtbpiolklenopcaaDoor
