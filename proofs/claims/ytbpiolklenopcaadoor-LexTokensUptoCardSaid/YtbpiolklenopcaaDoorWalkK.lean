/- The walk of the reference's Value. -/
import Derived.Test.YtbpiolklenopcaaDoorWalkJ
import Derived.Test.YtbpiolklenopcaaDoorWalkD
set_option linter.unusedSimpArgs false
set_option linter.unusedVariables false
namespace Go.Proofs.YtbpiolklenopcaaDoor
open Go.RowKit Go.Lib
/-- What the loop of Value holds: the value, whether it was too great, whether a digit stood just ahead, the place. -/
def RV (base : Nat) (l : List Nat) (R : Nat × Nat) (nv ov sv : Value) (i : Nat) : Prop :=
  ∃ (x : Nat) (ov' was : Bool), nv = .int .u64 x ∧ ov = .bool ov' ∧ sv = .bool was ∧ x ≤ mostN ∧ Hid (basedC base (l.drop i) x (!ov') was = R)
theorem RV_step {base : Nat} {l : List Nat} {R : Nat × Nat} {i c x : Nat} {ov was : Bool} (hlt : i < l.length) (hc : l[i] = c) (h : basedC base (l.drop i) x (!ov) was = R) : basedC base (c :: l.drop (i + 1)) x (!ov) was = R := by
  rw [← h, ← hc, List.drop_eq_getElem_cons hlt]
theorem u64_wrap_range (z : Int) : 0 ≤ IntKind.u64.wrap z ∧ IntKind.u64.wrap z ≤ 18446744073709551615 := by
  rw [IntKind.wrap_u64]; omega
theorem u64_some (z : Int) : ∃ y : Nat, Value.int .u64 (IntKind.u64.wrap z) = .int .u64 y ∧ y ≤ mostN := by
  have h := u64_wrap_range z
  exact ⟨(IntKind.u64.wrap z).toNat, by rw [Int.toNat_of_nonneg h.1], by unfold mostN; omega⟩
theorem rv_any {base : Nat} {l : List Nat} {R : Nat × Nat} {i : Nat} {nv ov : Value} (h : ∀ y, Hid (basedC base (l.drop i) y (!true) true = R)) (hn : ∃ y : Nat, nv = .int .u64 y ∧ y ≤ mostN) (ho : ov = .bool true) : RV base l R nv ov (.bool true) i := by
  obtain ⟨y, h1, h2⟩ := hn
  exact ⟨y, true, true, h1, ho, rfl, h2, h y⟩
theorem basedC_us {base n : Nat} {t : List Nat} {fits : Bool} : basedC base (95 :: t) n fits true = basedC base t n fits false := by
  conv => lhs; unfold basedC
  rw [if_pos ⟨rfl, rfl⟩]
theorem basedC_none {base c n : Nat} {t : List Nat} {fits was : Bool} (h : ¬ (c = 95 ∧ was = true)) (hd : digD base c = none) : basedC base (c :: t) n fits was = (0, 61) := by
  unfold basedC
  rw [if_neg h, hd]
theorem basedC_some {base c n d : Nat} {t : List Nat} {fits was : Bool} (h : ¬ (c = 95 ∧ was = true)) (hd : digD base c = some d) : basedC base (c :: t) n fits was = basedC base t (if fitsN n base d then n * base + d else 0) (fits && fitsN n base d) true := by
  conv => lhs; unfold basedC
  rw [if_neg h, hd]
theorem hex_split : ∀ (cs : List Nat) (_ : hexC cs = false) (h1 : 1 ≤ cs.length), cs.length < 2 ∨ 2 ≤ cs.length ∧ (cs[0]'(by omega)) ≠ 48 ∨ ∃ h : 2 ≤ cs.length, (cs[0]'(by omega)) = 48 ∧ (cs[1]'(by omega)) ≠ 120
  | [], _, h => by simp at h
  | [_], _, _ => by left; simp
  | a :: b :: t, h, _ => by
    right
    by_cases ha : a = 48
    · right
      subst ha
      refine ⟨by simp, rfl, fun e => ?_⟩
      have e : b = 120 := e
      subst e
      cases h
    · left
      exact ⟨by simp, ha⟩
theorem digD_le2 {base c d : Nat} (h : digD base c = some d) : d ≤ 15 := digD_le h
set_option maxRecDepth 100000 in
set_option maxHeartbeats 8000000 in
theorem rvalue_hex (t : List Nat) (g off cap : Nat) (w : World) (hlen : t.length ≤ 1099511627776) (hcap : t.length + 2 ≤ cap) (hcap2 : cap ≤ 9223372036854775807)
    (hcell : ∀ i (h : i < (48 :: 120 :: t).length), w.cell? ⟨g, off + i, none⟩ = some (.int .i64 ((48 :: 120 :: t)[i]'h : Nat))) (hmax : ∀ x ∈ t, x ≤ 1114111) :
    Calls Tryd.prog 14 #[.slice (some ⟨g, off, none⟩) (t.length + 2) cap] w fun e w' => e = .returned (.tuple #[.int .u64 (valueC (48 :: 120 :: t)).1, .int .i64 (valueC (48 :: 120 :: t)).2]) ∧ w = w' := by
  have hv : valueC (48 :: 120 :: t) = basedC 16 t 0 true false := rfl
  rw [hv]
  obtain ⟨R, hR⟩ : ∃ R, basedC 16 t 0 true false = R := ⟨_, rfl⟩
  rw [hR]
  have HV0 : Hid (basedC 16 (t.drop 0) 0 (!false) false = R) := hR
  clear hv hR
  have c0 : w.cell? ⟨g, off, none⟩ = some (.int .i64 48) := hcell 0 (by simp)
  have c1 : w.cell? ⟨g, off + 1, none⟩ = some (.int .i64 120) := hcell 1 (by simp)
  have hc2 : ∀ i (h : i < t.length), w.cell? ⟨g, off + 2 + i, none⟩ = some (.int .i64 (t[i]'h : Nat)) := fun i h => by
    have := hcell (i + 2) (by simp; omega)
    rw [show off + 2 + i = off + (i + 2) by omega]
    exact this
  have HC := Lib.hid hc2
  have HM := Lib.hid hmax
  clear hcell hc2 hmax
  by_cases hcz : cap = 2
  · have ht : t = [] := List.eq_nil_of_length_eq_zero (by omega)
    subst ht
    subst hcz
    have HR : Hid (R = (0, 61)) := HV0.out.symm
    clear HV0
    go_enter Tryd.func14, Tryd.ntmps14
    go_wp2
    go_loop [5, 6, 7, 8] (fun nv ov sv iv => nv = .int .u64 0 ∧ ov = .bool false ∧ sv = .bool false ∧ iv = .int .i64 0) (fun _ _ _ _ => 0)
    case atStart => exact ⟨rfl, rfl, rfl, rfl⟩
    case round =>
      obtain ⟨rfl, rfl, rfl, rfl⟩ := hrel
      go_wp2
      go_ret2
      exact ⟨by rw [HR.out]; rfl, rfl⟩
  · go_enter Tryd.func14, Tryd.ntmps14
    go_wp2
    go_loop [5, 6, 7, 8] (fun nv ov sv iv => ∃ i : Nat, iv = .int .i64 i ∧ i ≤ t.length ∧ RV 16 t R nv ov sv i) (fun _ _ _ iv => t.length - (RowKit.intOf iv).toNat)
    case atStart => exact ⟨0, rfl, by omega, 0, false, false, rfl, rfl, rfl, by unfold mostN; omega, HV0⟩
    case round =>
      clear HV0
      obtain ⟨i, rfl, hi, x, ov, was, rfl, rfl, rfl, hx, HV⟩ := hrel
      have hx2 : x ≤ 18446744073709551615 := hx
      by_cases hlt : i < t.length
      · obtain ⟨c, hc⟩ : ∃ c, t[i] = c := ⟨_, rfl⟩
        have hci := HC.out i hlt
        rw [hc] at hci
        have hcb : c ≤ 1114111 := by rw [← hc]; exact HM.out _ (List.getElem_mem _)
        have hst := RV_step hlt hc HV.out
        clear hc HV
        by_cases h95 : c = 95
        · subst h95
          have C1 := Lib.hid (rdigit_any 95)
          rw [show digN 95 = false from rfl] at C1
          cases was with
          | true =>
            have HV2 : Hid (basedC 16 (t.drop (i + 1)) x (!ov) false = R) := by
              unfold Hid; rw [← hst, basedC_us]
            clear hst
            go_wp2_with (go_at_call 21; refine (C1.out _).mono ?_; rintro e w' ⟨rfl, rfl⟩)
            go_round
            case rel => exact ⟨i + 1, by first | rfl | go_num, by omega, x, ov, false, rfl, rfl, rfl, hx, HV2⟩
            case measure => simp [RowKit.intOf]; omega
          | false =>
            have HR : Hid (R = (0, 61)) := by
              unfold Hid; rw [← hst, basedC_none (by simp) (by simp [digD])]
            clear hst
            go_wp2_with (go_at_call 21; refine (C1.out _).mono ?_; rintro e w' ⟨rfl, rfl⟩)
            go_ret2
            exact ⟨by rw [HR.out]; rfl, rfl⟩
        · cases hd : digD 16 c with
          | none =>
            have HR : Hid (R = (0, 61)) := by
              unfold Hid; rw [← hst, basedC_none (by simp [h95]) hd]
            have hdig : digN c = false := by
              unfold digD at hd; unfold digN
              split at hd
              · cases hd
              · rename_i h; exact decide_eq_false h
            have C1 := Lib.hid (rdigit_any c)
            rw [hdig] at C1
            have hnd : ¬ (48 ≤ c ∧ c ≤ 57) := of_decide_eq_false hdig
            have hnh : ¬ (16 = 16 ∧ 97 ≤ c ∧ c ≤ 102) := fun h => by unfold digD at hd; rw [if_neg hnd, if_pos h] at hd; cases hd
            have b95 : ((c : Int) != 95) = true := by simp; omega
            clear hst hd hdig
            rcases (by omega : c < 97 ∨ 102 < c ∨ 97 ≤ c ∧ c ≤ 102) with h97 | h97 | h97
            all_goals first
              | (exfalso; omega)
              | (clear hnd hnh
                 go_wp2_with (go_at_call 21; refine (C1.out _).mono ?_; rintro e w' ⟨rfl, rfl⟩)
                 go_ret2
                 exact ⟨by rw [HR.out]; rfl, rfl⟩)
          | some d =>
            have hd15 := digD_le2 hd
            have hst2 : basedC 16 (t.drop (i + 1)) (if fitsN x 16 d then x * 16 + d else 0) (!ov && fitsN x 16 d) true = R := by
              rw [← hst, basedC_some (by simp [h95]) hd]
            clear hst
            by_cases hdig : 48 ≤ c ∧ c ≤ 57
            · have hdc : d + 48 = c := by unfold digD at hd; rw [if_pos hdig] at hd; injection hd with hd; omega
              have C1 := Lib.hid (rdigit_any c)
              rw [show digN c = true from decide_eq_true hdig] at C1
              clear hd hdig
              subst hdc
              have hd10 : d ≤ 15 := hd15
              have HST := Lib.hid hst2
              clear hst2
              cases ov with
              | true =>
                have HV2 : ∀ y, Hid (basedC 16 (t.drop (i + 1)) y (!true) true = R) := fun y => (basedC_lost _ _ y _ _).trans HST.out
                have HV3 := Lib.hid HV2
                clear HV2 HST
                go_wp2_with (go_at_call 21; refine (C1.out _).mono ?_; rintro e w' ⟨rfl, rfl⟩)
                go_round
                case rel => exact ⟨i + 1, by first | rfl | go_num, by omega, rv_any HV3.out (by first | exact u64_some _ | exact ⟨_, rfl, by unfold mostN; omega⟩) (by first | rfl | (congr 1; exact decide_eq_true (by omega)))⟩
                case measure => simp [RowKit.intOf]; omega
              | false =>
                by_cases hf : x * 16 + d ≤ 18446744073709551615
                · have HV2 : Hid (basedC 16 (t.drop (i + 1)) (x * 16 + d) (!false) true = R) := by
                    have h1 := HST.out
                    rw [show fitsN x 16 d = true from decide_eq_true hf] at h1
                    exact h1
                  clear HST
                  go_wp2_with (go_at_call 21; refine (C1.out _).mono ?_; rintro e w' ⟨rfl, rfl⟩)
                  go_round
                  case rel => exact ⟨i + 1, by first | rfl | go_num, by omega, x * 16 + d, false, true, by first | rfl | go_num | (congr 1; omega), by first | rfl | (congr 1; exact decide_eq_false (by omega)), rfl, hf, HV2⟩
                  case measure => simp [RowKit.intOf]; omega
                · have HV2 : ∀ y, Hid (basedC 16 (t.drop (i + 1)) y (!true) true = R) := fun y => by
                    have h1 := HST.out
                    rw [show fitsN x 16 d = false from decide_eq_false hf] at h1
                    exact (basedC_lost _ _ y _ _).trans h1
                  have HV3 := Lib.hid HV2
                  clear HV2 HST
                  go_wp2_with (go_at_call 21; refine (C1.out _).mono ?_; rintro e w' ⟨rfl, rfl⟩)
                  go_round
                  case rel => exact ⟨i + 1, by first | rfl | go_num, by omega, rv_any HV3.out (by first | exact u64_some _ | exact ⟨_, rfl, by unfold mostN; omega⟩) (by first | rfl | (congr 1; exact decide_eq_true (by omega)))⟩
                  case measure => simp [RowKit.intOf]; omega
            · have hhex : 16 = 16 ∧ 97 ≤ c ∧ c ≤ 102 := by
                unfold digD at hd; rw [if_neg hdig] at hd
                split at hd
                · assumption
                · cases hd
              have hdc : d = c - 87 := by unfold digD at hd; rw [if_neg hdig, if_pos hhex] at hd; injection hd with hd; omega
              have C1 := Lib.hid (rdigit_any c)
              rw [show digN c = false from decide_eq_false hdig] at C1
              have hh1 := hhex.2.1
              have hh3 := hhex.2.2
              clear hd hhex hdig
              subst hdc
              have hd10 : c - 87 ≤ 15 := hd15
              have h09 : decide (0 ≤ (c : Int) - 97 + 10) = true := decide_eq_true (by omega)
              have h09b : decide ((c : Int) - 97 + 10 < 0) = false := decide_eq_false (by omega)
              have HST := Lib.hid hst2
              clear hst2
              cases ov with
              | true =>
                have HV2 : ∀ y, Hid (basedC 16 (t.drop (i + 1)) y (!true) true = R) := fun y => (basedC_lost _ _ y _ _).trans HST.out
                have HV3 := Lib.hid HV2
                clear HV2 HST
                go_wp2_with (go_at_call 21; refine (C1.out _).mono ?_; rintro e w' ⟨rfl, rfl⟩)
                go_round
                case rel => exact ⟨i + 1, by first | rfl | go_num, by omega, rv_any HV3.out (by first | exact u64_some _ | exact ⟨_, rfl, by unfold mostN; omega⟩) (by first | rfl | (congr 1; exact decide_eq_true (by omega)))⟩
                case measure => simp [RowKit.intOf]; omega
              | false =>
                by_cases hf : x * 16 + (c - 87) ≤ 18446744073709551615
                · have HV2 : Hid (basedC 16 (t.drop (i + 1)) (x * 16 + (c - 87)) (!false) true = R) := by
                    have h1 := HST.out
                    rw [show fitsN x 16 (c - 87) = true from decide_eq_true hf] at h1
                    exact h1
                  clear HST
                  go_wp2_with (go_at_call 21; refine (C1.out _).mono ?_; rintro e w' ⟨rfl, rfl⟩)
                  go_round
                  case rel => exact ⟨i + 1, by first | rfl | go_num, by omega, x * 16 + (c - 87), false, true, by first | rfl | go_num | (congr 1; omega), by first | rfl | (congr 1; exact decide_eq_false (by omega)), rfl, hf, HV2⟩
                  case measure => simp [RowKit.intOf]; omega
                · have HV2 : ∀ y, Hid (basedC 16 (t.drop (i + 1)) y (!true) true = R) := fun y => by
                    have h1 := HST.out
                    rw [show fitsN x 16 (c - 87) = false from decide_eq_false hf] at h1
                    exact (basedC_lost _ _ y _ _).trans h1
                  have HV3 := Lib.hid HV2
                  clear HV2 HST
                  go_wp2_with (go_at_call 21; refine (C1.out _).mono ?_; rintro e w' ⟨rfl, rfl⟩)
                  go_round
                  case rel => exact ⟨i + 1, by first | rfl | go_num, by omega, rv_any HV3.out (by first | exact u64_some _ | exact ⟨_, rfl, by unfold mostN; omega⟩) (by first | rfl | (congr 1; exact decide_eq_true (by omega)))⟩
                  case measure => simp [RowKit.intOf]; omega
      · obtain rfl : i = t.length := by omega
        have hend := HV.out
        rw [List.drop_length] at hend
        clear HV hlt
        cases was with
        | false =>
          have HR : Hid (R = (0, 61)) := by unfold Hid; rw [← hend]; unfold basedC; simp
          clear hend
          go_wp2
          go_ret2
          exact ⟨by rw [HR.out]; rfl, rfl⟩
        | true =>
          cases ov with
          | true =>
            have HR : Hid (R = (0, 11)) := by unfold Hid; rw [← hend]; unfold basedC; simp
            clear hend
            go_wp2
            go_ret2
            exact ⟨by rw [HR.out]; rfl, rfl⟩
          | false =>
            have HR : Hid (R = (x, 0)) := by unfold Hid; rw [← hend]; unfold basedC; simp
            clear hend
            go_wp2
            go_ret2
            exact ⟨by rw [HR.out]; rfl, rfl⟩

set_option maxRecDepth 100000 in
set_option maxHeartbeats 16000000 in
theorem rvalue_dec (cs : List Nat) (g off cap : Nat) (w : World) (hx0 : hexC cs = false) (hlen : cs.length ≤ 1099511627776) (h1 : 1 ≤ cs.length) (hcap : cs.length ≤ cap) (hcap2 : cap ≤ 9223372036854775807)
    (hcell : ∀ i (h : i < cs.length), w.cell? ⟨g, off + i, none⟩ = some (.int .i64 (cs[i]'h : Nat))) (hmax : ∀ x ∈ cs, x ≤ 1114111) :
    Calls Tryd.prog 14 #[.slice (some ⟨g, off, none⟩) cs.length cap] w fun e w' => e = .returned (.tuple #[.int .u64 (valueC cs).1, .int .i64 (valueC cs).2]) ∧ w = w' := by
  have hv : valueC cs = basedC 10 cs 0 true false := by unfold valueC; rw [hx0]; rfl
  rw [hv]
  obtain ⟨R, hR⟩ : ∃ R, basedC 10 cs 0 true false = R := ⟨_, rfl⟩
  rw [hR]
  have HV0 : Hid (basedC 10 (cs.drop 0) 0 (!false) false = R) := hR
  clear hv hR
  have c0 : w.cell? ⟨g, off, none⟩ = some (.int .i64 (cs[0]'(by omega) : Nat)) := hcell 0 (by omega)
  have HC := Lib.hid hcell
  have HM := Lib.hid hmax
  have hsplit := hex_split cs hx0 h1
  clear hx0
  rcases hsplit with hs | ⟨hs, hs2⟩ | ⟨hs, hs2, hs3⟩
  · clear hcell hmax c0
    go_enter Tryd.func14, Tryd.ntmps14
    go_wp2
    go_loop [5, 6, 7, 8] (fun nv ov sv iv => ∃ i : Nat, iv = .int .i64 i ∧ i ≤ cs.length ∧ RV 10 cs R nv ov sv i) (fun _ _ _ iv => cs.length - (RowKit.intOf iv).toNat)
    case atStart => exact ⟨0, rfl, by omega, 0, false, false, rfl, rfl, rfl, by unfold mostN; omega, HV0⟩
    case round =>
      clear HV0
      obtain ⟨i, rfl, hi, x, ov, was, rfl, rfl, rfl, hx, HV⟩ := hrel
      have hx2 : x ≤ 18446744073709551615 := hx
      by_cases hlt : i < cs.length
      · obtain ⟨c, hc⟩ : ∃ c, cs[i] = c := ⟨_, rfl⟩
        have hci := HC.out i hlt
        rw [hc] at hci
        have hcb : c ≤ 1114111 := by rw [← hc]; exact HM.out _ (List.getElem_mem _)
        have hst := RV_step hlt hc HV.out
        clear hc HV
        by_cases h95 : c = 95
        · subst h95
          have C1 := Lib.hid (rdigit_any 95)
          rw [show digN 95 = false from rfl] at C1
          cases was with
          | true =>
            have HV2 : Hid (basedC 10 (cs.drop (i + 1)) x (!ov) false = R) := by
              unfold Hid; rw [← hst, basedC_us]
            clear hst
            go_wp2_with (go_at_call 21; refine (C1.out _).mono ?_; rintro e w' ⟨rfl, rfl⟩)
            go_round
            case rel => exact ⟨i + 1, by first | rfl | go_num, by omega, x, ov, false, rfl, rfl, rfl, hx, HV2⟩
            case measure => simp [RowKit.intOf]; omega
          | false =>
            have HR : Hid (R = (0, 61)) := by
              unfold Hid; rw [← hst, basedC_none (by simp) (by simp [digD])]
            clear hst
            go_wp2_with (go_at_call 21; refine (C1.out _).mono ?_; rintro e w' ⟨rfl, rfl⟩)
            go_ret2
            exact ⟨by rw [HR.out]; rfl, rfl⟩
        · cases hd : digD 10 c with
          | none =>
            have HR : Hid (R = (0, 61)) := by
              unfold Hid; rw [← hst, basedC_none (by simp [h95]) hd]
            have hdig : digN c = false := by
              unfold digD at hd; unfold digN
              split at hd
              · cases hd
              · rename_i h; exact decide_eq_false h
            have C1 := Lib.hid (rdigit_any c)
            rw [hdig] at C1
            have hnd : ¬ (48 ≤ c ∧ c ≤ 57) := of_decide_eq_false hdig
            have hnh : ¬ (10 = 16 ∧ 97 ≤ c ∧ c ≤ 102) := fun h => by unfold digD at hd; rw [if_neg hnd, if_pos h] at hd; cases hd
            have b95 : ((c : Int) != 95) = true := by simp; omega
            clear hst hd hdig
            rcases (by omega : c < 97 ∨ 102 < c ∨ 97 ≤ c ∧ c ≤ 102) with h97 | h97 | h97
            all_goals first
              | (exfalso; omega)
              | (clear hnd hnh
                 go_wp2_with (go_at_call 21; refine (C1.out _).mono ?_; rintro e w' ⟨rfl, rfl⟩)
                 go_ret2
                 exact ⟨by rw [HR.out]; rfl, rfl⟩)
          | some d =>
            have hd15 := digD_le2 hd
            have hst2 : basedC 10 (cs.drop (i + 1)) (if fitsN x 10 d then x * 10 + d else 0) (!ov && fitsN x 10 d) true = R := by
              rw [← hst, basedC_some (by simp [h95]) hd]
            clear hst
            by_cases hdig : 48 ≤ c ∧ c ≤ 57
            · have hdc : d + 48 = c := by unfold digD at hd; rw [if_pos hdig] at hd; injection hd with hd; omega
              have C1 := Lib.hid (rdigit_any c)
              rw [show digN c = true from decide_eq_true hdig] at C1
              clear hd hdig
              subst hdc
              have hd10 : d ≤ 15 := hd15
              have HST := Lib.hid hst2
              clear hst2
              cases ov with
              | true =>
                have HV2 : ∀ y, Hid (basedC 10 (cs.drop (i + 1)) y (!true) true = R) := fun y => (basedC_lost _ _ y _ _).trans HST.out
                have HV3 := Lib.hid HV2
                clear HV2 HST
                go_wp2_with (go_at_call 21; refine (C1.out _).mono ?_; rintro e w' ⟨rfl, rfl⟩)
                go_round
                case rel => exact ⟨i + 1, by first | rfl | go_num, by omega, rv_any HV3.out (by first | exact u64_some _ | exact ⟨_, rfl, by unfold mostN; omega⟩) (by first | rfl | (congr 1; exact decide_eq_true (by omega)))⟩
                case measure => simp [RowKit.intOf]; omega
              | false =>
                by_cases hf : x * 10 + d ≤ 18446744073709551615
                · have HV2 : Hid (basedC 10 (cs.drop (i + 1)) (x * 10 + d) (!false) true = R) := by
                    have h1 := HST.out
                    rw [show fitsN x 10 d = true from decide_eq_true hf] at h1
                    exact h1
                  clear HST
                  go_wp2_with (go_at_call 21; refine (C1.out _).mono ?_; rintro e w' ⟨rfl, rfl⟩)
                  go_round
                  case rel => exact ⟨i + 1, by first | rfl | go_num, by omega, x * 10 + d, false, true, by first | rfl | go_num | (congr 1; omega), by first | rfl | (congr 1; exact decide_eq_false (by omega)), rfl, hf, HV2⟩
                  case measure => simp [RowKit.intOf]; omega
                · have HV2 : ∀ y, Hid (basedC 10 (cs.drop (i + 1)) y (!true) true = R) := fun y => by
                    have h1 := HST.out
                    rw [show fitsN x 10 d = false from decide_eq_false hf] at h1
                    exact (basedC_lost _ _ y _ _).trans h1
                  have HV3 := Lib.hid HV2
                  clear HV2 HST
                  go_wp2_with (go_at_call 21; refine (C1.out _).mono ?_; rintro e w' ⟨rfl, rfl⟩)
                  go_round
                  case rel => exact ⟨i + 1, by first | rfl | go_num, by omega, rv_any HV3.out (by first | exact u64_some _ | exact ⟨_, rfl, by unfold mostN; omega⟩) (by first | rfl | (congr 1; exact decide_eq_true (by omega)))⟩
                  case measure => simp [RowKit.intOf]; omega
            · exfalso
              unfold digD at hd
              rw [if_neg hdig, if_neg (by omega)] at hd
              cases hd
      · obtain rfl : i = cs.length := by omega
        have hend := HV.out
        rw [List.drop_length] at hend
        clear HV hlt
        cases was with
        | false =>
          have HR : Hid (R = (0, 61)) := by unfold Hid; rw [← hend]; unfold basedC; simp
          clear hend
          go_wp2
          go_ret2
          exact ⟨by rw [HR.out]; rfl, rfl⟩
        | true =>
          cases ov with
          | true =>
            have HR : Hid (R = (0, 11)) := by unfold Hid; rw [← hend]; unfold basedC; simp
            clear hend
            go_wp2
            go_ret2
            exact ⟨by rw [HR.out]; rfl, rfl⟩
          | false =>
            have HR : Hid (R = (x, 0)) := by unfold Hid; rw [← hend]; unfold basedC; simp
            clear hend
            go_wp2
            go_ret2
            exact ⟨by rw [HR.out]; rfl, rfl⟩
  · have b48 : (((cs[0]'(by omega) : Nat) : Int) == 48) = false := by simp; omega
    clear hcell hmax
    go_enter Tryd.func14, Tryd.ntmps14
    go_wp2
    go_loop [5, 6, 7, 8] (fun nv ov sv iv => ∃ i : Nat, iv = .int .i64 i ∧ i ≤ cs.length ∧ RV 10 cs R nv ov sv i) (fun _ _ _ iv => cs.length - (RowKit.intOf iv).toNat)
    case atStart => exact ⟨0, rfl, by omega, 0, false, false, rfl, rfl, rfl, by unfold mostN; omega, HV0⟩
    case round =>
      clear HV0
      obtain ⟨i, rfl, hi, x, ov, was, rfl, rfl, rfl, hx, HV⟩ := hrel
      have hx2 : x ≤ 18446744073709551615 := hx
      by_cases hlt : i < cs.length
      · obtain ⟨c, hc⟩ : ∃ c, cs[i] = c := ⟨_, rfl⟩
        have hci := HC.out i hlt
        rw [hc] at hci
        have hcb : c ≤ 1114111 := by rw [← hc]; exact HM.out _ (List.getElem_mem _)
        have hst := RV_step hlt hc HV.out
        clear hc HV
        by_cases h95 : c = 95
        · subst h95
          have C1 := Lib.hid (rdigit_any 95)
          rw [show digN 95 = false from rfl] at C1
          cases was with
          | true =>
            have HV2 : Hid (basedC 10 (cs.drop (i + 1)) x (!ov) false = R) := by
              unfold Hid; rw [← hst, basedC_us]
            clear hst
            go_wp2_with (go_at_call 21; refine (C1.out _).mono ?_; rintro e w' ⟨rfl, rfl⟩)
            go_round
            case rel => exact ⟨i + 1, by first | rfl | go_num, by omega, x, ov, false, rfl, rfl, rfl, hx, HV2⟩
            case measure => simp [RowKit.intOf]; omega
          | false =>
            have HR : Hid (R = (0, 61)) := by
              unfold Hid; rw [← hst, basedC_none (by simp) (by simp [digD])]
            clear hst
            go_wp2_with (go_at_call 21; refine (C1.out _).mono ?_; rintro e w' ⟨rfl, rfl⟩)
            go_ret2
            exact ⟨by rw [HR.out]; rfl, rfl⟩
        · cases hd : digD 10 c with
          | none =>
            have HR : Hid (R = (0, 61)) := by
              unfold Hid; rw [← hst, basedC_none (by simp [h95]) hd]
            have hdig : digN c = false := by
              unfold digD at hd; unfold digN
              split at hd
              · cases hd
              · rename_i h; exact decide_eq_false h
            have C1 := Lib.hid (rdigit_any c)
            rw [hdig] at C1
            have hnd : ¬ (48 ≤ c ∧ c ≤ 57) := of_decide_eq_false hdig
            have hnh : ¬ (10 = 16 ∧ 97 ≤ c ∧ c ≤ 102) := fun h => by unfold digD at hd; rw [if_neg hnd, if_pos h] at hd; cases hd
            have b95 : ((c : Int) != 95) = true := by simp; omega
            clear hst hd hdig
            rcases (by omega : c < 97 ∨ 102 < c ∨ 97 ≤ c ∧ c ≤ 102) with h97 | h97 | h97
            all_goals first
              | (exfalso; omega)
              | (clear hnd hnh
                 go_wp2_with (go_at_call 21; refine (C1.out _).mono ?_; rintro e w' ⟨rfl, rfl⟩)
                 go_ret2
                 exact ⟨by rw [HR.out]; rfl, rfl⟩)
          | some d =>
            have hd15 := digD_le2 hd
            have hst2 : basedC 10 (cs.drop (i + 1)) (if fitsN x 10 d then x * 10 + d else 0) (!ov && fitsN x 10 d) true = R := by
              rw [← hst, basedC_some (by simp [h95]) hd]
            clear hst
            by_cases hdig : 48 ≤ c ∧ c ≤ 57
            · have hdc : d + 48 = c := by unfold digD at hd; rw [if_pos hdig] at hd; injection hd with hd; omega
              have C1 := Lib.hid (rdigit_any c)
              rw [show digN c = true from decide_eq_true hdig] at C1
              clear hd hdig
              subst hdc
              have hd10 : d ≤ 15 := hd15
              have HST := Lib.hid hst2
              clear hst2
              cases ov with
              | true =>
                have HV2 : ∀ y, Hid (basedC 10 (cs.drop (i + 1)) y (!true) true = R) := fun y => (basedC_lost _ _ y _ _).trans HST.out
                have HV3 := Lib.hid HV2
                clear HV2 HST
                go_wp2_with (go_at_call 21; refine (C1.out _).mono ?_; rintro e w' ⟨rfl, rfl⟩)
                go_round
                case rel => exact ⟨i + 1, by first | rfl | go_num, by omega, rv_any HV3.out (by first | exact u64_some _ | exact ⟨_, rfl, by unfold mostN; omega⟩) (by first | rfl | (congr 1; exact decide_eq_true (by omega)))⟩
                case measure => simp [RowKit.intOf]; omega
              | false =>
                by_cases hf : x * 10 + d ≤ 18446744073709551615
                · have HV2 : Hid (basedC 10 (cs.drop (i + 1)) (x * 10 + d) (!false) true = R) := by
                    have h1 := HST.out
                    rw [show fitsN x 10 d = true from decide_eq_true hf] at h1
                    exact h1
                  clear HST
                  go_wp2_with (go_at_call 21; refine (C1.out _).mono ?_; rintro e w' ⟨rfl, rfl⟩)
                  go_round
                  case rel => exact ⟨i + 1, by first | rfl | go_num, by omega, x * 10 + d, false, true, by first | rfl | go_num | (congr 1; omega), by first | rfl | (congr 1; exact decide_eq_false (by omega)), rfl, hf, HV2⟩
                  case measure => simp [RowKit.intOf]; omega
                · have HV2 : ∀ y, Hid (basedC 10 (cs.drop (i + 1)) y (!true) true = R) := fun y => by
                    have h1 := HST.out
                    rw [show fitsN x 10 d = false from decide_eq_false hf] at h1
                    exact (basedC_lost _ _ y _ _).trans h1
                  have HV3 := Lib.hid HV2
                  clear HV2 HST
                  go_wp2_with (go_at_call 21; refine (C1.out _).mono ?_; rintro e w' ⟨rfl, rfl⟩)
                  go_round
                  case rel => exact ⟨i + 1, by first | rfl | go_num, by omega, rv_any HV3.out (by first | exact u64_some _ | exact ⟨_, rfl, by unfold mostN; omega⟩) (by first | rfl | (congr 1; exact decide_eq_true (by omega)))⟩
                  case measure => simp [RowKit.intOf]; omega
            · exfalso
              unfold digD at hd
              rw [if_neg hdig, if_neg (by omega)] at hd
              cases hd
      · obtain rfl : i = cs.length := by omega
        have hend := HV.out
        rw [List.drop_length] at hend
        clear HV hlt
        cases was with
        | false =>
          have HR : Hid (R = (0, 61)) := by unfold Hid; rw [← hend]; unfold basedC; simp
          clear hend
          go_wp2
          go_ret2
          exact ⟨by rw [HR.out]; rfl, rfl⟩
        | true =>
          cases ov with
          | true =>
            have HR : Hid (R = (0, 11)) := by unfold Hid; rw [← hend]; unfold basedC; simp
            clear hend
            go_wp2
            go_ret2
            exact ⟨by rw [HR.out]; rfl, rfl⟩
          | false =>
            have HR : Hid (R = (x, 0)) := by unfold Hid; rw [← hend]; unfold basedC; simp
            clear hend
            go_wp2
            go_ret2
            exact ⟨by rw [HR.out]; rfl, rfl⟩
  · rw [hs2] at c0
    have c1 : w.cell? ⟨g, off + 1, none⟩ = some (.int .i64 (cs[1]'(by omega) : Nat)) := hcell 1 (by omega)
    have b120 : (((cs[1]'(by omega) : Nat) : Int) == 120) = false := by simp; omega
    clear hcell hmax hs2
    go_enter Tryd.func14, Tryd.ntmps14
    go_wp2
    go_loop [5, 6, 7, 8] (fun nv ov sv iv => ∃ i : Nat, iv = .int .i64 i ∧ i ≤ cs.length ∧ RV 10 cs R nv ov sv i) (fun _ _ _ iv => cs.length - (RowKit.intOf iv).toNat)
    case atStart => exact ⟨0, rfl, by omega, 0, false, false, rfl, rfl, rfl, by unfold mostN; omega, HV0⟩
    case round =>
      clear HV0
      obtain ⟨i, rfl, hi, x, ov, was, rfl, rfl, rfl, hx, HV⟩ := hrel
      have hx2 : x ≤ 18446744073709551615 := hx
      by_cases hlt : i < cs.length
      · obtain ⟨c, hc⟩ : ∃ c, cs[i] = c := ⟨_, rfl⟩
        have hci := HC.out i hlt
        rw [hc] at hci
        have hcb : c ≤ 1114111 := by rw [← hc]; exact HM.out _ (List.getElem_mem _)
        have hst := RV_step hlt hc HV.out
        clear hc HV
        by_cases h95 : c = 95
        · subst h95
          have C1 := Lib.hid (rdigit_any 95)
          rw [show digN 95 = false from rfl] at C1
          cases was with
          | true =>
            have HV2 : Hid (basedC 10 (cs.drop (i + 1)) x (!ov) false = R) := by
              unfold Hid; rw [← hst, basedC_us]
            clear hst
            go_wp2_with (go_at_call 21; refine (C1.out _).mono ?_; rintro e w' ⟨rfl, rfl⟩)
            go_round
            case rel => exact ⟨i + 1, by first | rfl | go_num, by omega, x, ov, false, rfl, rfl, rfl, hx, HV2⟩
            case measure => simp [RowKit.intOf]; omega
          | false =>
            have HR : Hid (R = (0, 61)) := by
              unfold Hid; rw [← hst, basedC_none (by simp) (by simp [digD])]
            clear hst
            go_wp2_with (go_at_call 21; refine (C1.out _).mono ?_; rintro e w' ⟨rfl, rfl⟩)
            go_ret2
            exact ⟨by rw [HR.out]; rfl, rfl⟩
        · cases hd : digD 10 c with
          | none =>
            have HR : Hid (R = (0, 61)) := by
              unfold Hid; rw [← hst, basedC_none (by simp [h95]) hd]
            have hdig : digN c = false := by
              unfold digD at hd; unfold digN
              split at hd
              · cases hd
              · rename_i h; exact decide_eq_false h
            have C1 := Lib.hid (rdigit_any c)
            rw [hdig] at C1
            have hnd : ¬ (48 ≤ c ∧ c ≤ 57) := of_decide_eq_false hdig
            have hnh : ¬ (10 = 16 ∧ 97 ≤ c ∧ c ≤ 102) := fun h => by unfold digD at hd; rw [if_neg hnd, if_pos h] at hd; cases hd
            have b95 : ((c : Int) != 95) = true := by simp; omega
            clear hst hd hdig
            rcases (by omega : c < 97 ∨ 102 < c ∨ 97 ≤ c ∧ c ≤ 102) with h97 | h97 | h97
            all_goals first
              | (exfalso; omega)
              | (clear hnd hnh
                 go_wp2_with (go_at_call 21; refine (C1.out _).mono ?_; rintro e w' ⟨rfl, rfl⟩)
                 go_ret2
                 exact ⟨by rw [HR.out]; rfl, rfl⟩)
          | some d =>
            have hd15 := digD_le2 hd
            have hst2 : basedC 10 (cs.drop (i + 1)) (if fitsN x 10 d then x * 10 + d else 0) (!ov && fitsN x 10 d) true = R := by
              rw [← hst, basedC_some (by simp [h95]) hd]
            clear hst
            by_cases hdig : 48 ≤ c ∧ c ≤ 57
            · have hdc : d + 48 = c := by unfold digD at hd; rw [if_pos hdig] at hd; injection hd with hd; omega
              have C1 := Lib.hid (rdigit_any c)
              rw [show digN c = true from decide_eq_true hdig] at C1
              clear hd hdig
              subst hdc
              have hd10 : d ≤ 15 := hd15
              have HST := Lib.hid hst2
              clear hst2
              cases ov with
              | true =>
                have HV2 : ∀ y, Hid (basedC 10 (cs.drop (i + 1)) y (!true) true = R) := fun y => (basedC_lost _ _ y _ _).trans HST.out
                have HV3 := Lib.hid HV2
                clear HV2 HST
                go_wp2_with (go_at_call 21; refine (C1.out _).mono ?_; rintro e w' ⟨rfl, rfl⟩)
                go_round
                case rel => exact ⟨i + 1, by first | rfl | go_num, by omega, rv_any HV3.out (by first | exact u64_some _ | exact ⟨_, rfl, by unfold mostN; omega⟩) (by first | rfl | (congr 1; exact decide_eq_true (by omega)))⟩
                case measure => simp [RowKit.intOf]; omega
              | false =>
                by_cases hf : x * 10 + d ≤ 18446744073709551615
                · have HV2 : Hid (basedC 10 (cs.drop (i + 1)) (x * 10 + d) (!false) true = R) := by
                    have h1 := HST.out
                    rw [show fitsN x 10 d = true from decide_eq_true hf] at h1
                    exact h1
                  clear HST
                  go_wp2_with (go_at_call 21; refine (C1.out _).mono ?_; rintro e w' ⟨rfl, rfl⟩)
                  go_round
                  case rel => exact ⟨i + 1, by first | rfl | go_num, by omega, x * 10 + d, false, true, by first | rfl | go_num | (congr 1; omega), by first | rfl | (congr 1; exact decide_eq_false (by omega)), rfl, hf, HV2⟩
                  case measure => simp [RowKit.intOf]; omega
                · have HV2 : ∀ y, Hid (basedC 10 (cs.drop (i + 1)) y (!true) true = R) := fun y => by
                    have h1 := HST.out
                    rw [show fitsN x 10 d = false from decide_eq_false hf] at h1
                    exact (basedC_lost _ _ y _ _).trans h1
                  have HV3 := Lib.hid HV2
                  clear HV2 HST
                  go_wp2_with (go_at_call 21; refine (C1.out _).mono ?_; rintro e w' ⟨rfl, rfl⟩)
                  go_round
                  case rel => exact ⟨i + 1, by first | rfl | go_num, by omega, rv_any HV3.out (by first | exact u64_some _ | exact ⟨_, rfl, by unfold mostN; omega⟩) (by first | rfl | (congr 1; exact decide_eq_true (by omega)))⟩
                  case measure => simp [RowKit.intOf]; omega
            · exfalso
              unfold digD at hd
              rw [if_neg hdig, if_neg (by omega)] at hd
              cases hd
      · obtain rfl : i = cs.length := by omega
        have hend := HV.out
        rw [List.drop_length] at hend
        clear HV hlt
        cases was with
        | false =>
          have HR : Hid (R = (0, 61)) := by unfold Hid; rw [← hend]; unfold basedC; simp
          clear hend
          go_wp2
          go_ret2
          exact ⟨by rw [HR.out]; rfl, rfl⟩
        | true =>
          cases ov with
          | true =>
            have HR : Hid (R = (0, 11)) := by unfold Hid; rw [← hend]; unfold basedC; simp
            clear hend
            go_wp2
            go_ret2
            exact ⟨by rw [HR.out]; rfl, rfl⟩
          | false =>
            have HR : Hid (R = (x, 0)) := by unfold Hid; rw [← hend]; unfold basedC; simp
            clear hend
            go_wp2
            go_ret2
            exact ⟨by rw [HR.out]; rfl, rfl⟩

end Go.Proofs.YtbpiolklenopcaaDoor
