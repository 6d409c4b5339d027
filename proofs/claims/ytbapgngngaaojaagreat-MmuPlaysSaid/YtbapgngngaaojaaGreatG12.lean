/- The walk of the eighth reference's Best: bestP. -/
import Derived.Test.YtbapgngngaaojaaGreatG11
import Derived.Test.YtbapgngngaaojaaGreatG09
set_option linter.unusedSimpArgs false
set_option linter.unusedVariables false
namespace Go.Proofs.YtbapgngngaaojaaGreat
open Go.RowKit Go.Lib
set_option maxRecDepth 100000
theorem snoc_ind {α : Type} {P : List α → Prop} (h0 : P []) (h1 : ∀ l x, P l → P (l ++ [x])) (l : List α) : P l := by
 have h : ∀ r : List α, P r.reverse := by
  intro r
  induction r with
  | nil => exact h0
  | cons x r ih => rw [List.reverse_cons]; exact h1 _ _ ih
 have := h l.reverse
 rwa [List.reverse_reverse] at this
/-- What the best mark is. -/
theorem best_iff (M : Mk → Bool) : ∀ (l : List Mk), (∀ x ∈ l, 1 ≤ x.level) →
  ((∀ j (hj : j < l.length), M l[j] = false) ∧ l.foldl (bestStep M) zeroM = zeroM) ∨
  (∃ i, ∃ hi : i < l.length, l.foldl (bestStep M) zeroM = l[i] ∧ M l[i] = true ∧ (∀ j (hj : j < l.length), M l[j] = true → l[j].level ≤ l[i].level) ∧ (∀ j (hj : j < l.length), i < j → M l[j] = true → l[j].level < l[i].level)) := by
 intro l
 refine snoc_ind (P := fun l => (∀ x ∈ l, 1 ≤ x.level) → ((∀ j (hj : j < l.length), M l[j] = false) ∧ l.foldl (bestStep M) zeroM = zeroM) ∨
  (∃ i, ∃ hi : i < l.length, l.foldl (bestStep M) zeroM = l[i] ∧ M l[i] = true ∧ (∀ j (hj : j < l.length), M l[j] = true → l[j].level ≤ l[i].level) ∧ (∀ j (hj : j < l.length), i < j → M l[j] = true → l[j].level < l[i].level))) ?_ ?_ l
 ·intro _; exact .inl ⟨fun j hj => by simp at hj, rfl⟩
 ·intro l x ih
  intro hl
  have ih := ih (fun y hy => hl y (by simp [hy]))
  have hx : 1 ≤ x.level := hl x (by simp)
  have hg : ∀ j (hj : j < (l ++ [x]).length), (∃ h : j < l.length, (l ++ [x])[j] = l[j]) ∨ (j = l.length ∧ (l ++ [x])[j] = x) := by
   intro j hj
   by_cases h : j < l.length
   ·exact .inl ⟨h, List.getElem_append_left h⟩
   ·have : j = l.length := by simp at hj; omega
    subst this
    exact .inr ⟨rfl, by simp⟩
  rw [List.foldl_append]
  show (_ ∧ bestStep M (l.foldl (bestStep M) zeroM) x = zeroM) ∨ ∃ i, ∃ hi : i < (l ++ [x]).length, bestStep M (l.foldl (bestStep M) zeroM) x = (l ++ [x])[i] ∧ _
  generalize l.foldl (bestStep M) zeroM = b at ih
  unfold bestStep
  have hlast : (l ++ [x])[l.length]'(by simp) = x := by simp
  by_cases hM : M x = true
  ·rcases ih with ⟨h1, h2⟩ | ⟨i, hi, h2, h3, h4, h5⟩
   ·rw [if_pos ⟨hM, by rw [h2]; show 0 ≤ _; omega⟩]
    refine .inr ⟨l.length, by simp, hlast.symm, by rw [hlast]; exact hM, fun j hj hMj => ?_, fun j hj hij => by simp at hj; omega⟩
    rcases hg j hj with ⟨h, e⟩ | ⟨_, e⟩
    ·rw [e, h1 j h] at hMj; cases hMj
    ·rw [e, hlast]; exact Nat.le_refl _
   ·by_cases hle : b.level ≤ x.level
    ·rw [if_pos ⟨hM, hle⟩]
     refine .inr ⟨l.length, by simp, hlast.symm, by rw [hlast]; exact hM, fun j hj hMj => ?_, fun j hj hij => by simp at hj; omega⟩
     rcases hg j hj with ⟨h, e⟩ | ⟨_, e⟩
     ·rw [e] at hMj; have := h4 j h hMj; rw [e, hlast]; rw [h2] at hle; omega
     ·rw [e, hlast]; exact Nat.le_refl _
    ·rw [if_neg (fun h => hle h.2)]
     have hib : (l ++ [x])[i]'(by simp; omega) = l[i] := List.getElem_append_left hi
     rw [h2] at hle
     refine .inr ⟨i, by simp; omega, by rw [hib]; exact h2, by rw [hib]; exact h3, fun j hj hMj => ?_, fun j hj hij hMj => ?_⟩
     ·rcases hg j hj with ⟨h, e⟩ | ⟨_, e⟩
      ·rw [e] at hMj; rw [e, hib]; exact h4 j h hMj
      ·rw [e, hib]; omega
     ·rcases hg j hj with ⟨h, e⟩ | ⟨_, e⟩
      ·rw [e] at hMj; rw [e, hib]; exact h5 j h hij hMj
      ·rw [e, hib]; omega
  ·rw [if_neg (fun h => hM h.1)]
   have hMf : M x = false := by simpa using hM
   rcases ih with ⟨h1, h2⟩ | ⟨i, hi, h2, h3, h4, h5⟩
   ·refine .inl ⟨fun j hj => ?_, h2⟩
    rcases hg j hj with ⟨h, e⟩ | ⟨_, e⟩
    ·rw [e]; exact h1 j h
    ·rw [e]; exact hMf
   ·have hib : (l ++ [x])[i]'(by simp; omega) = l[i] := List.getElem_append_left hi
    refine .inr ⟨i, by simp; omega, by rw [hib]; exact h2, by rw [hib]; exact h3, fun j hj hMj => ?_, fun j hj hij hMj => ?_⟩
    ·rcases hg j hj with ⟨h, e⟩ | ⟨_, e⟩
     ·rw [e] at hMj; rw [e, hib]; exact h4 j h hMj
     ·rw [e] at hMj; exact absurd hMj hM
    ·rcases hg j hj with ⟨h, e⟩ | ⟨_, e⟩
     ·rw [e] at hMj; rw [e, hib]; exact h5 j h hij hMj
     ·rw [e] at hMj; exact absurd hMj hM
theorem best_none {M : Mk → Bool} {l : List Mk} (hl : ∀ x ∈ l, 1 ≤ x.level) (h : ∀ j (hj : j < l.length), M l[j] = false) : l.foldl (bestStep M) zeroM = zeroM := by
 rcases best_iff M l hl with ⟨_, h2⟩ | ⟨i, hi, _, h3, _⟩
 ·exact h2
 ·rw [h i hi] at h3; cases h3
theorem best_at {M : Mk → Bool} {l : List Mk} (hl : ∀ x ∈ l, 1 ≤ x.level) (i : Nat) (hi : i < l.length) (h1 : M l[i] = true) (h2 : ∀ j (hj : j < l.length), l[i].level < l[j].level → M l[j] = false) (h3 : ∀ j (hj : j < l.length), i < j → l[j].level = l[i].level → M l[j] = false) : l.foldl (bestStep M) zeroM = l[i] := by
 rcases best_iff M l hl with ⟨h4, _⟩ | ⟨k, hk, e, h4, h5, h6⟩
 ·rw [h4 i hi] at h1; cases h1
 ·rw [e]
  have a1 := h5 i hi h1
  have a2 : ¬ l[i].level < l[k].level := fun h => by rw [h2 k hk h] at h4; cases h4
  rcases Nat.lt_trichotomy i k with h | h | h
  ·rw [h3 k hk h (by omega)] at h4; cases h4
  ·subst h; rfl
  ·have := h6 i hi h h1; omega
set_option maxHeartbeats 1000000 in
theorem rbest_nat (l : List Mk) (asid : Int) (va : Nat) (A0 : Option Addr) (c0 : Nat) (w : World) (hn : l.length ≤ 1000) (hl : ∀ x ∈ l, 1 ≤ x.level ∧ x.level ≤ 3) (hv : va < 18446744073709551616) (h : RdRow w (.slice A0 l.length c0) l.length (rowL mL l)) :
  Calls Tryz.prog 82 #[.slice A0 l.length c0, .int .i64 asid, .int .u64 va] w fun e w' => e = .returned (mV (bestP l asid va)) ∧ Below w.heap.size w w' := by
 have C1 : Hid (∀ x ∈ l, ∀ w, Calls Tryz.prog 121 #[mV x, .int .i64 asid, .int .u64 va] w fun e w' => e = .returned (.bool (leadM asid va x)) ∧ Below w.heap.size w w') := fun x hx w =>
  rleads_nat x.asid x.va x.level x.table asid va w (hl x hx).1 (hl x hx).2 hv
 unfold bestP
 generalize leadM asid va = M at *
 obtain ⟨R, hR⟩ : ∃ R, l.foldl (bestStep M) zeroM = R := ⟨_, rfl⟩
 rw [hR]
 have HNone : Hid ((∀ j (hj : j < l.length), M l[j] = false) → zeroM = R) := fun h => by rw [← hR]; exact (best_none (fun x hx => (hl x hx).1) h).symm
 have HAt : Hid (∀ i (hi : i < l.length), M l[i] = true → (∀ j (hj : j < l.length), l[i].level < l[j].level → M l[j] = false) → (∀ j (hj : j < l.length), i < j → l[j].level = l[i].level → M l[j] = false) → l[i] = R) := fun i hi h1 h2 h3 => by rw [← hR]; exact (best_at (fun x hx => (hl x hx).1) i hi h1 h2 h3).symm
 have HLV : Hid (∀ j (hj : j < l.length), 1 ≤ l[j].level ∧ l[j].level ≤ 3) := fun j hj => hl _ (List.getElem_mem hj)
 have HN := Lib.hid hn
 have H := Lib.hid h
 clear h hn hl hv hR
 go_enter Tryz.func82, Tryz.ntmps82
 go_wp2
 generalize hW : World.alloc _ _ = W
 have HR0 : Hid (Box W w.heap.size (mL zeroM)) := by rw [← hW]; exact Box.new w (mL zeroM) 122
 have HB0 : Hid (Below w.heap.size w W) := by rw [← hW]; exact below1 w _
 clear hW
 go_loopw [7] (fun s7 wr => ∃ lev : Nat, s7 = .int .i64 lev ∧ lev ≤ 3 ∧ Hid (∀ j (hj : j < l.length), lev < l[j].level → M l[j] = false) ∧ Hid (Box wr w.heap.size (mL zeroM)) ∧ Hid (Below w.heap.size w wr)) (fun s7 _ => (RowKit.intOf s7).toNat)
 case atStart => exact ⟨3, rfl, by omega, fun j hj h => by have := (HLV.out j hj).2; omega, HR0, HB0⟩
 case round =>
  obtain ⟨lev, rfl, hlev, HUP, HR, HB⟩ := hrel
  by_cases h1 : 1 ≤ lev
  ·have d1 : decide ((1 : Int) ≤ (lev : Int)) = true := by simp; omega
   have hn2 : l.length ≤ 1000 := HN.out
   go_wp2
   go_loopw [8] (fun s8 wq => ∃ n : Nat, s8 = .int .i64 ((n : Int) - 1) ∧ n ≤ l.length ∧ Hid (∀ j (hj : j < l.length), n ≤ j → l[j].level = lev → M l[j] = false) ∧ Hid (Box wq w.heap.size (mL zeroM)) ∧ Hid (Below w.heap.size w wq)) (fun s8 _ => (RowKit.intOf s8 + 1).toNat)
   case atStart => exact ⟨l.length, rfl, Nat.le_refl _, fun j hj h => by omega, HR, HB⟩
   case round =>
    obtain ⟨n, rfl, hnl, HAL, HRq, HBq⟩ := hrel
    cases n with
    | zero =>
     rw [show (((0 : Nat) : Int) - 1) = -1 from rfl]
     go_wp2
     have HUP2 : Hid (∀ j (hj : j < l.length), lev - 1 < l[j].level → M l[j] = false) := fun j hj h => by
      by_cases e : l[j].level = lev
      ·exact HAL.out j hj (Nat.zero_le _) e
      ·exact HUP.out j hj (by omega)
     exact ⟨⟨lev - 1, by congr 1; omega, by omega, HUP2, HRq, HBq⟩, by simp [RowKit.intOf]; omega⟩
    | succ i =>
     rw [show (((i + 1 : Nat) : Int) - 1) = (i : Int) by omega]
     have hlt : i < l.length := by omega
     obtain ⟨g, o, rfl, hr⟩ := H.out.get (by omega)
     have hrng : wr.rangeAt g o (rowL mL l) := fun j v hj => keep_cell HBq.out (hr j v hj)
     have k0 := row_at0 mL_len hrng i hlt _ rfl
     have k1 := row_at mL_len hrng i hlt 1 _ rfl
     have k2 := row_at mL_len hrng i hlt 2 _ rfl
     have k3 := row_at mL_len hrng i hlt 3 _ rfl
     have C2 := Lib.hid (C1.out l[i] (List.getElem_mem hlt))
     have HA := Lib.hid (HAt.out i hlt)
     clear hrng hr
     generalize hy : l[i] = y at *
     obtain ⟨q, hq⟩ : ∃ q, M y = q := ⟨_, rfl⟩
     rw [hq] at C2 HA
     have HY := Lib.hid hy
     have HMQ := Lib.hid hq
     clear hy hq
     obtain ⟨ya, yv, yl, yt⟩ := y
     dsimp only [mV] at C2
     dsimp only at k0 k1 k2 k3
     have d2 : decide ((0 : Int) ≤ (i : Int)) = true := by simp
     by_cases hyl : yl = lev
     ·have d3 : ((yl : Int) == (lev : Int)) = true := by simp; omega
      have HYL := Lib.hid hyl
      clear hyl
      go_wp2_with fail
      refine (C2.out _).mono ?_
      rintro e w5 ⟨rfl, hb5⟩
      have HB5 : Hid (Below w.heap.size w w5) := HBq.out.trans (hb5.mono HBq.out.size)
      have HR5 := Lib.hid (HRq.out.below hb5)
      replace k0 := keep_cell hb5 k0
      replace k1 := keep_cell hb5 k1
      replace k2 := keep_cell hb5 k2
      replace k3 := keep_cell hb5 k3
      clear hb5
      cases q with
      | false =>
       go_wp2
       go_roundw
       case rel => exact ⟨i, by first | rfl | go_num, by omega, fun j hj h hl => by
        by_cases e : j = i
        ·subst e; rw [HY.out]; exact HMQ.out
        ·exact HAL.out j hj (by omega) hl, HR5, HB5⟩
       case measure => simp [RowKit.intOf]
      | true =>
       have HQ := Lib.hid (HA.out rfl (fun j hj h => HUP.out j hj (by rw [← HYL.out]; exact h)) (fun j hj h hl => HAL.out j hj (by omega) (hl.trans HYL.out)))
       have BX := HR5.out
       have r0 := BX.at 0 _ rfl
       have r1 := BX.at 1 _ rfl
       have r2 := BX.at 2 _ rfl
       have r3 := BX.at 3 _ rfl
       have fr := BX.2.1
       have zr := BX.2.2
       clear BX
       go_wp2
       refine bodyPost_ret (v := mV ⟨ya, yv, yl, yt⟩) (by simp [results, Tryz.results82, go_sem, zr, r0, r1, r2, r3, mV]) rfl ⟨by rw [HQ.out], ?_⟩
       rw [set4_eq]
       exact below_setCells HB5.out (Nat.le_refl _) 0 _
     ·have d3 : ((yl : Int) == (lev : Int)) = false := by simp; omega
      have HYL := Lib.hid hyl
      clear hyl
      go_wp2
      go_roundw
      case rel => exact ⟨i, by first | rfl | go_num, by omega, fun j hj h hl => by
       by_cases e : j = i
       ·subst e; rw [HY.out] at hl; exact absurd hl HYL.out
       ·exact HAL.out j hj (by omega) hl, HRq, HBq⟩
      case measure => simp [RowKit.intOf]
  ·have hz : lev = 0 := by omega
   subst hz
   have HQ := Lib.hid (HNone.out (fun j hj => HUP.out j hj (by have := (HLV.out j hj).1; omega)))
   have BX := HR.out
   have r0 := BX.at 0 _ rfl
   have r1 := BX.at 1 _ rfl
   have r2 := BX.at 2 _ rfl
   have r3 := BX.at 3 _ rfl
   have fr := BX.2.1
   have zr := BX.2.2
   clear BX
   go_wp2
   refine bodyPost_ret (v := mV zeroM) (by simp [results, Tryz.results82, go_sem, zr, r0, r1, r2, r3, mV, zeroM]) rfl ⟨by rw [HQ.out], ?_⟩
   rw [set4_eq]
   exact below_setCells HB.out (Nat.le_refl _) 0 _
end Go.Proofs.YtbapgngngaaojaaGreat
