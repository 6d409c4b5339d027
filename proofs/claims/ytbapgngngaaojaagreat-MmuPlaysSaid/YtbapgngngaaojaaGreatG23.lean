/- The walk of reference 07's Find. -/
import Derived.Test.YtbapgngngaaojaaGreatG09
import Derived.Test.YtbapgngngaaojaaGreatG11
set_option linter.unusedSimpArgs false
set_option linter.unusedVariables false
namespace Go.Proofs.YtbapgngngaaojaaGreat
open Go.RowKit Go.Lib
set_option maxRecDepth 100000
set_option maxHeartbeats 1000000 in
theorem rfind_core (l : List Ent) (asid : Int) (va g o cap : Nat) (w : World) (hn : l.length ≤ 1000) (hl : ∀ x ∈ l, x.level ≤ 3) (hv : va < 18446744073709551616) (hg : g < w.heap.size) (h : w.rangeAt g o (rowL eL l)) :
  Calls Tryz.prog 34 #[.slice (some ⟨g, o, none⟩) l.length cap, .int .i64 asid, .int .u64 va] w (FindPost (findP l asid va) w) := by
 have C1 : Hid (∀ x ∈ l, ∀ w, Calls Tryz.prog 81 #[eV x, .int .i64 asid, .int .u64 va] w fun e w' => e = .returned (.bool (matE asid va x)) ∧ Below w.heap.size w w') := fun x hx w =>
  rmatches_nat x.asid x.va x.level x.d.kind x.d.out x.d.attr x.d.user x.d.write x.d.exec x.d.used asid va w (hl x hx) hv
 unfold findP
 generalize matE asid va = M at *
 have HN := Lib.hid hn
 have H := Lib.hid h
 clear h hn hl hv
 have HFin : Hid (∀ k, k = l.length → (l.take k).find? M = l.find? M ∧ (l.take k).countP M = l.countP M) := fun k e => by subst e; rw [List.take_length]; exact ⟨rfl, rfl⟩
 have HStep : Hid (∀ i (hi : i < l.length), ((l.take (i + 1)).find? M).getD zeroE = (if M l[i] = true ∧ (l.take i).countP M = 0 then l[i] else ((l.take i).find? M).getD zeroE) ∧ (l.take (i + 1)).countP M = (l.take i).countP M + if M l[i] = true then 1 else 0) := fun i hi => by
  rw [take_snoc' l i hi]
  exact ⟨find_snoc _ _ _, by rw [List.countP_append]; simp [List.countP_cons]⟩
 have HCle : Hid (∀ i, (l.take i).countP M ≤ 1000) := fun i => Nat.le_trans List.countP_le_length (Nat.le_trans (List.length_take_le' _ _) HN.out)
 go_enter Tryz.func34, Tryz.ntmps34
 go_wp2
 generalize hW : World.alloc (World.alloc _ _) _ = W
 have HR8 : Hid (Box W w.heap.size (eL zeroE)) := by rw [← hW]; exact (Box.new w (eL zeroE) 101).below (below1 _ _)
 have HQ2 : Hid (Box W (w.heap.size + 1) (eL zeroE)) := by
  rw [← hW]
  have h := Box.new (w.alloc (.cells (eL zeroE).toArray 101)) (eL zeroE) 101
  rw [World.size_alloc] at h
  exact h
 have HB0 : Hid (Below w.heap.size w W) := by rw [← hW]; exact (below1 w _).alloc (by simp) _
 clear hW
 go_loopw [9, 10] (fun nv iv wr => ∃ i : Nat, iv = .int .i64 i ∧ i ≤ l.length ∧ nv = .int .i64 ((l.take i).countP M) ∧ Hid (Box wr w.heap.size (eL zeroE)) ∧ Hid (Box wr (w.heap.size + 1) (eL (((l.take i).find? M).getD zeroE))) ∧ Hid (Below w.heap.size w wr)) (fun _ iv _ => l.length - (RowKit.intOf iv).toNat)
 case atStart => exact ⟨0, rfl, by omega, by simp, HR8, HQ2, HB0⟩
 case round =>
  obtain ⟨i, rfl, hi, rfl, HR, HQ, HB⟩ := hrel
  have hn2 : l.length ≤ 1000 := HN.out
  have hcl := HCle.out i
  have hz1 : w.heap.size < wr.heap.size := HR.out.2.2
  have hz2 : w.heap.size + 1 < wr.heap.size := HQ.out.2.2
  by_cases hlt : i < l.length
  ·have hrng : wr.rangeAt g o (rowL eL l) := fun j v hj => (HB.out.cell (p := ⟨g, o + j, none⟩) hg).trans (H.out j v hj)
   have k0 := row_at0 eL_len hrng i hlt _ rfl
   have k1 := row_at eL_len hrng i hlt 1 _ rfl
   have k2 := row_at eL_len hrng i hlt 2 _ rfl
   have k3 := row_at eL_len hrng i hlt 3 _ rfl
   have k4 := row_at eL_len hrng i hlt 4 _ rfl
   have k5 := row_at eL_len hrng i hlt 5 _ rfl
   have k6 := row_at eL_len hrng i hlt 6 _ rfl
   have k7 := row_at eL_len hrng i hlt 7 _ rfl
   have k8 := row_at eL_len hrng i hlt 8 _ rfl
   have k9 := row_at eL_len hrng i hlt 9 _ rfl
   have C2 := Lib.hid (C1.out l[i] (List.getElem_mem hlt))
   have HS := Lib.hid (HStep.out i hlt)
   clear hrng
   generalize ((l.take i).find? M).getD zeroE = fe at *
   generalize (l.take i).countP M = n at *
   generalize l[i] = y at *
   obtain ⟨q, hq⟩ : ∃ q, M y = q := ⟨_, rfl⟩
   rw [hq] at C2 HS
   clear hq
   obtain ⟨ya, yv, yl, ⟨yk, yo, y1, y2, y3, y4, yt⟩⟩ := y
   dsimp only [eV] at C2
   dsimp only at k0 k1 k2 k3 k4 k5 k6 k7 k8 k9
   go_wp2_with fail
   refine (C2.out _).mono ?_
   rintro e w5 ⟨rfl, hb5⟩
   have HB5 : Hid (Below w.heap.size w w5) := HB.out.trans (hb5.mono HB.out.size)
   have HR5 : Hid (Box w5 w.heap.size (eL zeroE)) := HR.out.below hb5
   have HQ5 : Hid (Box w5 (w.heap.size + 1) (eL fe)) := HQ.out.below hb5
   have j0 := keep_cell hb5 k0
   have j1 := keep_cell hb5 k1
   have j2 := keep_cell hb5 k2
   have j3 := keep_cell hb5 k3
   have j4 := keep_cell hb5 k4
   have j5 := keep_cell hb5 k5
   have j6 := keep_cell hb5 k6
   have j7 := keep_cell hb5 k7
   have j8 := keep_cell hb5 k8
   have j9 := keep_cell hb5 k9
   clear hb5 k0 k1 k2 k3 k4 k5 k6 k7 k8 k9
   have hz5 : w.heap.size + 1 < w5.heap.size := HQ5.out.2.2
   cases q with
   | false =>
    rw [if_neg (by simp), if_neg (by simp)] at HS
    go_wp2
    go_roundw
    case rel => exact ⟨i + 1, by first | rfl | go_num, by omega, by rw [HS.out.2]; rfl, HR5, by rw [Hid, HS.out.1]; exact HQ5.out, HB5⟩
    case measure => simp [RowKit.intOf]; omega
   | true =>
    by_cases hn0 : n = 0
    ·subst hn0
     rw [if_pos ⟨rfl, rfl⟩, if_pos rfl] at HS
     obtain ⟨fa, fv, fl, ⟨fk, fo, f1, f2, f3, f4, ft⟩⟩ := fe
     have BX := HQ5.out
     have q0 := BX.at 0 _ rfl
     have q1 := BX.at 1 _ rfl
     have q2 := BX.at 2 _ rfl
     have q3 := BX.at 3 _ rfl
     have q4 := BX.at 4 _ rfl
     have q5 := BX.at 5 _ rfl
     have q6 := BX.at 6 _ rfl
     have q7 := BX.at 7 _ rfl
     have q8 := BX.at 8 _ rfl
     have q9 := BX.at 9 _ rfl
     have fq := BX.2.1
     clear BX
     go_wp2
     go_roundw
     case rel =>
      rw [set10_eq]
      exact ⟨i + 1, by first | rfl | go_num, by omega, by rw [HS.out.2]; rfl, HR5.out.kept ((Kp.refl (fun k => k = w.heap.size + 1) w5).setCells (.inl rfl) 0 _) (by omega), by rw [Hid, HS.out.1]; exact HQ5.out.put (news := eL ⟨ya, yv, yl, ⟨yk, yo, y1, y2, y3, y4, yt⟩⟩) rfl, below_setCells HB5.out (by omega) 0 _⟩
     case measure => simp [RowKit.intOf]; omega
    ·rw [if_neg (fun h => hn0 h.2), if_pos rfl] at HS
     have hd : ((n : Int) == 0) = false := by simp [hn0]
     clear hn0
     go_wp2
     go_roundw
     case rel => exact ⟨i + 1, by first | rfl | go_num, by omega, by (rw [HS.out.2]; try first | rfl | go_num), HR5, by rw [Hid, HS.out.1]; exact HQ5.out, HB5⟩
     case measure => simp [RowKit.intOf]; omega
  ·have hF := Lib.hid (HFin.out i (by omega))
   generalize hfe : ((l.take i).find? M).getD zeroE = fe at *
   generalize hnn : (l.take i).countP M = n at *
   have HF1 : Hid ((l.find? M).getD zeroE = fe ∧ l.countP M = n) := ⟨by first | (rw [← hF.out.1]; done) | (rw [← hF.out.1]; exact hfe), by first | (rw [← hF.out.2]; done) | (rw [← hF.out.2]; exact hnn)⟩
   clear hfe hnn hF
   obtain ⟨fa, fv, fl, ⟨fk, fo, f1, f2, f3, f4, ft⟩⟩ := fe
   have BX := HQ.out
   have BY := HR.out
   have q0 := BX.at 0 _ rfl
   have q1 := BX.at 1 _ rfl
   have q2 := BX.at 2 _ rfl
   have q3 := BX.at 3 _ rfl
   have q4 := BX.at 4 _ rfl
   have q5 := BX.at 5 _ rfl
   have q6 := BX.at 6 _ rfl
   have q7 := BX.at 7 _ rfl
   have q8 := BX.at 8 _ rfl
   have q9 := BX.at 9 _ rfl
   have fq := BX.2.1
   have r0 := BY.at 0 _ rfl
   have r1 := BY.at 1 _ rfl
   have r2 := BY.at 2 _ rfl
   have r3 := BY.at 3 _ rfl
   have r4 := BY.at 4 _ rfl
   have r5 := BY.at 5 _ rfl
   have r6 := BY.at 6 _ rfl
   have r7 := BY.at 7 _ rfl
   have r8 := BY.at 8 _ rfl
   have r9 := BY.at 9 _ rfl
   have fr := BY.2.1
   clear BX BY
   go_wp2
   refine bodyPost_ret (v := .tuple #[eV ⟨fa, fv, fl, ⟨fk, fo, f1, f2, f3, f4, ft⟩⟩, .int .i64 n]) ?_ rfl ?_
   ·simp [results, Tryz.results34, go_sem, hz1, hz2, q0, q1, q2, q3, q4, q5, q6, q7, q8, q9, r0, r1, r2, r3, r4, r5, r6, r7, r8, r9, eV]
   ·rw [set10_eq]
    exact ⟨by rw [HF1.out.1, HF1.out.2], below_setCells HB.out (Nat.le_refl _) 0 _⟩
end Go.Proofs.YtbapgngngaaojaaGreat
