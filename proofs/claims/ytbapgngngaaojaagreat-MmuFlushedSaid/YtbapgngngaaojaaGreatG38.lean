/- The walk of MmuFlushed. -/
import Derived.Test.YtbapgngngaaojaaGreatG36
import Derived.Test.YtbapgngngaaojaaGreatG37
set_option linter.unusedSimpArgs false
set_option linter.unusedVariables false
namespace Go.Proofs.YtbapgngngaaojaaGreat
open Go.RowKit Go.Lib
set_option maxRecDepth 100000
attribute [local go_sem high] eqA_Result eqA_Fault
theorem set_flushed (s : St) : setP s 1407374883557376 = (0, { s with reg := some (4096, 5) }) := by
 unfold setP
 rw [show regV 1407374883557376 = (4096, 5, 0) from by decide]
 rfl
set_option maxHeartbeats 4000000 in
theorem flushed_long (n0 : Nat) (A0 AO : Option Addr) (c0 nO cO va : Nat) (all : Bool) (w : World) (h60 : 60 < n0) :
  Calls Tryz.prog 4 #[.slice A0 n0 c0, .slice AO nO cO, .int .u64 va, .bool all] w fun e w' => e = .returned (.bool true) ∧ Below w.heap.size w w' := by
 have C1 := Lib.hid (fun u => opened_longJ 16 n0 A0 c0 u h60)
 clear h60
 go_enter Tryz.func4, Tryz.ntmps4
 go_upto_region 3 with (go_at_call 7; refine (anchor_nat _).mono ?_; rintro e w1 ⟨rfl, hb1⟩; have HB1 := Lib.hid hb1; clear hb1)
 go_upto_region 4 with (go_at_call 8; refine (C1.out w1).mono ?_; rintro e w2 ⟨rfl, hb⟩; dsimp only [xW]; have HB2 := Lib.hid hb; clear hb)
 have HB3 := Lib.hid ((HB1.out.trans (HB2.out.mono HB1.out.size)).trans ((below1 w2 (.cells (xJ 1048576 16 0 0 false (.slice none 0 0) (.slice none 0 0) (.slice none 0 0) (.slice none 0 0)).toArray 36)).mono (HB1.out.trans (HB2.out.mono HB1.out.size)).size))
 dsimp only [xJ, List.toArray] at HB3
 generalize World.alloc w2 _ = W3 at *
 go_wp2
 go_ret
 exact ⟨rfl, HB3.out⟩
set_option maxHeartbeats 4000000 in
theorem flushed_nat (W0 : List (Nat × Nat)) (A0 : Option Addr) (c0 : Nat) (O : List OpT) (AO : Option Addr) (cO va : Nat) (all : Bool) (w : World) (h60 : W0.length ≤ 60) (hW : ∀ s ∈ W0, s.1 < 18446744073709551616 ∧ s.2 < 18446744073709551616) (hr0 : RdRow w (.slice A0 W0.length c0) W0.length (rowL wL W0)) (hva : va < 18446744073709551616)
  (hO : ∀ o ∈ O, o.va < 18446744073709551616 ∧ o.wd < 18446744073709551616) (hrO : RdRow w (.slice AO O.length cO) O.length (rowL opL O)) :
  Calls Tryz.prog 4 #[.slice A0 W0.length c0, .slice AO O.length cO, .int .u64 va, .bool all] w fun e w' => e = .returned (.bool true) ∧ Below w.heap.size w w' := by
 have C1 : Hid (∀ u, Below w.heap.size w u → Calls Tryz.prog 8 #[.slice A0 W0.length c0, .int .i64 16] u fun e w' => ∃ x m pt pk B A c n, e = .returned (.tuple #[.pointer (some ⟨x, 0, none⟩), .agg #[.int .u64 1048576, .slice A n c, .int .i64 16, .slice none 0 0, .slice none 0 0, .bool false, .int .u64 0, .int .i64 0, .slice none 0 0], .bool true]) ∧ MB x m pt pk (.slice none 0 0) (st0 1048576 (rdM (wsI 1048576 W0)) 16) B w w') := fun u hb => by
  refine (opened_nat 16 W0 A0 c0 u (by omega) (by omega) h60 hW (hr0.below hb)).mono ?_
  rintro e w' ⟨x, m, pt, pk, Fm, A, c, rfl, ho⟩
  obtain ⟨B, hB, -⟩ := ho.mb hb
  exact ⟨x, m, pt, pk, B, A, c, _, rfl, hB⟩
 have HO := Lib.hid hO
 have HRO := Lib.hid hrO
 clear h60 hW hr0 hO hrO
 generalize st0 1048576 (rdM (wsI 1048576 W0)) 16 = s0 at *
 go_enter Tryz.func4, Tryz.ntmps4
 go_upto_region 3 with (go_at_call 7; refine (anchor_nat _).mono ?_; rintro e w1 ⟨rfl, hb1⟩; have HB1 := Lib.hid hb1; clear hb1)
 go_upto_region 4 with (go_at_call 8; refine (C1.out _ HB1.out).mono ?_; rintro e w2 ⟨x, m, pt, pk, B, A, c, n, rfl, hB⟩; have HM2 := Lib.hid hB; clear hB)
 have HM3 := Lib.hid (HM2.out.below (below1 w2 (.cells #[.int .u64 1048576, .slice A n c, .int .i64 16, .slice none 0 0, .slice none 0 0, .bool false, .int .u64 0, .int .i64 0, .slice none 0 0] 36)))
 clear C1 HB1 HM2
 generalize World.alloc w2 _ = W3 at *
 by_cases hl40 : 40 < O.length
 ·have d1 : decide ((40 : Int) < (O.length : Int)) = true := by simp; omega
  go_wp2
  go_ret
  exact ⟨rfl, HM3.out.base⟩
 ·have d1 : decide ((40 : Int) < (O.length : Int)) = false := by simp; omega
  have hl : O.length ≤ 40 := by omega
  clear hl40
  go_wp2_with fail
  go_loopw [36] (fun iv wr => ∃ (i : Nat) (s : St) (PS : List Pl) (pv : Value) (B : Nat → Prop), iv = .int .i64 i ∧ i ≤ O.length ∧ Hid (MB x m pt pk pv s B w wr) ∧ Hid (RowAt wr B 4 pv PS.length (rowL pL PS)) ∧ Hid (PS.length ≤ 8 ∧ ∀ p ∈ PS, p.1 < 18446744073709551616)) (fun iv _ => O.length - (RowKit.intOf iv).toNat)
  case atStart => exact ⟨0, s0, [], .slice none 0 0, B, rfl, by omega, HM3, RowAt.nil _ _ _, by simp, by simp⟩
  case round =>
   obtain ⟨i, s, PS, pv, B, rfl, hi, HM, HP, HPB⟩ := hrel
   by_cases hlt : i < O.length
   ·obtain ⟨g, o, rfl, hr⟩ := HRO.out.get (by omega)
    have hrng : wr.rangeAt g o (rowL opL O) := fun j v hj => keep_cell HM.out.base (hr j v hj)
    have k0 := row_at0 opL_len hrng i hlt _ rfl
    have k1 := row_at opL_len hrng i hlt 1 _ rfl
    have k2 := row_at opL_len hrng i hlt 2 _ rfl
    have k3 := row_at opL_len hrng i hlt 3 _ rfl
    have k4 := row_at opL_len hrng i hlt 4 _ rfl
    have k5 := row_at opL_len hrng i hlt 5 _ rfl
    have k6 := row_at opL_len hrng i hlt 6 _ rfl
    have k7 := row_at opL_len hrng i hlt 7 _ rfl
    have i1 : (0 : Int) ≤ (i : Int) := by omega
    have i2 : (i : Int) < (O.length : Int) := by omega
    have hol := HO.out _ (List.getElem_mem hlt)
    clear hrng hr
    generalize O[i] = y at *
    obtain ⟨kind, sort, nn, ova, owd, f, l, k⟩ := y
    dsimp only at k0 k1 k2 k3 k4 k5 k6 k7 hol
    obtain ⟨hova, howd⟩ := hol
    go_upto_region 9 with fail
    have HOB : Hid (Box (wr.alloc (.cells #[.int .i64 kind, .int .i64 sort, .int .i64 nn, .int .u64 ova, .int .u64 owd, .bool f, .bool l, .bool k] 55)) wr.heap.size [.int .i64 kind, .int .i64 sort, .int .i64 nn, .int .u64 ova, .int .u64 owd, .bool f, .bool l, .bool k]) := Box.new wr [.int .i64 kind, .int .i64 sort, .int .i64 nn, .int .u64 ova, .int .u64 owd, .bool f, .bool l, .bool k] 55
    have hb5 := below1 wr (.cells #[.int .i64 kind, .int .i64 sort, .int .i64 nn, .int .u64 ova, .int .u64 owd, .bool f, .bool l, .bool k] 55)
    have HM5 := Lib.hid (HM.out.below hb5)
    have HP5 := Lib.hid (HP.out.below hb5)
    clear hb5 k0 k1 k2 k3 k4 k5 k6 k7
    generalize World.alloc wr _ = W5 at *
    have j0 := HOB.out.at 0 _ rfl
    have j1 := HOB.out.at 1 _ rfl
    have j2 := HOB.out.at 2 _ rfl
    have j3 := HOB.out.at 3 _ rfl
    have j4 := HOB.out.at 4 _ rfl
    have j5 := HOB.out.at 5 _ rfl
    have j6 := HOB.out.at 6 _ rfl
    have j7 := HOB.out.at 7 _ rfl
    have CS : Hid (Calls Tryz.prog 14 #[.pointer (some ⟨x, 0, none⟩), .agg #[.int .u64 0, .slice none 0 0, .int .i64 0, .slice none 0 0, .slice none 0 0, .bool false, .int .u64 0, .int .i64 0, .slice none 0 0], .agg #[.int .i64 kind, .int .i64 sort, .int .i64 nn, .int .u64 ova, .int .u64 owd, .bool f, .bool l, .bool k]] W5 (FPost x m pt pk B w W5)) := step_fl HM5.out HP5.out HPB.out.1 HPB.out.2 kind sort nn ova owd hova howd f l k
    go_wp2_with (go_at_call 14; refine CS.out.mono ?_; rintro e w6 ⟨v, s', PS', pv', B', rfl, hm, hr, hl2, hb2, -, -⟩; have HM6 := Lib.hid hm; have HP6 := Lib.hid hr; have HPB6 := Lib.hid (And.intro hl2 hb2); clear hm hr hl2 hb2)
    go_roundw
    case rel => exact ⟨i + 1, s', PS', pv', B', by first | rfl | go_num, by omega, HM6, HP6, HPB6⟩
    case measure => simp [RowKit.intOf]; omega
   ·obtain rfl : i = O.length := by omega
    clear HO HRO HP HPB hlt hi hl
    have C2 : Hid (Calls Tryz.prog 9 #[.pointer (some ⟨x, 0, none⟩), .int .u64 1407374883557376] wr fun e w' => e = .returned (.int .i64 0) ∧ MB x m pt pk pv { s with reg := some (4096, 5) } B w w' ∧ Kp (KB B w) wr w') := by
     have h := HM.out.set 1407374883557376 (by omega)
     rw [set_flushed] at h
     exact h
    go_upto_region 12 with (go_at_call 9; refine C2.out.mono ?_; rintro e w4 ⟨rfl, hm, -⟩; have HM4 := Lib.hid hm; clear hm)
    clear C2 HM
    cases all
    ·have C3 := Lib.hid (HM4.out.flushAs 5)
     have HFR := Lib.hid (FreeOf.flushAs { s with reg := some (4096, 5) } 5)
     have HRG : Hid ((flushAsM { s with reg := some (4096, 5) } 5).reg = some (4096, 5)) := by rw [Hid]; rfl
     generalize flushAsM { s with reg := some (4096, 5) } 5 = s2 at *
     go_upto_region 15 with (go_at_call 16; refine C3.out.mono ?_; rintro e w5 ⟨rfl, hm, -⟩; have HM5 := Lib.hid hm; clear hm)
     clear C3 HM4
     have C4 : Hid (Calls Tryz.prog 17 #[.pointer (some ⟨x, 0, none⟩)] w5 fun e w' => e = .returned (.bool true) ∧ Below w5.heap.size w5 w') := by
      have h := HM5.out.sound
      rw [HFR.out.sound HRG.out] at h
      exact h
     go_upto_region 17 with (go_at_call 17; refine C4.out.mono ?_; rintro e w6 ⟨rfl, hb⟩; have HM6 := Lib.hid (HM5.out.below hb); clear hb)
     clear C4 HM5
     have C5 := Lib.hid HM6.out.memory
     have C6 : Hid (Calls Tryz.prog 18 #[.pointer (some ⟨m, 0, none⟩), .int .u64 4096, .int .u64 va] w6 fun e w' => e = .returned (.tuple #[leafV (fromP s2.sz s2.rd 0 4096 va).level (fromP s2.sz s2.rd 0 4096 va).d, fV (fromP s2.sz s2.rd 0 4096 va).f]) ∧ Below w6.heap.size w6 w') :=
      HM6.out.of (fun _ _ _ hd => walk_nat hd.mem (fun k y => hd.bm k y) (by have := hd.ok.szle; omega) 4096 va ⟨by omega, by omega⟩)
     have HAC := Lib.hid (flushed_acc HFR.out HRG.out va)
     have HMY := Lib.hid (@fB_may s2.sz s2.rd 4096 va)
     have HFF := Lib.hid (fB_f s2.sz s2.rd 4096 va)
     have HF0 := Lib.hid (fromP_f s2.sz s2.rd 0 4096 va)
     clear HFR HRG
     generalize fromP s2.sz s2.rd 0 4096 va = R at *
     obtain ⟨F, hF⟩ : ∃ F, fB R va = F := ⟨_, rfl⟩
     rw [hF] at HAC HMY HFF
     obtain ⟨lv, ⟨K, out, b1, b2, b3, b4, attr⟩, ⟨f1, f2⟩, st⟩ := R
     dsimp only [leafV, fV] at C6 HAC HMY HF0
     obtain ⟨F1, F2⟩ := F
     go_upto_region 18 with (first | (go_at_call 19; refine C5.out.mono ?_; rintro e w7 ⟨rfl, hw7⟩; rw [hw7]; clear hw7 w7) | (go_at_call 18; refine C6.out.mono ?_; rintro e w7 ⟨rfl, hb⟩; have HM7 := Lib.hid (HM6.out.below hb); clear hb))
     clear C5 C6 HM6
     have hb8 : Below w7.heap.size w7 ((w7.alloc (.cells #[.int .i64 lv, .int .i64 K, .int .u64 out, .bool b1, .bool b2, .bool b3, .bool b4, .int .i64 attr] 62)).alloc (.cells #[.int .i64 f1, .int .i64 f2] 43)) := (below1 w7 _).alloc (by simp) _
     have HL8 : Hid (Box ((w7.alloc (.cells #[.int .i64 lv, .int .i64 K, .int .u64 out, .bool b1, .bool b2, .bool b3, .bool b4, .int .i64 attr] 62)).alloc (.cells #[.int .i64 f1, .int .i64 f2] 43)) w7.heap.size [.int .i64 lv, .int .i64 K, .int .u64 out, .bool b1, .bool b2, .bool b3, .bool b4, .int .i64 attr]) := (Box.new w7 [.int .i64 lv, .int .i64 K, .int .u64 out, .bool b1, .bool b2, .bool b3, .bool b4, .int .i64 attr] 62).below (below1 _ _)
     have HF8 : Hid (Box ((w7.alloc (.cells #[.int .i64 lv, .int .i64 K, .int .u64 out, .bool b1, .bool b2, .bool b3, .bool b4, .int .i64 attr] 62)).alloc (.cells #[.int .i64 f1, .int .i64 f2] 43)) (w7.heap.size + 1) [.int .i64 f1, .int .i64 f2]) := Box.new' (w7.alloc (.cells #[.int .i64 lv, .int .i64 K, .int .u64 out, .bool b1, .bool b2, .bool b3, .bool b4, .int .i64 attr] 62)) _ (by simp) [.int .i64 f1, .int .i64 f2] 43
     have HM8 := Lib.hid (HM7.out.adds hb8)
     clear hb8 HM7
     generalize World.alloc (World.alloc w7 _) _ = W8 at *
     have HG9 : Hid (w7.heap.size + 1 < W8.heap.size) := HF8.out.2.2
     generalize w7.heap.size = g at *
     generalize hB8 : (fun k => B k ∨ (g ≤ k ∧ k < W8.heap.size)) = B8 at *
     have HBg : Hid (B8 g ∧ B8 (g + 1)) := by rw [← hB8]; have := HG9.out; exact ⟨.inr ⟨by omega, by omega⟩, .inr ⟨by omega, by omega⟩⟩
     clear hB8
     by_cases h8 : va % 8 = 0
     ·have hFB : fB ⟨lv, ⟨K, out, b1, b2, b3, b4, attr⟩, (f1, f2), st⟩ va = fA ⟨lv, ⟨K, out, b1, b2, b3, b4, attr⟩, (f1, f2), st⟩ := by unfold fB; rw [if_pos h8]
      rw [hFB] at hF
      have d8 : ((va : Int) % 8 != 0) = false := by rw [bne_eq_false_iff_eq]; omega
      have D8 := Lib.hid d8
      clear d8 h8 hFB
      by_cases hf : f1 = 0
      ·have hf2 := HF0.out hf
       obtain ⟨rfl, rfl⟩ := Prod.mk.inj hf2
       have hL : letP ⟨K, out, b1, b2, b3, b4, attr⟩ lv 1 = (F1, F2) := by rw [← hF]; unfold fA; rw [if_pos rfl]
       have CL : Hid (Calls Tryz.prog 20 #[.agg #[.int .i64 K, .int .u64 out, .bool b1, .bool b2, .bool b3, .bool b4, .int .i64 attr], .int .i64 lv, .int .i64 1] W8 fun e w' => e = .returned (.agg #[.int .i64 F1, .int .i64 F2]) ∧ Below W8.heap.size W8 w') := by
        have h := let_nat K out attr lv b1 b2 b3 b4 1 W8
        rw [hL] at h
        exact h
       clear hL hF hf hf2
       have l0 := HL8.out.at 0 _ rfl
       have l1 := HL8.out.at 1 _ rfl
       have l2 := HL8.out.at 2 _ rfl
       have l3 := HL8.out.at 3 _ rfl
       have l4 := HL8.out.at 4 _ rfl
       have l5 := HL8.out.at 5 _ rfl
       have l6 := HL8.out.at 6 _ rfl
       have l7 := HL8.out.at 7 _ rfl
       have q0 := HF8.out.at 0 _ rfl
       have q1 := HF8.out.at 1 _ rfl
       have d8 := D8.out
       go_upto_region 20 with (go_at_call 20; refine CL.out.mono ?_; rintro e w9 ⟨rfl, hb⟩; have HM9 := Lib.hid (HM8.out.below hb); have HL9 := Lib.hid (HL8.out.below hb); have HF9 := Lib.hid (HF8.out.below hb); clear hb; have q0 := HF9.out.at 0 _ rfl; have q1 := HF9.out.at 1 _ rfl; have fq := HF9.out.2.1; have zq := HF9.out.2.2)
       have hkF : Kp (fun k => k = g + 1) w9 ((w9.setCell ⟨g + 1, 0, none⟩ (.int .i64 F1)).setCell ⟨g + 1, 1, none⟩ (.int .i64 F2)) := ((Kp.refl (fun k => k = g + 1) w9).setCell (p := ⟨g + 1, 0, none⟩) (.inl rfl) _).setCell (p := ⟨g + 1, 1, none⟩) (.inl rfl) _
       have HFT : Hid (Box ((w9.setCell ⟨g + 1, 0, none⟩ (.int .i64 F1)).setCell ⟨g + 1, 1, none⟩ (.int .i64 F2)) (g + 1) [.int .i64 F1, .int .i64 F2]) := (HF9.out.setAt 0 (by simp) _).setAt 1 (by simp) _
       have HLT := Lib.hid (HL9.out.kept hkF (by omega))
       have HMT := Lib.hid (HM9.out.own (hkF.mono (fun k e => by rw [e]; exact HBg.out.2)))
       clear hkF HF9 HL9 HM9
       generalize World.setCell (World.setCell w9 _ _) _ _ = WT at *
       clear q0 q1 fq zq l0 l1 l2 l3 l4 l5 l6 l7
       go_upto_region 22 with fail
       by_cases hF1 : F1 = 0
       ·have hz := HFF.out hF1
        obtain ⟨rfl, rfl⟩ := Prod.mk.inj hz
        clear hF1 hz
        have HMZ := Lib.hid (HMY.out rfl)
        have CA : Hid (Calls Tryz.prog 21 #[.pointer (some ⟨x, 0, none⟩), .int .i64 1, .int .u64 va, .int .u64 0, .agg #[.bool false, .bool true, .bool false]] WT fun e w' => e = .returned (.agg #[.int .i64 0, .int .i64 0, .int .u64 (s2.rd (out + offP va lv))]) ∧ MB x m pt pk pv s2 B8 w w' ∧ Kp (KB B8 w) WT w') := by
         have h := HMT.out.access 1 va 0 hva (by omega) false true false
         rw [HAC.out.1, HAC.out.2.1, HAC.out.2.2, if_pos rfl] at h
         exact h
        have CO : Hid (∀ u, Calls Tryz.prog 23 #[.agg #[.int .i64 lv, .int .i64 K, .int .u64 out, .bool b1, .bool b2, .bool b3, .bool b4, .int .i64 attr], .int .u64 va] u fun e w' => e = .returned (.int .u64 (out + offP va lv : Nat)) ∧ Below u.heap.size u w') := fun u => leaf_out lv K out attr va b1 b2 b3 b4 u HMZ.out.2.1 hva HMZ.out.2.2
        have hva2 : out + offP va lv < 18446744073709551616 := by
         have h1 := HMZ.out.2.2
         have h2 : offP va lv ≤ va := Nat.mod_le _ _
         have h3 := (mayP_ok HMZ.out.1).2
         have h4 : s2.sz ≤ 4294967296 := HMT.out.ok.szle
         omega
        have CR : Hid (∀ u, MB x m pt pk pv s2 B8 w u → Calls Tryz.prog 22 #[.pointer (some ⟨m, 0, none⟩), .int .u64 (out + offP va lv : Nat)] u fun e w' => e = .returned (.tuple #[.int .u64 (s2.rd (out + offP va lv)), .int .i64 0]) ∧ w' = u) := fun u hm => hm.of (fun _ _ _ hd => by
         have h := read_nat hd.mem (out + offP va lv) hva2
         unfold readP at h
         rw [if_pos HMZ.out.1] at h
         exact h)
        clear hva2
        generalize out + offP va lv = ad at *
        generalize hX : s2.rd ad = X at *
        clear hX
        go_upto_region 23 with (go_at_call 21; refine CA.out.mono ?_; rintro e wA ⟨rfl, hm, hk⟩; have HMA := Lib.hid hm; have HLA := Lib.hid (HLT.out.mb hk HBg.out.1); have HFA := Lib.hid (HFT.out.mb hk HBg.out.2); clear hm hk)
        have hbR := below1 wA (.cells #[.int .i64 0, .int .i64 0, .int .u64 X] 69)
        have HRR : Hid (Box (wA.alloc (.cells #[.int .i64 0, .int .i64 0, .int .u64 X] 69)) wA.heap.size [.int .i64 0, .int .i64 0, .int .u64 X]) := Box.new wA [.int .i64 0, .int .i64 0, .int .u64 X] 69
        have HMR := Lib.hid (HMA.out.below hbR)
        have HLR := Lib.hid (HLA.out.below hbR)
        have HFR := Lib.hid (HFA.out.below hbR)
        clear hbR CA HMA HLA HFA HMT HLT HFT
        generalize World.alloc wA _ = WR at *
        generalize wA.heap.size = gr at *
        have q0 := HFR.out.at 0 _ rfl
        have q1 := HFR.out.at 1 _ rfl
        have r0 := HRR.out.at 0 _ rfl
        have r1 := HRR.out.at 1 _ rfl
        have r2 := HRR.out.at 2 _ rfl
        have l0 := HLR.out.at 0 _ rfl
        have l1 := HLR.out.at 1 _ rfl
        have l2 := HLR.out.at 2 _ rfl
        have l3 := HLR.out.at 3 _ rfl
        have l4 := HLR.out.at 4 _ rfl
        have l5 := HLR.out.at 5 _ rfl
        have l6 := HLR.out.at 6 _ rfl
        have l7 := HLR.out.at 7 _ rfl
        have hC : CtxB WR WR := Below.refl _ _
        have SK : Hid (∀ u, CtxB WR u → u.cell? ⟨g, 0, none⟩ = some (.int .i64 lv) ∧ u.cell? ⟨g, 1, none⟩ = some (.int .i64 K) ∧ u.cell? ⟨g, 2, none⟩ = some (.int .u64 out) ∧ u.cell? ⟨g, 3, none⟩ = some (.bool b1) ∧ u.cell? ⟨g, 4, none⟩ = some (.bool b2) ∧ u.cell? ⟨g, 5, none⟩ = some (.bool b3) ∧ u.cell? ⟨g, 6, none⟩ = some (.bool b4) ∧ u.cell? ⟨g, 7, none⟩ = some (.int .i64 attr) ∧ CtxB WR u) := fun u h => ⟨keep_cell h.out l0, keep_cell h.out l1, keep_cell h.out l2, keep_cell h.out l3, keep_cell h.out l4, keep_cell h.out l5, keep_cell h.out l6, keep_cell h.out l7, h⟩
        go_upto_region 25 with fail
        go_region_held3 (fun u => u.cell? ⟨g, 0, none⟩ = some (.int .i64 lv) ∧ u.cell? ⟨g, 1, none⟩ = some (.int .i64 K) ∧ u.cell? ⟨g, 2, none⟩ = some (.int .u64 out) ∧ u.cell? ⟨g, 3, none⟩ = some (.bool b1) ∧ u.cell? ⟨g, 4, none⟩ = some (.bool b2) ∧ u.cell? ⟨g, 5, none⟩ = some (.bool b3) ∧ u.cell? ⟨g, 6, none⟩ = some (.bool b4) ∧ u.cell? ⟨g, 7, none⟩ = some (.int .i64 attr) ∧ CtxB WR u)
         (first | with_reducible assumption | ((try dsimp only); refine SK.out _ ?_; (first | with_reducible exact hC5 | with_reducible exact hC.drew)))
         (first | (go_at_call 19; first | (refine (HMR.out.below hC.drew.out).memory.mono ?_; rintro e w7 ⟨rfl, hw7⟩; rw [hw7]; clear hw7 w7) | (refine (HMR.out.below (CtxB.out hC5)).memory.mono ?_; rintro e w7 ⟨rfl, hw7⟩; rw [hw7]; clear hw7 w7)) | (go_at_call 23; refine (CO.out _).mono ?_; rintro e w8 ⟨rfl, hb⟩; have hC5 : CtxB WR w8 := CtxB.next hC.drew hb) | (go_at_call 22; refine (CR.out _ (HMR.out.below (CtxB.out hC5))).mono ?_; rintro e w7 ⟨rfl, hw7⟩; rw [hw7]; clear hw7 w7))
        all_goals
         have HBX : Hid (Below WR.heap.size WR w8) := CtxB.out hC5
         have r0 := (HRR.out.below HBX.out).at 0 _ rfl
         have r1 := (HRR.out.below HBX.out).at 1 _ rfl
         have r2 := (HRR.out.below HBX.out).at 2 _ rfl
         go_wp2
         go_ret
         exact ⟨rfl, (HMR.out.below HBX.out).base⟩
       ·have HNN : Hid (¬ (F1, F2) = ((0, 0) : Nat × Nat)) := fun h => hF1 (Prod.mk.inj h).1
        have hfb : ((F1 : Int) == 0) = false := by rw [beq_eq_false_iff_ne]; omega
        clear hF1
        have CA : Hid (Calls Tryz.prog 21 #[.pointer (some ⟨x, 0, none⟩), .int .i64 1, .int .u64 va, .int .u64 0, .agg #[.bool false, .bool true, .bool false]] WT fun e w' => e = .returned (.agg #[.int .i64 F1, .int .i64 F2, .int .u64 0]) ∧ MB x m pt pk pv s2 B8 w w' ∧ Kp (KB B8 w) WT w') := by
         have h := HMT.out.access 1 va 0 hva (by omega) false true false
         rw [HAC.out.1, HAC.out.2.1, HAC.out.2.2, if_neg HNN.out] at h
         exact h
        go_upto_region 23 with (go_at_call 21; refine CA.out.mono ?_; rintro e wA ⟨rfl, hm, hk⟩; have HMA := Lib.hid hm; have HLA := Lib.hid (HLT.out.mb hk HBg.out.1); have HFA := Lib.hid (HFT.out.mb hk HBg.out.2); clear hm hk)
        have hbR := below1 wA (.cells #[.int .i64 F1, .int .i64 F2, .int .u64 0] 69)
        have HRR : Hid (Box (wA.alloc (.cells #[.int .i64 F1, .int .i64 F2, .int .u64 0] 69)) wA.heap.size [.int .i64 F1, .int .i64 F2, .int .u64 0]) := Box.new wA [.int .i64 F1, .int .i64 F2, .int .u64 0] 69
        have HMR := Lib.hid (HMA.out.below hbR)
        have HLR := Lib.hid (HLA.out.below hbR)
        have HFR := Lib.hid (HFA.out.below hbR)
        clear hbR CA HMA HLA HFA HMT HLT HFT
        generalize World.alloc wA _ = WR at *
        generalize wA.heap.size = gr at *
        have q0 := HFR.out.at 0 _ rfl
        have q1 := HFR.out.at 1 _ rfl
        have r0 := HRR.out.at 0 _ rfl
        have r1 := HRR.out.at 1 _ rfl
        have r2 := HRR.out.at 2 _ rfl
        go_wp2
        go_ret
        exact ⟨rfl, HMR.out.base⟩
      ·have hfe : (f1, f2) = (F1, F2) := by rw [← hF]; unfold fA; rw [if_neg (fun h => hf (Prod.mk.inj h).1)]
       obtain ⟨rfl, rfl⟩ := Prod.mk.inj hfe
       have hgb : ((f1 : Int) == 0) = false := by rw [beq_eq_false_iff_ne]; omega
       have q0 := HF8.out.at 0 _ rfl
       have q1 := HF8.out.at 1 _ rfl
       have d8 := D8.out
       have HNF : Hid (¬ (f1, f2) = ((0, 0) : Nat × Nat)) := fun h => hf (Prod.mk.inj h).1
       have HGB := Lib.hid hgb
       clear hF hfe hf
       go_upto_region 22 with fail
       clear q0 q1 hgb
       have HMT := HM8
       have HLT := HL8
       have HFT := HF8
       clear HM8 HL8 HF8
       generalize W8 = WT at *
       have HNN : Hid (¬ (f1, f2) = ((0, 0) : Nat × Nat)) := HNF
       have hfb := HGB.out
       have CA : Hid (Calls Tryz.prog 21 #[.pointer (some ⟨x, 0, none⟩), .int .i64 1, .int .u64 va, .int .u64 0, .agg #[.bool false, .bool true, .bool false]] WT fun e w' => e = .returned (.agg #[.int .i64 f1, .int .i64 f2, .int .u64 0]) ∧ MB x m pt pk pv s2 B8 w w' ∧ Kp (KB B8 w) WT w') := by
        have h := HMT.out.access 1 va 0 hva (by omega) false true false
        rw [HAC.out.1, HAC.out.2.1, HAC.out.2.2, if_neg HNN.out] at h
        exact h
       go_upto_region 23 with (go_at_call 21; refine CA.out.mono ?_; rintro e wA ⟨rfl, hm, hk⟩; have HMA := Lib.hid hm; have HLA := Lib.hid (HLT.out.mb hk HBg.out.1); have HFA := Lib.hid (HFT.out.mb hk HBg.out.2); clear hm hk)
       have hbR := below1 wA (.cells #[.int .i64 f1, .int .i64 f2, .int .u64 0] 69)
       have HRR : Hid (Box (wA.alloc (.cells #[.int .i64 f1, .int .i64 f2, .int .u64 0] 69)) wA.heap.size [.int .i64 f1, .int .i64 f2, .int .u64 0]) := Box.new wA [.int .i64 f1, .int .i64 f2, .int .u64 0] 69
       have HMR := Lib.hid (HMA.out.below hbR)
       have HLR := Lib.hid (HLA.out.below hbR)
       have HFR := Lib.hid (HFA.out.below hbR)
       clear hbR CA HMA HLA HFA HMT HLT HFT
       generalize World.alloc wA _ = WR at *
       generalize wA.heap.size = gr at *
       have q0 := HFR.out.at 0 _ rfl
       have q1 := HFR.out.at 1 _ rfl
       have r0 := HRR.out.at 0 _ rfl
       have r1 := HRR.out.at 1 _ rfl
       have r2 := HRR.out.at 2 _ rfl
       go_wp2
       go_ret
       exact ⟨rfl, HMR.out.base⟩
     ·have hFB : fB ⟨lv, ⟨K, out, b1, b2, b3, b4, attr⟩, (f1, f2), st⟩ va = (5, 0) := by unfold fB; rw [if_neg h8]
      rw [hFB] at hF
      obtain ⟨rfl, rfl⟩ := Prod.mk.inj hF
      have d8 : ((va : Int) % 8 != 0) = true := by rw [bne_iff_ne]; omega
      have D8 := Lib.hid d8
      clear d8 h8 hFB hF
      by_cases hf : f1 = 0
      ·have hf2 := HF0.out hf
       obtain ⟨rfl, rfl⟩ := Prod.mk.inj hf2
       obtain ⟨⟨L1, L2⟩, hL⟩ : ∃ L, letP ⟨K, out, b1, b2, b3, b4, attr⟩ lv 1 = L := ⟨_, rfl⟩
       have CL : Hid (Calls Tryz.prog 20 #[.agg #[.int .i64 K, .int .u64 out, .bool b1, .bool b2, .bool b3, .bool b4, .int .i64 attr], .int .i64 lv, .int .i64 1] W8 fun e w' => e = .returned (.agg #[.int .i64 L1, .int .i64 L2]) ∧ Below W8.heap.size W8 w') := by
        have h := let_nat K out attr lv b1 b2 b3 b4 1 W8
        rw [hL] at h
        exact h
       clear hL hf hf2
       have l0 := HL8.out.at 0 _ rfl
       have l1 := HL8.out.at 1 _ rfl
       have l2 := HL8.out.at 2 _ rfl
       have l3 := HL8.out.at 3 _ rfl
       have l4 := HL8.out.at 4 _ rfl
       have l5 := HL8.out.at 5 _ rfl
       have l6 := HL8.out.at 6 _ rfl
       have l7 := HL8.out.at 7 _ rfl
       have q0 := HF8.out.at 0 _ rfl
       have q1 := HF8.out.at 1 _ rfl
       have d8 := D8.out
       go_upto_region 20 with (go_at_call 20; refine CL.out.mono ?_; rintro e w9 ⟨rfl, hb⟩; have HM9 := Lib.hid (HM8.out.below hb); have HL9 := Lib.hid (HL8.out.below hb); have HF9 := Lib.hid (HF8.out.below hb); clear hb; have q0 := HF9.out.at 0 _ rfl; have q1 := HF9.out.at 1 _ rfl; have fq := HF9.out.2.1; have zq := HF9.out.2.2)
       have hkF : Kp (fun k => k = g + 1) w9 ((w9.setCell ⟨g + 1, 0, none⟩ (.int .i64 L1)).setCell ⟨g + 1, 1, none⟩ (.int .i64 L2)) := ((Kp.refl (fun k => k = g + 1) w9).setCell (p := ⟨g + 1, 0, none⟩) (.inl rfl) _).setCell (p := ⟨g + 1, 1, none⟩) (.inl rfl) _
       have HFA : Hid (Box ((w9.setCell ⟨g + 1, 0, none⟩ (.int .i64 L1)).setCell ⟨g + 1, 1, none⟩ (.int .i64 L2)) (g + 1) [.int .i64 L1, .int .i64 L2]) := (HF9.out.setAt 0 (by simp) _).setAt 1 (by simp) _
       have HLA := Lib.hid (HL9.out.kept hkF (by omega))
       have HMA := Lib.hid (HM9.out.own (hkF.mono (fun k e => by rw [e]; exact HBg.out.2)))
       clear hkF HF9 HL9 HM9
       generalize World.setCell (World.setCell w9 _ _) _ _ = W9 at *
       clear q0 q1 fq zq l0 l1 l2 l3 l4 l5 l6 l7
       have q0 := HFA.out.at 0 _ rfl
       have q1 := HFA.out.at 1 _ rfl
       have fq := HFA.out.2.1
       have zq := HFA.out.2.2
       go_upto_region 22 with fail
       have hkF : Kp (fun k => k = g + 1) W9 ((W9.setCell ⟨g + 1, 0, none⟩ (.int .i64 5)).setCell ⟨g + 1, 1, none⟩ (.int .i64 0)) := ((Kp.refl (fun k => k = g + 1) W9).setCell (p := ⟨g + 1, 0, none⟩) (.inl rfl) _).setCell (p := ⟨g + 1, 1, none⟩) (.inl rfl) _
       have HFT : Hid (Box ((W9.setCell ⟨g + 1, 0, none⟩ (.int .i64 5)).setCell ⟨g + 1, 1, none⟩ (.int .i64 0)) (g + 1) [.int .i64 5, .int .i64 0]) := (HFA.out.setAt 0 (by simp) _).setAt 1 (by simp) _
       have HLT := Lib.hid (HLA.out.kept hkF (by omega))
       have HMT := Lib.hid (HMA.out.own (hkF.mono (fun k e => by rw [e]; exact HBg.out.2)))
       clear hkF HFA HLA HMA
       generalize World.setCell (World.setCell W9 _ _) _ _ = WT at *
       clear q0 q1 fq zq
       have HNN : Hid (¬ (5, 0) = ((0, 0) : Nat × Nat)) := fun h => absurd (Prod.mk.inj h).1 (by omega)
       have CA : Hid (Calls Tryz.prog 21 #[.pointer (some ⟨x, 0, none⟩), .int .i64 1, .int .u64 va, .int .u64 0, .agg #[.bool false, .bool true, .bool false]] WT fun e w' => e = .returned (.agg #[.int .i64 5, .int .i64 0, .int .u64 0]) ∧ MB x m pt pk pv s2 B8 w w' ∧ Kp (KB B8 w) WT w') := by
        have h := HMT.out.access 1 va 0 hva (by omega) false true false
        rw [HAC.out.1, HAC.out.2.1, HAC.out.2.2, if_neg HNN.out] at h
        exact h
       go_upto_region 23 with (go_at_call 21; refine CA.out.mono ?_; rintro e wA ⟨rfl, hm, hk⟩; have HMA := Lib.hid hm; have HLA := Lib.hid (HLT.out.mb hk HBg.out.1); have HFA := Lib.hid (HFT.out.mb hk HBg.out.2); clear hm hk)
       have hbR := below1 wA (.cells #[.int .i64 5, .int .i64 0, .int .u64 0] 69)
       have HRR : Hid (Box (wA.alloc (.cells #[.int .i64 5, .int .i64 0, .int .u64 0] 69)) wA.heap.size [.int .i64 5, .int .i64 0, .int .u64 0]) := Box.new wA [.int .i64 5, .int .i64 0, .int .u64 0] 69
       have HMR := Lib.hid (HMA.out.below hbR)
       have HLR := Lib.hid (HLA.out.below hbR)
       have HFR := Lib.hid (HFA.out.below hbR)
       clear hbR CA HMA HLA HFA HMT HLT HFT
       generalize World.alloc wA _ = WR at *
       generalize wA.heap.size = gr at *
       have q0 := HFR.out.at 0 _ rfl
       have q1 := HFR.out.at 1 _ rfl
       have r0 := HRR.out.at 0 _ rfl
       have r1 := HRR.out.at 1 _ rfl
       have r2 := HRR.out.at 2 _ rfl
       go_wp2
       go_ret
       exact ⟨rfl, HMR.out.base⟩
      ·have hgb : ((f1 : Int) == 0) = false := by rw [beq_eq_false_iff_ne]; omega
       have q0 := HF8.out.at 0 _ rfl
       have q1 := HF8.out.at 1 _ rfl
       have fq := HF8.out.2.1
       have zq := HF8.out.2.2
       have d8 := D8.out
       clear hf
       go_upto_region 22 with fail
       have hkF : Kp (fun k => k = g + 1) W8 ((W8.setCell ⟨g + 1, 0, none⟩ (.int .i64 5)).setCell ⟨g + 1, 1, none⟩ (.int .i64 0)) := ((Kp.refl (fun k => k = g + 1) W8).setCell (p := ⟨g + 1, 0, none⟩) (.inl rfl) _).setCell (p := ⟨g + 1, 1, none⟩) (.inl rfl) _
       have HFT : Hid (Box ((W8.setCell ⟨g + 1, 0, none⟩ (.int .i64 5)).setCell ⟨g + 1, 1, none⟩ (.int .i64 0)) (g + 1) [.int .i64 5, .int .i64 0]) := (HF8.out.setAt 0 (by simp) _).setAt 1 (by simp) _
       have HLT := Lib.hid (HL8.out.kept hkF (by omega))
       have HMT := Lib.hid (HM8.out.own (hkF.mono (fun k e => by rw [e]; exact HBg.out.2)))
       clear hkF HF8 HL8 HM8
       generalize World.setCell (World.setCell W8 _ _) _ _ = WT at *
       clear q0 q1 fq zq hgb
       have HNN : Hid (¬ (5, 0) = ((0, 0) : Nat × Nat)) := fun h => absurd (Prod.mk.inj h).1 (by omega)
       have CA : Hid (Calls Tryz.prog 21 #[.pointer (some ⟨x, 0, none⟩), .int .i64 1, .int .u64 va, .int .u64 0, .agg #[.bool false, .bool true, .bool false]] WT fun e w' => e = .returned (.agg #[.int .i64 5, .int .i64 0, .int .u64 0]) ∧ MB x m pt pk pv s2 B8 w w' ∧ Kp (KB B8 w) WT w') := by
        have h := HMT.out.access 1 va 0 hva (by omega) false true false
        rw [HAC.out.1, HAC.out.2.1, HAC.out.2.2, if_neg HNN.out] at h
        exact h
       go_upto_region 23 with (go_at_call 21; refine CA.out.mono ?_; rintro e wA ⟨rfl, hm, hk⟩; have HMA := Lib.hid hm; have HLA := Lib.hid (HLT.out.mb hk HBg.out.1); have HFA := Lib.hid (HFT.out.mb hk HBg.out.2); clear hm hk)
       have hbR := below1 wA (.cells #[.int .i64 5, .int .i64 0, .int .u64 0] 69)
       have HRR : Hid (Box (wA.alloc (.cells #[.int .i64 5, .int .i64 0, .int .u64 0] 69)) wA.heap.size [.int .i64 5, .int .i64 0, .int .u64 0]) := Box.new wA [.int .i64 5, .int .i64 0, .int .u64 0] 69
       have HMR := Lib.hid (HMA.out.below hbR)
       have HLR := Lib.hid (HLA.out.below hbR)
       have HFR := Lib.hid (HFA.out.below hbR)
       clear hbR CA HMA HLA HFA HMT HLT HFT
       generalize World.alloc wA _ = WR at *
       generalize wA.heap.size = gr at *
       have q0 := HFR.out.at 0 _ rfl
       have q1 := HFR.out.at 1 _ rfl
       have r0 := HRR.out.at 0 _ rfl
       have r1 := HRR.out.at 1 _ rfl
       have r2 := HRR.out.at 2 _ rfl
       go_wp2
       go_ret
       exact ⟨rfl, HMR.out.base⟩
    ·have C3 := Lib.hid HM4.out.flushAll
     have HFR := Lib.hid (FreeOf.flushAll { s with reg := some (4096, 5) } 5)
     have HRG : Hid ((flushAllM { s with reg := some (4096, 5) }).reg = some (4096, 5)) := by rw [Hid]; rfl
     generalize flushAllM { s with reg := some (4096, 5) } = s2 at *
     go_upto_region 15 with (go_at_call 15; refine C3.out.mono ?_; rintro e w5 ⟨rfl, hm, -⟩; have HM5 := Lib.hid hm; clear hm)
     clear C3 HM4
     have C4 : Hid (Calls Tryz.prog 17 #[.pointer (some ⟨x, 0, none⟩)] w5 fun e w' => e = .returned (.bool true) ∧ Below w5.heap.size w5 w') := by
      have h := HM5.out.sound
      rw [HFR.out.sound HRG.out] at h
      exact h
     go_upto_region 17 with (go_at_call 17; refine C4.out.mono ?_; rintro e w6 ⟨rfl, hb⟩; have HM6 := Lib.hid (HM5.out.below hb); clear hb)
     clear C4 HM5
     have C5 := Lib.hid HM6.out.memory
     have C6 : Hid (Calls Tryz.prog 18 #[.pointer (some ⟨m, 0, none⟩), .int .u64 4096, .int .u64 va] w6 fun e w' => e = .returned (.tuple #[leafV (fromP s2.sz s2.rd 0 4096 va).level (fromP s2.sz s2.rd 0 4096 va).d, fV (fromP s2.sz s2.rd 0 4096 va).f]) ∧ Below w6.heap.size w6 w') :=
      HM6.out.of (fun _ _ _ hd => walk_nat hd.mem (fun k y => hd.bm k y) (by have := hd.ok.szle; omega) 4096 va ⟨by omega, by omega⟩)
     have HAC := Lib.hid (flushed_acc HFR.out HRG.out va)
     have HMY := Lib.hid (@fB_may s2.sz s2.rd 4096 va)
     have HFF := Lib.hid (fB_f s2.sz s2.rd 4096 va)
     have HF0 := Lib.hid (fromP_f s2.sz s2.rd 0 4096 va)
     clear HFR HRG
     generalize fromP s2.sz s2.rd 0 4096 va = R at *
     obtain ⟨F, hF⟩ : ∃ F, fB R va = F := ⟨_, rfl⟩
     rw [hF] at HAC HMY HFF
     obtain ⟨lv, ⟨K, out, b1, b2, b3, b4, attr⟩, ⟨f1, f2⟩, st⟩ := R
     dsimp only [leafV, fV] at C6 HAC HMY HF0
     obtain ⟨F1, F2⟩ := F
     go_upto_region 18 with (first | (go_at_call 19; refine C5.out.mono ?_; rintro e w7 ⟨rfl, hw7⟩; rw [hw7]; clear hw7 w7) | (go_at_call 18; refine C6.out.mono ?_; rintro e w7 ⟨rfl, hb⟩; have HM7 := Lib.hid (HM6.out.below hb); clear hb))
     clear C5 C6 HM6
     have hb8 : Below w7.heap.size w7 ((w7.alloc (.cells #[.int .i64 lv, .int .i64 K, .int .u64 out, .bool b1, .bool b2, .bool b3, .bool b4, .int .i64 attr] 62)).alloc (.cells #[.int .i64 f1, .int .i64 f2] 43)) := (below1 w7 _).alloc (by simp) _
     have HL8 : Hid (Box ((w7.alloc (.cells #[.int .i64 lv, .int .i64 K, .int .u64 out, .bool b1, .bool b2, .bool b3, .bool b4, .int .i64 attr] 62)).alloc (.cells #[.int .i64 f1, .int .i64 f2] 43)) w7.heap.size [.int .i64 lv, .int .i64 K, .int .u64 out, .bool b1, .bool b2, .bool b3, .bool b4, .int .i64 attr]) := (Box.new w7 [.int .i64 lv, .int .i64 K, .int .u64 out, .bool b1, .bool b2, .bool b3, .bool b4, .int .i64 attr] 62).below (below1 _ _)
     have HF8 : Hid (Box ((w7.alloc (.cells #[.int .i64 lv, .int .i64 K, .int .u64 out, .bool b1, .bool b2, .bool b3, .bool b4, .int .i64 attr] 62)).alloc (.cells #[.int .i64 f1, .int .i64 f2] 43)) (w7.heap.size + 1) [.int .i64 f1, .int .i64 f2]) := Box.new' (w7.alloc (.cells #[.int .i64 lv, .int .i64 K, .int .u64 out, .bool b1, .bool b2, .bool b3, .bool b4, .int .i64 attr] 62)) _ (by simp) [.int .i64 f1, .int .i64 f2] 43
     have HM8 := Lib.hid (HM7.out.adds hb8)
     clear hb8 HM7
     generalize World.alloc (World.alloc w7 _) _ = W8 at *
     have HG9 : Hid (w7.heap.size + 1 < W8.heap.size) := HF8.out.2.2
     generalize w7.heap.size = g at *
     generalize hB8 : (fun k => B k ∨ (g ≤ k ∧ k < W8.heap.size)) = B8 at *
     have HBg : Hid (B8 g ∧ B8 (g + 1)) := by rw [← hB8]; have := HG9.out; exact ⟨.inr ⟨by omega, by omega⟩, .inr ⟨by omega, by omega⟩⟩
     clear hB8
     by_cases h8 : va % 8 = 0
     ·have hFB : fB ⟨lv, ⟨K, out, b1, b2, b3, b4, attr⟩, (f1, f2), st⟩ va = fA ⟨lv, ⟨K, out, b1, b2, b3, b4, attr⟩, (f1, f2), st⟩ := by unfold fB; rw [if_pos h8]
      rw [hFB] at hF
      have d8 : ((va : Int) % 8 != 0) = false := by rw [bne_eq_false_iff_eq]; omega
      have D8 := Lib.hid d8
      clear d8 h8 hFB
      by_cases hf : f1 = 0
      ·have hf2 := HF0.out hf
       obtain ⟨rfl, rfl⟩ := Prod.mk.inj hf2
       have hL : letP ⟨K, out, b1, b2, b3, b4, attr⟩ lv 1 = (F1, F2) := by rw [← hF]; unfold fA; rw [if_pos rfl]
       have CL : Hid (Calls Tryz.prog 20 #[.agg #[.int .i64 K, .int .u64 out, .bool b1, .bool b2, .bool b3, .bool b4, .int .i64 attr], .int .i64 lv, .int .i64 1] W8 fun e w' => e = .returned (.agg #[.int .i64 F1, .int .i64 F2]) ∧ Below W8.heap.size W8 w') := by
        have h := let_nat K out attr lv b1 b2 b3 b4 1 W8
        rw [hL] at h
        exact h
       clear hL hF hf hf2
       have l0 := HL8.out.at 0 _ rfl
       have l1 := HL8.out.at 1 _ rfl
       have l2 := HL8.out.at 2 _ rfl
       have l3 := HL8.out.at 3 _ rfl
       have l4 := HL8.out.at 4 _ rfl
       have l5 := HL8.out.at 5 _ rfl
       have l6 := HL8.out.at 6 _ rfl
       have l7 := HL8.out.at 7 _ rfl
       have q0 := HF8.out.at 0 _ rfl
       have q1 := HF8.out.at 1 _ rfl
       have d8 := D8.out
       go_upto_region 20 with (go_at_call 20; refine CL.out.mono ?_; rintro e w9 ⟨rfl, hb⟩; have HM9 := Lib.hid (HM8.out.below hb); have HL9 := Lib.hid (HL8.out.below hb); have HF9 := Lib.hid (HF8.out.below hb); clear hb; have q0 := HF9.out.at 0 _ rfl; have q1 := HF9.out.at 1 _ rfl; have fq := HF9.out.2.1; have zq := HF9.out.2.2)
       have hkF : Kp (fun k => k = g + 1) w9 ((w9.setCell ⟨g + 1, 0, none⟩ (.int .i64 F1)).setCell ⟨g + 1, 1, none⟩ (.int .i64 F2)) := ((Kp.refl (fun k => k = g + 1) w9).setCell (p := ⟨g + 1, 0, none⟩) (.inl rfl) _).setCell (p := ⟨g + 1, 1, none⟩) (.inl rfl) _
       have HFT : Hid (Box ((w9.setCell ⟨g + 1, 0, none⟩ (.int .i64 F1)).setCell ⟨g + 1, 1, none⟩ (.int .i64 F2)) (g + 1) [.int .i64 F1, .int .i64 F2]) := (HF9.out.setAt 0 (by simp) _).setAt 1 (by simp) _
       have HLT := Lib.hid (HL9.out.kept hkF (by omega))
       have HMT := Lib.hid (HM9.out.own (hkF.mono (fun k e => by rw [e]; exact HBg.out.2)))
       clear hkF HF9 HL9 HM9
       generalize World.setCell (World.setCell w9 _ _) _ _ = WT at *
       clear q0 q1 fq zq l0 l1 l2 l3 l4 l5 l6 l7
       go_upto_region 22 with fail
       by_cases hF1 : F1 = 0
       ·have hz := HFF.out hF1
        obtain ⟨rfl, rfl⟩ := Prod.mk.inj hz
        clear hF1 hz
        have HMZ := Lib.hid (HMY.out rfl)
        have CA : Hid (Calls Tryz.prog 21 #[.pointer (some ⟨x, 0, none⟩), .int .i64 1, .int .u64 va, .int .u64 0, .agg #[.bool false, .bool true, .bool false]] WT fun e w' => e = .returned (.agg #[.int .i64 0, .int .i64 0, .int .u64 (s2.rd (out + offP va lv))]) ∧ MB x m pt pk pv s2 B8 w w' ∧ Kp (KB B8 w) WT w') := by
         have h := HMT.out.access 1 va 0 hva (by omega) false true false
         rw [HAC.out.1, HAC.out.2.1, HAC.out.2.2, if_pos rfl] at h
         exact h
        have CO : Hid (∀ u, Calls Tryz.prog 23 #[.agg #[.int .i64 lv, .int .i64 K, .int .u64 out, .bool b1, .bool b2, .bool b3, .bool b4, .int .i64 attr], .int .u64 va] u fun e w' => e = .returned (.int .u64 (out + offP va lv : Nat)) ∧ Below u.heap.size u w') := fun u => leaf_out lv K out attr va b1 b2 b3 b4 u HMZ.out.2.1 hva HMZ.out.2.2
        have hva2 : out + offP va lv < 18446744073709551616 := by
         have h1 := HMZ.out.2.2
         have h2 : offP va lv ≤ va := Nat.mod_le _ _
         have h3 := (mayP_ok HMZ.out.1).2
         have h4 : s2.sz ≤ 4294967296 := HMT.out.ok.szle
         omega
        have CR : Hid (∀ u, MB x m pt pk pv s2 B8 w u → Calls Tryz.prog 22 #[.pointer (some ⟨m, 0, none⟩), .int .u64 (out + offP va lv : Nat)] u fun e w' => e = .returned (.tuple #[.int .u64 (s2.rd (out + offP va lv)), .int .i64 0]) ∧ w' = u) := fun u hm => hm.of (fun _ _ _ hd => by
         have h := read_nat hd.mem (out + offP va lv) hva2
         unfold readP at h
         rw [if_pos HMZ.out.1] at h
         exact h)
        clear hva2
        generalize out + offP va lv = ad at *
        generalize hX : s2.rd ad = X at *
        clear hX
        go_upto_region 23 with (go_at_call 21; refine CA.out.mono ?_; rintro e wA ⟨rfl, hm, hk⟩; have HMA := Lib.hid hm; have HLA := Lib.hid (HLT.out.mb hk HBg.out.1); have HFA := Lib.hid (HFT.out.mb hk HBg.out.2); clear hm hk)
        have hbR := below1 wA (.cells #[.int .i64 0, .int .i64 0, .int .u64 X] 69)
        have HRR : Hid (Box (wA.alloc (.cells #[.int .i64 0, .int .i64 0, .int .u64 X] 69)) wA.heap.size [.int .i64 0, .int .i64 0, .int .u64 X]) := Box.new wA [.int .i64 0, .int .i64 0, .int .u64 X] 69
        have HMR := Lib.hid (HMA.out.below hbR)
        have HLR := Lib.hid (HLA.out.below hbR)
        have HFR := Lib.hid (HFA.out.below hbR)
        clear hbR CA HMA HLA HFA HMT HLT HFT
        generalize World.alloc wA _ = WR at *
        generalize wA.heap.size = gr at *
        have q0 := HFR.out.at 0 _ rfl
        have q1 := HFR.out.at 1 _ rfl
        have r0 := HRR.out.at 0 _ rfl
        have r1 := HRR.out.at 1 _ rfl
        have r2 := HRR.out.at 2 _ rfl
        have l0 := HLR.out.at 0 _ rfl
        have l1 := HLR.out.at 1 _ rfl
        have l2 := HLR.out.at 2 _ rfl
        have l3 := HLR.out.at 3 _ rfl
        have l4 := HLR.out.at 4 _ rfl
        have l5 := HLR.out.at 5 _ rfl
        have l6 := HLR.out.at 6 _ rfl
        have l7 := HLR.out.at 7 _ rfl
        have hC : CtxB WR WR := Below.refl _ _
        have SK : Hid (∀ u, CtxB WR u → u.cell? ⟨g, 0, none⟩ = some (.int .i64 lv) ∧ u.cell? ⟨g, 1, none⟩ = some (.int .i64 K) ∧ u.cell? ⟨g, 2, none⟩ = some (.int .u64 out) ∧ u.cell? ⟨g, 3, none⟩ = some (.bool b1) ∧ u.cell? ⟨g, 4, none⟩ = some (.bool b2) ∧ u.cell? ⟨g, 5, none⟩ = some (.bool b3) ∧ u.cell? ⟨g, 6, none⟩ = some (.bool b4) ∧ u.cell? ⟨g, 7, none⟩ = some (.int .i64 attr) ∧ CtxB WR u) := fun u h => ⟨keep_cell h.out l0, keep_cell h.out l1, keep_cell h.out l2, keep_cell h.out l3, keep_cell h.out l4, keep_cell h.out l5, keep_cell h.out l6, keep_cell h.out l7, h⟩
        go_upto_region 25 with fail
        go_region_held3 (fun u => u.cell? ⟨g, 0, none⟩ = some (.int .i64 lv) ∧ u.cell? ⟨g, 1, none⟩ = some (.int .i64 K) ∧ u.cell? ⟨g, 2, none⟩ = some (.int .u64 out) ∧ u.cell? ⟨g, 3, none⟩ = some (.bool b1) ∧ u.cell? ⟨g, 4, none⟩ = some (.bool b2) ∧ u.cell? ⟨g, 5, none⟩ = some (.bool b3) ∧ u.cell? ⟨g, 6, none⟩ = some (.bool b4) ∧ u.cell? ⟨g, 7, none⟩ = some (.int .i64 attr) ∧ CtxB WR u)
         (first | with_reducible assumption | ((try dsimp only); refine SK.out _ ?_; (first | with_reducible exact hC5 | with_reducible exact hC.drew)))
         (first | (go_at_call 19; first | (refine (HMR.out.below hC.drew.out).memory.mono ?_; rintro e w7 ⟨rfl, hw7⟩; rw [hw7]; clear hw7 w7) | (refine (HMR.out.below (CtxB.out hC5)).memory.mono ?_; rintro e w7 ⟨rfl, hw7⟩; rw [hw7]; clear hw7 w7)) | (go_at_call 23; refine (CO.out _).mono ?_; rintro e w8 ⟨rfl, hb⟩; have hC5 : CtxB WR w8 := CtxB.next hC.drew hb) | (go_at_call 22; refine (CR.out _ (HMR.out.below (CtxB.out hC5))).mono ?_; rintro e w7 ⟨rfl, hw7⟩; rw [hw7]; clear hw7 w7))
        all_goals
         have HBX : Hid (Below WR.heap.size WR w8) := CtxB.out hC5
         have r0 := (HRR.out.below HBX.out).at 0 _ rfl
         have r1 := (HRR.out.below HBX.out).at 1 _ rfl
         have r2 := (HRR.out.below HBX.out).at 2 _ rfl
         go_wp2
         go_ret
         exact ⟨rfl, (HMR.out.below HBX.out).base⟩
       ·have HNN : Hid (¬ (F1, F2) = ((0, 0) : Nat × Nat)) := fun h => hF1 (Prod.mk.inj h).1
        have hfb : ((F1 : Int) == 0) = false := by rw [beq_eq_false_iff_ne]; omega
        clear hF1
        have CA : Hid (Calls Tryz.prog 21 #[.pointer (some ⟨x, 0, none⟩), .int .i64 1, .int .u64 va, .int .u64 0, .agg #[.bool false, .bool true, .bool false]] WT fun e w' => e = .returned (.agg #[.int .i64 F1, .int .i64 F2, .int .u64 0]) ∧ MB x m pt pk pv s2 B8 w w' ∧ Kp (KB B8 w) WT w') := by
         have h := HMT.out.access 1 va 0 hva (by omega) false true false
         rw [HAC.out.1, HAC.out.2.1, HAC.out.2.2, if_neg HNN.out] at h
         exact h
        go_upto_region 23 with (go_at_call 21; refine CA.out.mono ?_; rintro e wA ⟨rfl, hm, hk⟩; have HMA := Lib.hid hm; have HLA := Lib.hid (HLT.out.mb hk HBg.out.1); have HFA := Lib.hid (HFT.out.mb hk HBg.out.2); clear hm hk)
        have hbR := below1 wA (.cells #[.int .i64 F1, .int .i64 F2, .int .u64 0] 69)
        have HRR : Hid (Box (wA.alloc (.cells #[.int .i64 F1, .int .i64 F2, .int .u64 0] 69)) wA.heap.size [.int .i64 F1, .int .i64 F2, .int .u64 0]) := Box.new wA [.int .i64 F1, .int .i64 F2, .int .u64 0] 69
        have HMR := Lib.hid (HMA.out.below hbR)
        have HLR := Lib.hid (HLA.out.below hbR)
        have HFR := Lib.hid (HFA.out.below hbR)
        clear hbR CA HMA HLA HFA HMT HLT HFT
        generalize World.alloc wA _ = WR at *
        generalize wA.heap.size = gr at *
        have q0 := HFR.out.at 0 _ rfl
        have q1 := HFR.out.at 1 _ rfl
        have r0 := HRR.out.at 0 _ rfl
        have r1 := HRR.out.at 1 _ rfl
        have r2 := HRR.out.at 2 _ rfl
        go_wp2
        go_ret
        exact ⟨rfl, HMR.out.base⟩
      ·have hfe : (f1, f2) = (F1, F2) := by rw [← hF]; unfold fA; rw [if_neg (fun h => hf (Prod.mk.inj h).1)]
       obtain ⟨rfl, rfl⟩ := Prod.mk.inj hfe
       have hgb : ((f1 : Int) == 0) = false := by rw [beq_eq_false_iff_ne]; omega
       have q0 := HF8.out.at 0 _ rfl
       have q1 := HF8.out.at 1 _ rfl
       have d8 := D8.out
       have HNF : Hid (¬ (f1, f2) = ((0, 0) : Nat × Nat)) := fun h => hf (Prod.mk.inj h).1
       have HGB := Lib.hid hgb
       clear hF hfe hf
       go_upto_region 22 with fail
       clear q0 q1 hgb
       have HMT := HM8
       have HLT := HL8
       have HFT := HF8
       clear HM8 HL8 HF8
       generalize W8 = WT at *
       have HNN : Hid (¬ (f1, f2) = ((0, 0) : Nat × Nat)) := HNF
       have hfb := HGB.out
       have CA : Hid (Calls Tryz.prog 21 #[.pointer (some ⟨x, 0, none⟩), .int .i64 1, .int .u64 va, .int .u64 0, .agg #[.bool false, .bool true, .bool false]] WT fun e w' => e = .returned (.agg #[.int .i64 f1, .int .i64 f2, .int .u64 0]) ∧ MB x m pt pk pv s2 B8 w w' ∧ Kp (KB B8 w) WT w') := by
        have h := HMT.out.access 1 va 0 hva (by omega) false true false
        rw [HAC.out.1, HAC.out.2.1, HAC.out.2.2, if_neg HNN.out] at h
        exact h
       go_upto_region 23 with (go_at_call 21; refine CA.out.mono ?_; rintro e wA ⟨rfl, hm, hk⟩; have HMA := Lib.hid hm; have HLA := Lib.hid (HLT.out.mb hk HBg.out.1); have HFA := Lib.hid (HFT.out.mb hk HBg.out.2); clear hm hk)
       have hbR := below1 wA (.cells #[.int .i64 f1, .int .i64 f2, .int .u64 0] 69)
       have HRR : Hid (Box (wA.alloc (.cells #[.int .i64 f1, .int .i64 f2, .int .u64 0] 69)) wA.heap.size [.int .i64 f1, .int .i64 f2, .int .u64 0]) := Box.new wA [.int .i64 f1, .int .i64 f2, .int .u64 0] 69
       have HMR := Lib.hid (HMA.out.below hbR)
       have HLR := Lib.hid (HLA.out.below hbR)
       have HFR := Lib.hid (HFA.out.below hbR)
       clear hbR CA HMA HLA HFA HMT HLT HFT
       generalize World.alloc wA _ = WR at *
       generalize wA.heap.size = gr at *
       have q0 := HFR.out.at 0 _ rfl
       have q1 := HFR.out.at 1 _ rfl
       have r0 := HRR.out.at 0 _ rfl
       have r1 := HRR.out.at 1 _ rfl
       have r2 := HRR.out.at 2 _ rfl
       go_wp2
       go_ret
       exact ⟨rfl, HMR.out.base⟩
     ·have hFB : fB ⟨lv, ⟨K, out, b1, b2, b3, b4, attr⟩, (f1, f2), st⟩ va = (5, 0) := by unfold fB; rw [if_neg h8]
      rw [hFB] at hF
      obtain ⟨rfl, rfl⟩ := Prod.mk.inj hF
      have d8 : ((va : Int) % 8 != 0) = true := by rw [bne_iff_ne]; omega
      have D8 := Lib.hid d8
      clear d8 h8 hFB hF
      by_cases hf : f1 = 0
      ·have hf2 := HF0.out hf
       obtain ⟨rfl, rfl⟩ := Prod.mk.inj hf2
       obtain ⟨⟨L1, L2⟩, hL⟩ : ∃ L, letP ⟨K, out, b1, b2, b3, b4, attr⟩ lv 1 = L := ⟨_, rfl⟩
       have CL : Hid (Calls Tryz.prog 20 #[.agg #[.int .i64 K, .int .u64 out, .bool b1, .bool b2, .bool b3, .bool b4, .int .i64 attr], .int .i64 lv, .int .i64 1] W8 fun e w' => e = .returned (.agg #[.int .i64 L1, .int .i64 L2]) ∧ Below W8.heap.size W8 w') := by
        have h := let_nat K out attr lv b1 b2 b3 b4 1 W8
        rw [hL] at h
        exact h
       clear hL hf hf2
       have l0 := HL8.out.at 0 _ rfl
       have l1 := HL8.out.at 1 _ rfl
       have l2 := HL8.out.at 2 _ rfl
       have l3 := HL8.out.at 3 _ rfl
       have l4 := HL8.out.at 4 _ rfl
       have l5 := HL8.out.at 5 _ rfl
       have l6 := HL8.out.at 6 _ rfl
       have l7 := HL8.out.at 7 _ rfl
       have q0 := HF8.out.at 0 _ rfl
       have q1 := HF8.out.at 1 _ rfl
       have d8 := D8.out
       go_upto_region 20 with (go_at_call 20; refine CL.out.mono ?_; rintro e w9 ⟨rfl, hb⟩; have HM9 := Lib.hid (HM8.out.below hb); have HL9 := Lib.hid (HL8.out.below hb); have HF9 := Lib.hid (HF8.out.below hb); clear hb; have q0 := HF9.out.at 0 _ rfl; have q1 := HF9.out.at 1 _ rfl; have fq := HF9.out.2.1; have zq := HF9.out.2.2)
       have hkF : Kp (fun k => k = g + 1) w9 ((w9.setCell ⟨g + 1, 0, none⟩ (.int .i64 L1)).setCell ⟨g + 1, 1, none⟩ (.int .i64 L2)) := ((Kp.refl (fun k => k = g + 1) w9).setCell (p := ⟨g + 1, 0, none⟩) (.inl rfl) _).setCell (p := ⟨g + 1, 1, none⟩) (.inl rfl) _
       have HFA : Hid (Box ((w9.setCell ⟨g + 1, 0, none⟩ (.int .i64 L1)).setCell ⟨g + 1, 1, none⟩ (.int .i64 L2)) (g + 1) [.int .i64 L1, .int .i64 L2]) := (HF9.out.setAt 0 (by simp) _).setAt 1 (by simp) _
       have HLA := Lib.hid (HL9.out.kept hkF (by omega))
       have HMA := Lib.hid (HM9.out.own (hkF.mono (fun k e => by rw [e]; exact HBg.out.2)))
       clear hkF HF9 HL9 HM9
       generalize World.setCell (World.setCell w9 _ _) _ _ = W9 at *
       clear q0 q1 fq zq l0 l1 l2 l3 l4 l5 l6 l7
       have q0 := HFA.out.at 0 _ rfl
       have q1 := HFA.out.at 1 _ rfl
       have fq := HFA.out.2.1
       have zq := HFA.out.2.2
       go_upto_region 22 with fail
       have hkF : Kp (fun k => k = g + 1) W9 ((W9.setCell ⟨g + 1, 0, none⟩ (.int .i64 5)).setCell ⟨g + 1, 1, none⟩ (.int .i64 0)) := ((Kp.refl (fun k => k = g + 1) W9).setCell (p := ⟨g + 1, 0, none⟩) (.inl rfl) _).setCell (p := ⟨g + 1, 1, none⟩) (.inl rfl) _
       have HFT : Hid (Box ((W9.setCell ⟨g + 1, 0, none⟩ (.int .i64 5)).setCell ⟨g + 1, 1, none⟩ (.int .i64 0)) (g + 1) [.int .i64 5, .int .i64 0]) := (HFA.out.setAt 0 (by simp) _).setAt 1 (by simp) _
       have HLT := Lib.hid (HLA.out.kept hkF (by omega))
       have HMT := Lib.hid (HMA.out.own (hkF.mono (fun k e => by rw [e]; exact HBg.out.2)))
       clear hkF HFA HLA HMA
       generalize World.setCell (World.setCell W9 _ _) _ _ = WT at *
       clear q0 q1 fq zq
       have HNN : Hid (¬ (5, 0) = ((0, 0) : Nat × Nat)) := fun h => absurd (Prod.mk.inj h).1 (by omega)
       have CA : Hid (Calls Tryz.prog 21 #[.pointer (some ⟨x, 0, none⟩), .int .i64 1, .int .u64 va, .int .u64 0, .agg #[.bool false, .bool true, .bool false]] WT fun e w' => e = .returned (.agg #[.int .i64 5, .int .i64 0, .int .u64 0]) ∧ MB x m pt pk pv s2 B8 w w' ∧ Kp (KB B8 w) WT w') := by
        have h := HMT.out.access 1 va 0 hva (by omega) false true false
        rw [HAC.out.1, HAC.out.2.1, HAC.out.2.2, if_neg HNN.out] at h
        exact h
       go_upto_region 23 with (go_at_call 21; refine CA.out.mono ?_; rintro e wA ⟨rfl, hm, hk⟩; have HMA := Lib.hid hm; have HLA := Lib.hid (HLT.out.mb hk HBg.out.1); have HFA := Lib.hid (HFT.out.mb hk HBg.out.2); clear hm hk)
       have hbR := below1 wA (.cells #[.int .i64 5, .int .i64 0, .int .u64 0] 69)
       have HRR : Hid (Box (wA.alloc (.cells #[.int .i64 5, .int .i64 0, .int .u64 0] 69)) wA.heap.size [.int .i64 5, .int .i64 0, .int .u64 0]) := Box.new wA [.int .i64 5, .int .i64 0, .int .u64 0] 69
       have HMR := Lib.hid (HMA.out.below hbR)
       have HLR := Lib.hid (HLA.out.below hbR)
       have HFR := Lib.hid (HFA.out.below hbR)
       clear hbR CA HMA HLA HFA HMT HLT HFT
       generalize World.alloc wA _ = WR at *
       generalize wA.heap.size = gr at *
       have q0 := HFR.out.at 0 _ rfl
       have q1 := HFR.out.at 1 _ rfl
       have r0 := HRR.out.at 0 _ rfl
       have r1 := HRR.out.at 1 _ rfl
       have r2 := HRR.out.at 2 _ rfl
       go_wp2
       go_ret
       exact ⟨rfl, HMR.out.base⟩
      ·have hgb : ((f1 : Int) == 0) = false := by rw [beq_eq_false_iff_ne]; omega
       have q0 := HF8.out.at 0 _ rfl
       have q1 := HF8.out.at 1 _ rfl
       have fq := HF8.out.2.1
       have zq := HF8.out.2.2
       have d8 := D8.out
       clear hf
       go_upto_region 22 with fail
       have hkF : Kp (fun k => k = g + 1) W8 ((W8.setCell ⟨g + 1, 0, none⟩ (.int .i64 5)).setCell ⟨g + 1, 1, none⟩ (.int .i64 0)) := ((Kp.refl (fun k => k = g + 1) W8).setCell (p := ⟨g + 1, 0, none⟩) (.inl rfl) _).setCell (p := ⟨g + 1, 1, none⟩) (.inl rfl) _
       have HFT : Hid (Box ((W8.setCell ⟨g + 1, 0, none⟩ (.int .i64 5)).setCell ⟨g + 1, 1, none⟩ (.int .i64 0)) (g + 1) [.int .i64 5, .int .i64 0]) := (HF8.out.setAt 0 (by simp) _).setAt 1 (by simp) _
       have HLT := Lib.hid (HL8.out.kept hkF (by omega))
       have HMT := Lib.hid (HM8.out.own (hkF.mono (fun k e => by rw [e]; exact HBg.out.2)))
       clear hkF HF8 HL8 HM8
       generalize World.setCell (World.setCell W8 _ _) _ _ = WT at *
       clear q0 q1 fq zq hgb
       have HNN : Hid (¬ (5, 0) = ((0, 0) : Nat × Nat)) := fun h => absurd (Prod.mk.inj h).1 (by omega)
       have CA : Hid (Calls Tryz.prog 21 #[.pointer (some ⟨x, 0, none⟩), .int .i64 1, .int .u64 va, .int .u64 0, .agg #[.bool false, .bool true, .bool false]] WT fun e w' => e = .returned (.agg #[.int .i64 5, .int .i64 0, .int .u64 0]) ∧ MB x m pt pk pv s2 B8 w w' ∧ Kp (KB B8 w) WT w') := by
        have h := HMT.out.access 1 va 0 hva (by omega) false true false
        rw [HAC.out.1, HAC.out.2.1, HAC.out.2.2, if_neg HNN.out] at h
        exact h
       go_upto_region 23 with (go_at_call 21; refine CA.out.mono ?_; rintro e wA ⟨rfl, hm, hk⟩; have HMA := Lib.hid hm; have HLA := Lib.hid (HLT.out.mb hk HBg.out.1); have HFA := Lib.hid (HFT.out.mb hk HBg.out.2); clear hm hk)
       have hbR := below1 wA (.cells #[.int .i64 5, .int .i64 0, .int .u64 0] 69)
       have HRR : Hid (Box (wA.alloc (.cells #[.int .i64 5, .int .i64 0, .int .u64 0] 69)) wA.heap.size [.int .i64 5, .int .i64 0, .int .u64 0]) := Box.new wA [.int .i64 5, .int .i64 0, .int .u64 0] 69
       have HMR := Lib.hid (HMA.out.below hbR)
       have HLR := Lib.hid (HLA.out.below hbR)
       have HFR := Lib.hid (HFA.out.below hbR)
       clear hbR CA HMA HLA HFA HMT HLT HFT
       generalize World.alloc wA _ = WR at *
       generalize wA.heap.size = gr at *
       have q0 := HFR.out.at 0 _ rfl
       have q1 := HFR.out.at 1 _ rfl
       have r0 := HRR.out.at 0 _ rfl
       have r1 := HRR.out.at 1 _ rfl
       have r2 := HRR.out.at 2 _ rfl
       go_wp2
       go_ret
       exact ⟨rfl, HMR.out.base⟩
end Go.Proofs.YtbapgngngaaojaaGreat
