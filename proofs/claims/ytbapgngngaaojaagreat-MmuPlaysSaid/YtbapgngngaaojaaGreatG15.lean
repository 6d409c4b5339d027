/- The walk of the sixth reference's From: fromP. -/
import Derived.Test.YtbapgngngaaojaaGreatG10
import Derived.Test.YtbapgngngaaojaaGreatG14
import Derived.Test.YtbapgngngaaojaaGreatG08
set_option linter.unusedSimpArgs false
set_option linter.unusedVariables false
namespace Go.Proofs.YtbapgngngaaojaaGreat
open Go.RowKit Go.Lib
set_option maxRecDepth 100000
theorem Box.setAt {w : World} {g : Nat} {cs : List Value} (h : Box w g cs) (i : Nat) (hi : i < cs.length) (v : Value) : Box (w.setCell ⟨g, i, none⟩ v) g (cs.set i v) := by
 refine ⟨fun j u hj => ?_, fun j => by rw [World.frozen?_setCell]; exact h.2.1 j, by rw [World.size_setCell]; exact h.2.2⟩
 rw [Nat.zero_add]
 by_cases he : j = i
 ·subst he
  rw [List.getElem?_set_self hi] at hj
  have e : v = u := by simpa using hj
  subst e
  exact World.cell?_setCell_same _ _ _ (h.at j _ (List.getElem?_eq_getElem hi))
 ·rw [World.cell?_setCell_other _ _ _ _ (fun e => by injection e with _ e2 _; omega)]
  rw [List.getElem?_set_ne (fun e => he e.symm)] at hj
  exact h.at j u hj
theorem Box.far {w : World} {g g2 : Nat} {cs : List Value} (h : Box w g cs) (hn : g2 ≠ g) (i : Nat) (v : Value) : Box (w.setCell ⟨g2, i, none⟩ v) g cs :=
 h.kept (F := fun k => k = g2) ((Kp.refl (fun k => k = g2) w).setCell (p := ⟨g2, i, none⟩) (.inl rfl) v) (fun e => hn e.symm)
theorem Box.new' (w : World) (n : Nat) (hn : w.heap.size = n) (cs : List Value) (t : TypeId) : Box (w.alloc (.cells cs.toArray t)) n cs := hn ▸ Box.new w cs t
theorem RowAt.far {w : World} {ok : Nat → Prop} {sz n : Nat} {v : Value} {cs : List Value} (h : RowAt w ok sz v n cs) {g : Nat} (hn : ¬ ok g) (i : Nat) (u : Value) : RowAt (w.setCell ⟨g, i, none⟩ u) ok sz v n cs :=
 h.kept (F := fun k => k = g) ((Kp.refl (fun k => k = g) w).setCell (p := ⟨g, i, none⟩) (.inl rfl) u) (fun k hk e => hn (e ▸ hk))
def lC (lv : Nat) (d : Dd) (f : Nat × Nat) (s : Value) : List Value := [.int .i64 lv, .int .i64 d.kind, .int .u64 d.out, .bool d.user, .bool d.write, .bool d.exec, .bool d.used, .int .i64 d.attr, .int .i64 f.1, .int .i64 f.2, s]
def lV (lv : Nat) (d : Dd) (f : Nat × Nat) (s : Value) : Value := .agg #[.int .i64 lv, .int .i64 d.kind, .int .u64 d.out, .bool d.user, .bool d.write, .bool d.exec, .bool d.used, .int .i64 d.attr, .int .i64 f.1, .int .i64 f.2, s]
theorem rinfoStep : (Tryz.prog.info? 211).map (fun i => (i.zero, i.size, i.bytes)) = some (some (.agg #[.int .u64 0, .int .u64 0]), 2, 16) := by kernel_rfl
theorem set11_eq (w : World) (b : Nat) (v0 v1 v2 v3 v4 v5 v6 v7 v8 v9 v10 : Value) :
  ((((((((((w.setCell ⟨b, 0, none⟩ v0).setCell ⟨b, 1, none⟩ v1).setCell ⟨b, 2, none⟩ v2).setCell ⟨b, 3, none⟩ v3).setCell ⟨b, 4, none⟩ v4).setCell ⟨b, 5, none⟩ v5).setCell ⟨b, 6, none⟩ v6).setCell ⟨b, 7, none⟩ v7).setCell ⟨b, 8, none⟩ v8).setCell ⟨b, 9, none⟩ v9).setCell ⟨b, 10, none⟩ v10 = w.setCells b 0 [v0, v1, v2, v3, v4, v5, v6, v7, v8, v9, v10] := rfl
def RFromPost (R : Lf) (w : World) (e : Ending) (w' : World) : Prop :=
 ∃ A c, e = .returned (lV R.level R.d R.f (.slice A R.steps.length c)) ∧ RowAt w' (fun k => w.heap.size ≤ k) 2 (.slice A R.steps.length c) R.steps.length (stepCells R.steps) ∧ Below w.heap.size w w'
/-- What is left to walk, behind steps that were taken. -/
def onP (st : List (Nat × Nat)) (r : Lf) : Lf := ⟨r.level, r.d, r.f, st ++ r.steps⟩
section
variable {sz va n i tb : Nat} {rd : Nat → Nat}
theorem go_may (h : mayP sz (tb + indexP va i * 8) ≠ 0) : goP sz rd va (n + 1) i tb = ⟨0, zeroD, (4, i), []⟩ := by
 have e : entryP sz rd i (tb + indexP va i * 8) = (zeroD, (4, i), []) := by unfold entryP; rw [if_neg h]
 unfold goP
 rw [e]
 rfl
theorem go_none (h : mayP sz (tb + indexP va i * 8) = 0) (hd : decP i (rd (tb + indexP va i * 8)) = none) : goP sz rd va (n + 1) i tb = ⟨0, zeroD, (4, i), [(tb + indexP va i * 8, rd (tb + indexP va i * 8))]⟩ := by
 have e : entryP sz rd i (tb + indexP va i * 8) = (zeroD, (4, i), [(tb + indexP va i * 8, rd (tb + indexP va i * 8))]) := by unfold entryP; rw [if_pos h, hd]
 unfold goP
 rw [e]
 rfl
theorem go_zero {d : Dd} (h : mayP sz (tb + indexP va i * 8) = 0) (hd : decP i (rd (tb + indexP va i * 8)) = some d) (hk : d.kind = 0) : goP sz rd va (n + 1) i tb = ⟨0, zeroD, (1, i), [(tb + indexP va i * 8, rd (tb + indexP va i * 8))]⟩ := by
 have e : entryP sz rd i (tb + indexP va i * 8) = (d, (1, i), [(tb + indexP va i * 8, rd (tb + indexP va i * 8))]) := by unfold entryP; rw [if_pos h, hd]; exact if_pos hk
 unfold goP
 rw [e]
 rfl
theorem go_table {d : Dd} (h : mayP sz (tb + indexP va i * 8) = 0) (hd : decP i (rd (tb + indexP va i * 8)) = some d) (hk : d.kind = 1) : goP sz rd va (n + 1) i tb = onP [(tb + indexP va i * 8, rd (tb + indexP va i * 8))] (goP sz rd va n (i + 1) d.out) := by
 have e : entryP sz rd i (tb + indexP va i * 8) = (d, (0, 0), [(tb + indexP va i * 8, rd (tb + indexP va i * 8))]) := by unfold entryP; rw [if_pos h, hd]; exact (if_neg (by omega)).trans (if_neg (fun q => q.1 hk))
 conv => lhs; unfold goP
 rw [e]
 dsimp only
 rw [if_pos rfl, if_pos hk]
 rfl
theorem go_leaf {d : Dd} (h : mayP sz (tb + indexP va i * 8) = 0) (hd : decP i (rd (tb + indexP va i * 8)) = some d) (hk : 1 < d.kind) (hq : insideP sz i d.out = true) : goP sz rd va (n + 1) i tb = ⟨i, d, (0, 0), [(tb + indexP va i * 8, rd (tb + indexP va i * 8))]⟩ := by
 have e : entryP sz rd i (tb + indexP va i * 8) = (d, (0, 0), [(tb + indexP va i * 8, rd (tb + indexP va i * 8))]) := by unfold entryP; rw [if_pos h, hd]; exact (if_neg (by omega)).trans (if_neg (fun q => by rw [hq] at q; cases q.2))
 unfold goP
 rw [e]
 dsimp only
 rw [if_pos rfl, if_neg (by omega)]
theorem go_out {d : Dd} (h : mayP sz (tb + indexP va i * 8) = 0) (hd : decP i (rd (tb + indexP va i * 8)) = some d) (hk : 1 < d.kind) (hq : insideP sz i d.out = false) : goP sz rd va (n + 1) i tb = ⟨0, zeroD, (4, i), [(tb + indexP va i * 8, rd (tb + indexP va i * 8))]⟩ := by
 have e : entryP sz rd i (tb + indexP va i * 8) = (zeroD, (4, i), [(tb + indexP va i * 8, rd (tb + indexP va i * 8))]) := by unfold entryP; rw [if_pos h, hd]; exact (if_neg (by omega)).trans (if_pos ⟨by omega, hq⟩)
 unfold goP
 rw [e]
 rfl
end
set_option maxHeartbeats 2000000 in
theorem rfrom_nat (sz level table va : Nat) (ws : List (Nat × Nat)) (A : Option Addr) (c : Nat) (w : World) (hl : level ≤ 3) (ht : Tb table) (hv : va < 18446744073709551616) (hn : ws.length ≤ 1000000) (hws : ∀ a, rdM ws a < 18446744073709551616) (hsz : sz < 9223372036854775808) (h : RdRow w (.slice A ws.length c) ws.length (rowL wL ws)) :
  Calls Tryz.prog 83 #[.agg #[.int .u64 sz, .slice A ws.length c], .int .i64 level, .int .u64 table, .int .u64 va] w (RFromPost (fromP sz (rdM ws) level table va) w) := by
 have C1 : Hid (∀ i : Nat, i ≤ 3 → ∀ w, Calls Tryz.prog 122 #[.int .u64 va, .int .i64 i] w fun e w' => e = .returned (.int .i64 (indexP va i)) ∧ Below w.heap.size w w') := fun i hi w => rindex_nat va i w hi hv
 have C2 : Hid (∀ a : Nat, a < 18446744073709551616 → ∀ w', Below w.heap.size w w' → Calls Tryz.prog 38 #[.agg #[.int .u64 sz, .slice A ws.length c], .int .u64 a] w' fun e w'' => e = .returned (.tuple #[.int .u64 ((if mayP sz a = 0 then rdM ws a else 0 : Nat) : Int), .int .i64 (mayP sz a)]) ∧ Below w'.heap.size w' w'') := fun a ha w' hb => rread_nat sz a ws A c w' ha hn (h.below hb)
 have C3 : Hid (∀ i : Nat, i ≤ 3 → ∀ x : Nat, x < 18446744073709551616 → ∀ w, Calls Tryz.prog 123 #[.int .i64 i, .int .u64 x] w (RDecPost (decP i x) w)) := fun i hi x hx w => rdecode_nat i x w hx hi
 have C4 : Hid (∀ i : Nat, i ≤ 3 → ∀ w, Calls Tryz.prog 124 #[.int .i64 i] w fun e w' => e = .returned (.int .u64 (2 ^ bitsL i : Nat)) ∧ Below w.heap.size w w') := fun i hi w => rsize_nat i w hi
 have HWS := Lib.hid hws
 have HSZ := Lib.hid hsz
 clear h hn hws hsz
 generalize rdM ws = rd at *
 obtain ⟨R, hR⟩ : ∃ R, fromP sz rd level table va = R := ⟨_, rfl⟩
 rw [hR]
 have HR := Lib.hid hR
 obtain ⟨i0, hi0, hz0, hz1, hz2⟩ := info_parts rinfoStep
 have I0 := Lib.hid hi0
 have I1 := Lib.hid hz0
 have I2 := Lib.hid hz1
 have I3 := Lib.hid hz2
 have HTB := Lib.hid ht
 have t1 : decide ((level : Int) < 0) = false := by simp
 have t2 : decide ((3 : Int) < (level : Int)) = false := by simp; omega
 have t3 : ((table : Int) % 4096 != 0) = false := by have := ht.2; simp; omega
 clear hR hi0 hz0 hz1 hz2 ht
 go_enter Tryz.func83, Tryz.ntmps83
 go_upto_region 2 with fail
 generalize hW : World.alloc (World.alloc (World.alloc w _) _) _ = W
 have HM0 : Hid (Box W w.heap.size [.int .u64 sz, .slice A ws.length c]) := by rw [← hW]; exact ((Box.new w [.int .u64 sz, .slice A ws.length c] 31).below (below1 _ _)).below (below1 _ _)
 have HR0 : Hid (Box W (w.heap.size + 1) (lC 0 zeroD (0, 0) (.slice none 0 0))) := by
  rw [← hW]
  have h := Box.new (w.alloc (.cells #[.int .u64 sz, .slice A ws.length c] 31)) (lC 0 zeroD (0, 0) (.slice none 0 0)) 106
  rw [World.size_alloc] at h
  exact h.below (below1 _ _)
 have HL0 : Hid (Box W (w.heap.size + 2) (lC 0 zeroD (1, 0) (.slice none 0 0))) := by
  rw [← hW]
  have h := Box.new ((w.alloc (.cells #[.int .u64 sz, .slice A ws.length c] 31)).alloc (.cells (lC 0 zeroD (0, 0) (.slice none 0 0)).toArray 106)) (lC 0 zeroD (1, 0) (.slice none 0 0)) 106
  rw [World.size_alloc, World.size_alloc] at h
  exact h
 have HB0 : Hid (Below w.heap.size w W) := by rw [← hW]; exact ((below1 w _).alloc (by simp) _).alloc (by simp; omega) _
 have HBB : Hid (W.heap.size = w.heap.size + 3) := by rw [← hW]; simp [Hid]
 clear hW
 by_cases hva : 281474976710656 ≤ va
 ·have t4 : decide ((281474976710656 : Int) ≤ (va : Int)) = true := by simp; omega
  have HR1 : Hid ((⟨0, zeroD, (1, 0), []⟩ : Lf) = R) := by rw [← HR.out]; unfold fromP; rw [if_neg (by omega)]; rfl
  clear hva
  have HL9 := HL0
  have HQR := HR1
  have HR8 := HR0
  have BX := HL9.out
  have s0 := BX.at 0 _ rfl
  have s1 := BX.at 1 _ rfl
  have s2 := BX.at 2 _ rfl
  have s3 := BX.at 3 _ rfl
  have s4 := BX.at 4 _ rfl
  have s5 := BX.at 5 _ rfl
  have s6 := BX.at 6 _ rfl
  have s7 := BX.at 7 _ rfl
  have s8 := BX.at 8 _ rfl
  have s9 := BX.at 9 _ rfl
  have sa := BX.at 10 _ rfl
  have fs := BX.2.1
  have zs := BX.2.2
  have BY := HR8.out
  have r0 := BY.at 0 _ rfl
  have r1 := BY.at 1 _ rfl
  have r2 := BY.at 2 _ rfl
  have r3 := BY.at 3 _ rfl
  have r4 := BY.at 4 _ rfl
  have r5 := BY.at 5 _ rfl
  have r6 := BY.at 6 _ rfl
  have r7 := BY.at 7 _ rfl
  have r8 := BY.at 8 _ rfl
  have r9 := BY.at 9 _ rfl
  have ra := BY.at 10 _ rfl
  have fr := BY.2.1
  have zr := BY.2.2
  clear BX BY
  go_wp2
  refine bodyPost_ret (v := lV 0 zeroD (1, 0) (.slice none 0 0)) (by simp [results, Tryz.results83, go_sem, zr, zs, r0, r1, r2, r3, r4, r5, r6, r7, r8, r9, ra, s0, s1, s2, s3, s4, s5, s6, s7, s8, s9, sa, lV]) rfl ?_
  rw [set11_eq]
  have hq := HQR.out
  subst hq
  refine ⟨none, 0, rfl, ?_, below_setCells HB0.out (by omega) 0 _⟩
  exact ((RowAt.nil W (fun k => w.heap.size + 3 ≤ k) 2).kept (F := fun k => k = w.heap.size + 1) ((Kp.refl (fun k => k = w.heap.size + 1) W).setCells (b := w.heap.size + 1) (.inl rfl) 0 _) (fun k hk e => by have := HBB.out; omega)).mono (fun k _ h => by have := HBB.out; omega)
 ·have t4 : decide ((281474976710656 : Int) ≤ (va : Int)) = false := by simp; omega
  have HR1 : Hid (onP [] (goP sz rd va (4 - level) level table) = R) := by rw [← HR.out]; unfold fromP; rw [if_pos (by omega)]; rfl
  clear hva
  go_wp2
  have HRW0 : Hid (RowAt W (fun k => w.heap.size + 3 ≤ k) 2 (.slice none 0 0) 0 (stepCells [])) := RowAt.nil _ _ _
  go_loopw [1, 2] (fun lv tv wr => ∃ (i tb : Nat) (st : List (Nat × Nat)) (A2 : Option Addr) (c2 : Nat), lv = .int .i64 i ∧ tv = .int .u64 tb ∧ i ≤ 4 ∧ Hid (Tb tb) ∧ Hid (st.length ≤ i) ∧ Hid (onP st (goP sz rd va (4 - i) i tb) = R) ∧ Hid (Box wr (w.heap.size + 2) (lC 0 zeroD (1, 0) (.slice A2 st.length c2))) ∧ Hid (Box wr (w.heap.size + 1) (lC 0 zeroD (0, 0) (.slice none 0 0))) ∧ Hid (Box wr w.heap.size [.int .u64 sz, .slice A ws.length c]) ∧ Hid (RowAt wr (fun k => w.heap.size + 3 ≤ k) 2 (.slice A2 st.length c2) st.length (stepCells st)) ∧ Hid (Below w.heap.size w wr)) (fun lv _ _ => 4 - (RowKit.intOf lv).toNat)
  case atStart => exact ⟨level, table, [], none, 0, rfl, rfl, by omega, HTB, by simp [Hid], HR1, HL0, HR0, HM0, HRW0, HB0⟩
  case round =>
   obtain ⟨i, tb, st, A2, c2, rfl, rfl, hi, HT, HLEN, HS, HL, HR8, HM, HROW, HB⟩ := hrel
   by_cases hlt : i < 4
   ·have D1 := Lib.hid (C1.out i (by omega))
    have e1 : (i : Int) < 4 := by omega
    have hgo : 4 - i = (3 - i) + 1 := by omega
    have hs := HS.out
    rw [hgo] at hs
    have hix : indexP va i < 512 := by unfold indexP; omega
    have hT := HT.out
    have D2 := Lib.hid (C2.out (tb + indexP va i * 8) (by unfold Tb at hT; omega))
    have D3 := Lib.hid (C3.out i (by omega) (rd (tb + indexP va i * 8)) (HWS.out _))
    have D4 := Lib.hid (C4.out i (by omega))
    have G1 : Hid (mayP sz (tb + indexP va i * 8) ≠ 0 → (⟨0, zeroD, (4, i), st⟩ : Lf) = R) := fun h => by rw [go_may h] at hs; rw [← hs]; unfold onP; rw [List.append_nil]
    have G2 : Hid (mayP sz (tb + indexP va i * 8) = 0 → decP i (rd (tb + indexP va i * 8)) = none → (⟨0, zeroD, (4, i), st ++ [(tb + indexP va i * 8, rd (tb + indexP va i * 8))]⟩ : Lf) = R) := fun h hd => by rw [go_none h hd] at hs; exact hs
    have G3 : Hid (∀ d, mayP sz (tb + indexP va i * 8) = 0 → decP i (rd (tb + indexP va i * 8)) = some d → d.kind = 0 → (⟨0, zeroD, (1, i), st ++ [(tb + indexP va i * 8, rd (tb + indexP va i * 8))]⟩ : Lf) = R) := fun d h hd hk => by rw [go_zero h hd hk] at hs; exact hs
    have G4 : Hid (∀ d, mayP sz (tb + indexP va i * 8) = 0 → decP i (rd (tb + indexP va i * 8)) = some d → d.kind = 1 → onP (st ++ [(tb + indexP va i * 8, rd (tb + indexP va i * 8))]) (goP sz rd va (4 - (i + 1)) (i + 1) d.out) = R) := fun d h hd hk => by rw [go_table h hd hk] at hs; rw [← hs, show 4 - (i + 1) = 3 - i by omega]; unfold onP; rw [List.append_assoc]
    have G5 : Hid (∀ d, mayP sz (tb + indexP va i * 8) = 0 → decP i (rd (tb + indexP va i * 8)) = some d → 1 < d.kind → insideP sz i d.out = true → (⟨i, d, (0, 0), st ++ [(tb + indexP va i * 8, rd (tb + indexP va i * 8))]⟩ : Lf) = R) := fun d h hd hk hq => by rw [go_leaf h hd hk hq] at hs; exact hs
    have G6 : Hid (∀ d, mayP sz (tb + indexP va i * 8) = 0 → decP i (rd (tb + indexP va i * 8)) = some d → 1 < d.kind → insideP sz i d.out = false → (⟨0, zeroD, (4, i), st ++ [(tb + indexP va i * 8, rd (tb + indexP va i * 8))]⟩ : Lf) = R) := fun d h hd hk hq => by rw [go_out h hd hk hq] at hs; exact hs
    have e2 : IntKind.u64.wrap (IntKind.u64.wrap (indexP va i : Int) * 8) = ((indexP va i * 8 : Nat) : Int) := by rw [IntKind.wrap_u64, IntKind.wrap_u64]; omega
    have e3 : (tb : Int) + (indexP va i : Int) * 8 = ((tb + indexP va i * 8 : Nat) : Int) := by omega
    have e4 : tb + indexP va i * 8 < 18446744073709551616 := by unfold Tb at hT; omega
    clear hs hT HS hgo
    generalize tb + indexP va i * 8 = a at *
    generalize mayP sz a = M at *
    generalize rd a = x at *
    obtain ⟨V, hV⟩ : ∃ V, (if M = 0 then x else 0) = V := ⟨_, rfl⟩
    rw [hV] at D2
    have HV := Lib.hid hV
    clear hV
    have m0 := HM.out.at 0 _ rfl
    have m1 := HM.out.at 1 _ rfl
    go_wp2_with (go_at_call 122; refine (D1.out _).mono ?_; rintro e w1 ⟨rfl, hb1⟩; have HB1 : Hid (Below w.heap.size w w1) := HB.out.trans (hb1.mono HB.out.size); have HBW1 := Lib.hid hb1; have m0 := keep_cell hb1 m0; have m1 := keep_cell hb1 m1; clear hb1)
    refine (D2.out _ HB1.out).mono ?_
    rintro e w2 ⟨rfl, hb2⟩
    have HB2 : Hid (Below w.heap.size w w2) := HB1.out.trans (hb2.mono HB1.out.size)
    have HL2 := Lib.hid ((HL.out.below HBW1.out).below hb2)
    have HR2 := Lib.hid ((HR8.out.below HBW1.out).below hb2)
    have HM2 := Lib.hid ((HM.out.below HBW1.out).below hb2)
    have HROW2 := Lib.hid ((HROW.out.below HBW1.out).below hb2)
    clear HL HR8 HM HROW HB HB1 HBW1 hb2 m0 m1
    by_cases hM : M = 0
    ·have d0 : ((M : Int) != 0) = false := by simp; omega
     have hVx : V = x := by rw [← HV.out, if_pos hM]
     subst hVx
     have ka := HL2.out.at 10 _ rfl
     have fk := HL2.out.2.1
     have zk := HL2.out.2.2
     obtain ⟨dd, hd⟩ : ∃ dd, decP i V = dd := ⟨_, rfl⟩
     rw [hd] at D3
     go_wp2_with (at_builtin; refine wpList_append_row (by rfl) _ _ 104 (by rfl) 211 i0 (.agg #[.int .u64 0, .int .u64 0]) 2 16 Tryz.underlying104 I0.out I1.out I2.out I3.out rfl (by omega) (fun k => w.heap.size + 3 ≤ k) (.slice A2 st.length c2) st.length (stepCells st) (by rfl) (HROW2.out.below (below1 _ _)) ⟨w2.heap.size, 0, none⟩ 1 1 [.int .u64 a, .int .u64 V] (by rfl) (by omega) rfl (cell_two_new _ _ _ _) (by intro u hu; simp at hu; rcases hu with rfl | rfl <;> rfl) (by have := HLEN.out; unfold maxLen; omega) (by have := HLEN.out; omega) ?_; intro A3 c3 W3 hrow1 hkp1; have HKP : Hid (Kp (fun k => w.heap.size + 3 ≤ k) w2 W3) := ((Kp.refl _ _).alloc _).trans hkp1 (fun i h => .inl h); have HRW : Hid (RowAt W3 (fun k => w.heap.size + 3 ≤ k) 2 (.slice A3 (st.length + 1) c3) (st.length + 1) (stepCells st ++ [.int .u64 a, .int .u64 V])) := hrow1.mono (fun k _ h => h.elim id (fun h => by simp only [World.size_alloc] at h; omega)); have HL3 := Lib.hid (HL2.out.kept HKP.out (fun h => by omega)); clear ka fk zk hrow1 hkp1; have ka := HL3.out.at 10 _ rfl; have fk := HL3.out.2.1; have zk := HL3.out.2.2)
     have HB3 : Hid (Below w.heap.size w W3) := HKP.out.toBelow HB2.out HB2.out.size (fun k hk => by omega)
     have HR3 := Lib.hid (HR2.out.kept HKP.out (fun h => by omega))
     have HM3 := Lib.hid (HM2.out.kept HKP.out (fun h => by omega))
     generalize hX : World.setCell _ _ _ = X
     have HLX : Hid (Box X (w.heap.size + 2) (lC 0 zeroD (1, 0) (.slice A3 (st.length + 1) c3))) := by rw [← hX]; exact HL3.out.setAt 10 (by simp [lC]) _
     have HRX : Hid (Box X (w.heap.size + 1) (lC 0 zeroD (0, 0) (.slice none 0 0))) := by rw [← hX]; exact HR3.out.far (by omega) 10 _
     have HMX : Hid (Box X w.heap.size [.int .u64 sz, .slice A ws.length c]) := by rw [← hX]; exact HM3.out.far (by omega) 10 _
     have HROWX : Hid (RowAt X (fun k => w.heap.size + 3 ≤ k) 2 (.slice A3 (st ++ [(a, V)]).length c3) (st ++ [(a, V)]).length (stepCells (st ++ [(a, V)]))) := by rw [← hX, Hid, List.length_append, stepCells_snoc]; exact HRW.out.far (by omega) 10 _
     have HBX : Hid (Below w.heap.size w X) := by rw [← hX]; exact HB3.out.setCell (by show _ ≤ _ + 2; omega) _
     clear hX ka fk zk HKP HRW HL3 HB3 HR3 HM3 HROW2 HL2 HR2 HM2 HB2
     refine (D3.out _).mono ?_
     rintro e w4 ⟨rfl, hb4⟩
     have HB4 : Hid (Below w.heap.size w w4) := HBX.out.trans (hb4.mono HBX.out.size)
     have HL4 := Lib.hid (HLX.out.below hb4)
     have HR4 := Lib.hid (HRX.out.below hb4)
     have HM4 := Lib.hid (HMX.out.below hb4)
     have HROW4 := Lib.hid (HROWX.out.below hb4)
     clear HLX HRX HMX HROWX HBX hb4 D3
     have k8 := HL4.out.at 8 _ rfl
     have k9 := HL4.out.at 9 _ rfl
     have fk := HL4.out.2.1
     have zk := HL4.out.2.2
     have HDD := Lib.hid hd
     clear hd
     cases dd with
     | none =>
      have HQR := Lib.hid (G2.out hM HDD.out)
      simp only [Option.getD_none, Option.isSome_none, dV, zeroD]
      go_upto_region 18 with fail
      generalize hX : World.alloc _ _ = X
      have HL5 : Hid (Box X (w.heap.size + 2) (lC 0 zeroD (4, i) (.slice A3 (st.length + 1) c3))) := by rw [← hX]; exact Box.below ((HL4.out.setAt 8 (by simp [lC]) (.int .i64 4)).setAt 9 (by simp [lC]) (.int .i64 i)) (below1 _ _)
      have HR5 : Hid (Box X (w.heap.size + 1) (lC 0 zeroD (0, 0) (.slice none 0 0))) := by rw [← hX]; exact Box.below ((HR4.out.far (by omega) 8 _).far (by omega) 9 _) (below1 _ _)
      have HM5 : Hid (Box X w.heap.size [.int .u64 sz, .slice A ws.length c]) := by rw [← hX]; exact Box.below ((HM4.out.far (by omega) 8 _).far (by omega) 9 _) (below1 _ _)
      have HROW5 : Hid (RowAt X (fun k => w.heap.size + 3 ≤ k) 2 (.slice A3 (st ++ [(a, V)]).length c3) (st ++ [(a, V)]).length (stepCells (st ++ [(a, V)]))) := by rw [← hX]; exact RowAt.below ((HROW4.out.far (by omega) 8 _).far (by omega) 9 _) (below1 _ _)
      have HB5 : Hid (Below w.heap.size w X) := by rw [← hX]; exact Below.trans ((HB4.out.setCell (by show _ ≤ _ + 2; omega) _).setCell (by show _ ≤ _ + 2; omega) _) ((below1 _ _).mono (by have := HB4.out.size; simp only [World.size_setCell]; omega))
      have HD5 : Hid (Box X w4.heap.size (dCells zeroD)) := by
       rw [← hX]
       exact Box.new' _ _ (by simp only [World.size_setCell]) _ _
      have HZ4 : Hid (w.heap.size + 2 < w4.heap.size) := zk
      clear hX k8 k9 fk zk HL4 HR4 HM4 HROW4 HB4
      go_quiet (fail)
      go_upto_region 22 with fail
      have hdr : Below X.heap.size X (X.drewN nq) := below_drewN (Below.refl _ _) _
      have HL9 := Lib.hid (HL5.out.below hdr)
      have HR8 := Lib.hid (HR5.out.below hdr)
      have HROW9 := Lib.hid (HROW5.out.below hdr)
      have HB9 : Hid (Below w.heap.size w (X.drewN nq)) := HB5.out.trans (hdr.mono HB5.out.size)
      clear hdr HL5 HR5 HROW5 HB5 HM5 HD5
      generalize X.drewN nq = X9 at *
      have BX := HL9.out
      have s0 := BX.at 0 _ rfl
      have s1 := BX.at 1 _ rfl
      have s2 := BX.at 2 _ rfl
      have s3 := BX.at 3 _ rfl
      have s4 := BX.at 4 _ rfl
      have s5 := BX.at 5 _ rfl
      have s6 := BX.at 6 _ rfl
      have s7 := BX.at 7 _ rfl
      have s8 := BX.at 8 _ rfl
      have s9 := BX.at 9 _ rfl
      have sa := BX.at 10 _ rfl
      have fs := BX.2.1
      have zs := BX.2.2
      have BY := HR8.out
      have r0 := BY.at 0 _ rfl
      have r1 := BY.at 1 _ rfl
      have r2 := BY.at 2 _ rfl
      have r3 := BY.at 3 _ rfl
      have r4 := BY.at 4 _ rfl
      have r5 := BY.at 5 _ rfl
      have r6 := BY.at 6 _ rfl
      have r7 := BY.at 7 _ rfl
      have r8 := BY.at 8 _ rfl
      have r9 := BY.at 9 _ rfl
      have ra := BY.at 10 _ rfl
      have fr := BY.2.1
      have zr := BY.2.2
      clear BX BY
      go_wp2
      refine bodyPost_ret (v := lV 0 zeroD (4, i) (.slice A3 (st.length + 1) c3)) (by simp [results, Tryz.results83, go_sem, zr, zs, r0, r1, r2, r3, r4, r5, r6, r7, r8, r9, ra, s0, s1, s2, s3, s4, s5, s6, s7, s8, s9, sa, lV]) rfl ?_
      rw [set11_eq]
      have hq := HQR.out
      subst hq
      refine ⟨A3, c3, (by rw [List.length_append]; rfl), ?_, below_setCells HB9.out (by omega) 0 _⟩
      exact (HROW9.out.kept (F := fun k => k = w.heap.size + 1) ((Kp.refl (fun k => k = w.heap.size + 1) X9).setCells (b := w.heap.size + 1) (.inl rfl) 0 _) (fun k hk e => by have := HBB.out; omega)).mono (fun k _ h => by have := HBB.out; omega)
     | some d =>
      have hcase := decP_some HDD.out
      simp only [Option.getD_some, Option.isSome_some, dV]
      by_cases hk1 : d.kind = 1
      ·have HQ4 := Lib.hid (G4.out d hM HDD.out hk1)
       have HTD : Hid (Tb d.out) := by
        rcases hcase with h | ⟨-, -, h⟩ | ⟨h, -, -⟩
        ·rw [h] at hk1; cases hk1
        ·rw [h]; exact ⟨outW_lt _, outW_al _⟩
        ·omega
       have q1 : ((d.kind : Int) == 1) = true := by simp; omega
       clear hcase hk1 G1 G2 G3 G4 G5 G6
       go_wp2
       go_roundw
       case rel => exact ⟨i + 1, d.out, st ++ [(a, V)], A3, c3, by first | rfl | go_num, rfl, by omega, HTD, by rw [Hid, List.length_append]; have := HLEN.out; simp only [List.length_cons, List.length_nil]; omega, HQ4, by rw [Hid, List.length_append]; exact HL4.out.below (below1 _ _), HR4.out.below (below1 _ _), HM4.out.below (below1 _ _), HROW4.out.below (below1 _ _), HB4.out.alloc HB4.out.size _⟩
       case measure => simp [RowKit.intOf]; omega
      ·have q1 : ((d.kind : Int) == 1) = false := by simp; omega
       by_cases hk0 : d.kind = 0
       ·have HQR := Lib.hid (G3.out d hM HDD.out hk0)
        have q0 : ((d.kind : Int) == 0) = true := by simp; omega
        have q2 : decide ((1 : Int) < (d.kind : Int)) = false := by simp; omega
        have HK0 := Lib.hid hk0
        clear hcase hk1 hk0 G1 G2 G3 G4 G5 G6
        go_upto_region 18 with fail
        generalize hX : World.alloc _ _ = X
        have HL5 : Hid (Box X (w.heap.size + 2) (lC 0 zeroD (1, i) (.slice A3 (st.length + 1) c3))) := by rw [← hX]; exact Box.below (((HL4.out.setAt 8 (by simp [lC]) (.int .i64 4)).setAt 9 (by simp [lC]) (.int .i64 i)).setAt 8 (by simp [lC]) (.int .i64 1)) (below1 _ _)
        have HR5 : Hid (Box X (w.heap.size + 1) (lC 0 zeroD (0, 0) (.slice none 0 0))) := by rw [← hX]; exact Box.below (((HR4.out.far (by omega) 8 _).far (by omega) 9 _).far (by omega) 8 _) (below1 _ _)
        have HM5 : Hid (Box X w.heap.size [.int .u64 sz, .slice A ws.length c]) := by rw [← hX]; exact Box.below (((HM4.out.far (by omega) 8 _).far (by omega) 9 _).far (by omega) 8 _) (below1 _ _)
        have HROW5 : Hid (RowAt X (fun k => w.heap.size + 3 ≤ k) 2 (.slice A3 (st ++ [(a, V)]).length c3) (st ++ [(a, V)]).length (stepCells (st ++ [(a, V)]))) := by rw [← hX]; exact RowAt.below (((HROW4.out.far (by omega) 8 _).far (by omega) 9 _).far (by omega) 8 _) (below1 _ _)
        have HB5 : Hid (Below w.heap.size w X) := by rw [← hX]; exact Below.trans (((HB4.out.setCell (by show _ ≤ _ + 2; omega) _).setCell (by show _ ≤ _ + 2; omega) _).setCell (by show _ ≤ _ + 2; omega) _) ((below1 _ _).mono (by have := HB4.out.size; simp only [World.size_setCell]; omega))
        have HD5 : Hid (Box X w4.heap.size (dCells d)) := by
         rw [← hX]
         exact Box.new' _ _ (by simp only [World.size_setCell]) _ _
        have HZ4 : Hid (w.heap.size + 2 < w4.heap.size) := zk
        clear hX k8 k9 fk zk HL4 HR4 HM4 HROW4 HB4
        have j0 := HD5.out.at 0 _ rfl
        have zj := HD5.out.2.2
        go_quiet (fail)
        go_upto_region 22 with fail
        have hdr : Below X.heap.size X (X.drewN nq) := below_drewN (Below.refl _ _) _
        have HL9 := Lib.hid (HL5.out.below hdr)
        have HR8 := Lib.hid (HR5.out.below hdr)
        have HROW9 := Lib.hid (HROW5.out.below hdr)
        have HB9 : Hid (Below w.heap.size w (X.drewN nq)) := HB5.out.trans (hdr.mono HB5.out.size)
        clear hdr HL5 HR5 HROW5 HB5 HM5 HD5
        generalize X.drewN nq = X9 at *
        have BX := HL9.out
        have s0 := BX.at 0 _ rfl
        have s1 := BX.at 1 _ rfl
        have s2 := BX.at 2 _ rfl
        have s3 := BX.at 3 _ rfl
        have s4 := BX.at 4 _ rfl
        have s5 := BX.at 5 _ rfl
        have s6 := BX.at 6 _ rfl
        have s7 := BX.at 7 _ rfl
        have s8 := BX.at 8 _ rfl
        have s9 := BX.at 9 _ rfl
        have sa := BX.at 10 _ rfl
        have fs := BX.2.1
        have zs := BX.2.2
        have BY := HR8.out
        have r0 := BY.at 0 _ rfl
        have r1 := BY.at 1 _ rfl
        have r2 := BY.at 2 _ rfl
        have r3 := BY.at 3 _ rfl
        have r4 := BY.at 4 _ rfl
        have r5 := BY.at 5 _ rfl
        have r6 := BY.at 6 _ rfl
        have r7 := BY.at 7 _ rfl
        have r8 := BY.at 8 _ rfl
        have r9 := BY.at 9 _ rfl
        have ra := BY.at 10 _ rfl
        have fr := BY.2.1
        have zr := BY.2.2
        clear BX BY
        go_wp2
        refine bodyPost_ret (v := lV 0 zeroD (1, i) (.slice A3 (st.length + 1) c3)) (by simp [results, Tryz.results83, go_sem, zr, zs, r0, r1, r2, r3, r4, r5, r6, r7, r8, r9, ra, s0, s1, s2, s3, s4, s5, s6, s7, s8, s9, sa, lV]) rfl ?_
        rw [set11_eq]
        have hq := HQR.out
        subst hq
        refine ⟨A3, c3, (by rw [List.length_append]; rfl), ?_, below_setCells HB9.out (by omega) 0 _⟩
        exact (HROW9.out.kept (F := fun k => k = w.heap.size + 1) ((Kp.refl (fun k => k = w.heap.size + 1) X9).setCells (b := w.heap.size + 1) (.inl rfl) 0 _) (fun k hk e => by have := HBB.out; omega)).mono (fun k _ h => by have := HBB.out; omega)
       ·have q0 : ((d.kind : Int) == 0) = false := by simp; omega
        have q2 : decide ((1 : Int) < (d.kind : Int)) = true := by simp; omega
        have hk : 1 < d.kind := by omega
        have HG5 := Lib.hid (G5.out d hM HDD.out hk)
        have HG6 := Lib.hid (G6.out d hM HDD.out hk)
        unfold insideP at HG5 HG6
        clear hcase hk hk1 hk0 G1 G2 G3 G4 G5 G6
        generalize 2 ^ bitsL i = P at *
        go_upto_region 18 with fail
        generalize hX : World.alloc _ _ = X
        have HL5 : Hid (Box X (w.heap.size + 2) (lC 0 zeroD (4, i) (.slice A3 (st.length + 1) c3))) := by rw [← hX]; exact Box.below ((HL4.out.setAt 8 (by simp [lC]) (.int .i64 4)).setAt 9 (by simp [lC]) (.int .i64 i)) (below1 _ _)
        have HR5 : Hid (Box X (w.heap.size + 1) (lC 0 zeroD (0, 0) (.slice none 0 0))) := by rw [← hX]; exact Box.below ((HR4.out.far (by omega) 8 _).far (by omega) 9 _) (below1 _ _)
        have HM5 : Hid (Box X w.heap.size [.int .u64 sz, .slice A ws.length c]) := by rw [← hX]; exact Box.below ((HM4.out.far (by omega) 8 _).far (by omega) 9 _) (below1 _ _)
        have HROW5 : Hid (RowAt X (fun k => w.heap.size + 3 ≤ k) 2 (.slice A3 (st ++ [(a, V)]).length c3) (st ++ [(a, V)]).length (stepCells (st ++ [(a, V)]))) := by rw [← hX]; exact RowAt.below ((HROW4.out.far (by omega) 8 _).far (by omega) 9 _) (below1 _ _)
        have HB5 : Hid (Below w.heap.size w X) := by rw [← hX]; exact Below.trans ((HB4.out.setCell (by show _ ≤ _ + 2; omega) _).setCell (by show _ ≤ _ + 2; omega) _) ((below1 _ _).mono (by have := HB4.out.size; simp only [World.size_setCell]; omega))
        have HD5 : Hid (Box X w4.heap.size (dCells d)) := by
         rw [← hX]
         exact Box.new' _ _ (by simp only [World.size_setCell]) _ _
        have HZ4 : Hid (w.heap.size + 2 < w4.heap.size) := zk
        clear hX k8 k9 fk zk HL4 HR4 HM4 HROW4 HB4
        have j0 := HD5.out.at 0 _ rfl
        have j1 := HD5.out.at 1 _ rfl
        have zj := HD5.out.2.2
        have m0 := HM5.out.at 0 _ rfl
        have zm := HM5.out.2.2
        by_cases hos : d.out ≤ sz
        ·have q3 : decide ((d.out : Int) ≤ (sz : Int)) = true := by simp; omega
         have q3' : decide (d.out ≤ sz) = true := by simp; omega
         have e8 : IntKind.u64.wrap ((sz : Int) - (d.out : Int)) = ((sz - d.out : Nat) : Int) := by have := HSZ.out; rw [IntKind.wrap_u64]; omega
         have E8 := Lib.hid e8
         rw [q3', Bool.true_and] at HG5 HG6
         clear hos e8
         have hC : CtxB X X := Below.refl _ _
         go_region_held3 (fun u => u.cell? ⟨w4.heap.size, 0, none⟩ = some (.int .i64 d.kind) ∧ u.cell? ⟨w4.heap.size, 1, none⟩ = some (.int .u64 d.out) ∧ u.cell? ⟨w.heap.size, 0, none⟩ = some (.int .u64 sz) ∧ CtxB X u)
          (first | assumption | exact ⟨drew_cell j0, drew_cell j1, drew_cell m0, hC.drew⟩ | (go_split_ands; exact ⟨keep_cell hb5 (by assumption), keep_cell hb5 (by assumption), keep_cell hb5 (by assumption), CtxB.next (by assumption) hb5⟩))
          (first | (go_at_call 124; refine (D4.out _).mono ?_; rintro e w5 ⟨rfl, hb5⟩))
         go_split_ands
         have HBX5 : Hid (Below X.heap.size X w5) := CtxB.out (by assumption)
         have HL7 := Lib.hid (HL5.out.below HBX5.out)
         have HR7 := Lib.hid (HR5.out.below HBX5.out)
         have HD7 := Lib.hid (HD5.out.below HBX5.out)
         have HROW7 := Lib.hid (HROW5.out.below HBX5.out)
         have HB7 : Hid (Below w.heap.size w w5) := HB5.out.trans (HBX5.out.mono HB5.out.size)
         clear hC j0 j1 m0 HL5 HR5 HD5 HROW5 HB5 HM5
         have e8 := E8.out
         generalize sz - d.out = Q at *
         obtain ⟨q, hq⟩ : ∃ q, decide (P ≤ Q) = q := ⟨_, rfl⟩
         have hq2 : decide ((P : Int) ≤ (Q : Int)) = q := by rw [← hq, decide_eq_decide]; omega
         have hq4 : decide ((P : Int) ≤ IntKind.u64.wrap ((sz : Int) - (d.out : Int))) = q := by rw [e8]; exact hq2
         rw [hq] at HG5 HG6
         rw [hq4]
         clear hq hq2 hq4 e8
         cases q with
         | false =>
          have HQR := Lib.hid (HG6.out rfl)
          go_upto_region 22 with fail
          have HL9 := HL7
          have HR8 := HR7
          have BX := HL9.out
          have s0 := BX.at 0 _ rfl
          have s1 := BX.at 1 _ rfl
          have s2 := BX.at 2 _ rfl
          have s3 := BX.at 3 _ rfl
          have s4 := BX.at 4 _ rfl
          have s5 := BX.at 5 _ rfl
          have s6 := BX.at 6 _ rfl
          have s7 := BX.at 7 _ rfl
          have s8 := BX.at 8 _ rfl
          have s9 := BX.at 9 _ rfl
          have sa := BX.at 10 _ rfl
          have fs := BX.2.1
          have zs := BX.2.2
          have BY := HR8.out
          have r0 := BY.at 0 _ rfl
          have r1 := BY.at 1 _ rfl
          have r2 := BY.at 2 _ rfl
          have r3 := BY.at 3 _ rfl
          have r4 := BY.at 4 _ rfl
          have r5 := BY.at 5 _ rfl
          have r6 := BY.at 6 _ rfl
          have r7 := BY.at 7 _ rfl
          have r8 := BY.at 8 _ rfl
          have r9 := BY.at 9 _ rfl
          have ra := BY.at 10 _ rfl
          have fr := BY.2.1
          have zr := BY.2.2
          clear BX BY
          go_wp2
          refine bodyPost_ret (v := lV 0 zeroD (4, i) (.slice A3 (st.length + 1) c3)) (by simp [results, Tryz.results83, go_sem, zr, zs, r0, r1, r2, r3, r4, r5, r6, r7, r8, r9, ra, s0, s1, s2, s3, s4, s5, s6, s7, s8, s9, sa, lV]) rfl ?_
          rw [set11_eq]
          have hq := HQR.out
          subst hq
          refine ⟨A3, c3, (by rw [List.length_append]; rfl), ?_, below_setCells HB7.out (by omega) 0 _⟩
          exact (HROW7.out.kept (F := fun k => k = w.heap.size + 1) ((Kp.refl (fun k => k = w.heap.size + 1) w5).setCells (b := w.heap.size + 1) (.inl rfl) 0 _) (fun k hk e => by have := HBB.out; omega)).mono (fun k _ h => by have := HBB.out; omega)
         | true =>
          have HQR := Lib.hid (HG5.out rfl)
          have BX := HL7.out
          have s0 := BX.at 0 _ rfl
          have s1 := BX.at 1 _ rfl
          have s2 := BX.at 2 _ rfl
          have s3 := BX.at 3 _ rfl
          have s4 := BX.at 4 _ rfl
          have s5 := BX.at 5 _ rfl
          have s6 := BX.at 6 _ rfl
          have s7 := BX.at 7 _ rfl
          have s8 := BX.at 8 _ rfl
          have s9 := BX.at 9 _ rfl
          have sa := BX.at 10 _ rfl
          have fs := BX.2.1
          have zs := BX.2.2
          have BY := HD7.out
          have t0 := BY.at 0 _ rfl
          have t1 := BY.at 1 _ rfl
          have t2 := BY.at 2 _ rfl
          have t3 := BY.at 3 _ rfl
          have t4 := BY.at 4 _ rfl
          have t5 := BY.at 5 _ rfl
          have t6 := BY.at 6 _ rfl
          have ft := BY.2.1
          have zt := BY.2.2
          clear BX BY
          have hz4 := HZ4.out
          have hne1 : ¬ w4.heap.size = w.heap.size + 1 + 1 := by omega
          have hne2 : ¬ w.heap.size + 1 + 1 = w4.heap.size := by omega
          clear hz4
          go_upto_region 22 with fail
          generalize hY : World.setCell _ _ _ = Y
          have HL9 : Hid (Box Y (w.heap.size + 2) (lC i d (0, 0) (.slice A3 (st.length + 1) c3))) := by rw [← hY]; exact ((((((((((HL7.out).setAt 8 (by simp [lC]) (.int .i64 0)).setAt 9 (by simp [lC]) (.int .i64 0)).setAt 0 (by simp [lC]) (.int .i64 i)).setAt 1 (by simp [lC]) (.int .i64 d.kind)).setAt 2 (by simp [lC]) (.int .u64 d.out)).setAt 3 (by simp [lC]) (.bool d.user)).setAt 4 (by simp [lC]) (.bool d.write)).setAt 5 (by simp [lC]) (.bool d.exec)).setAt 6 (by simp [lC]) (.bool d.used)).setAt 7 (by simp [lC]) (.int .i64 d.attr)
          have HR8 : Hid (Box Y (w.heap.size + 1) (lC 0 zeroD (0, 0) (.slice none 0 0))) := by rw [← hY]; exact ((((((((((HR7.out).far (by omega) 8 _).far (by omega) 9 _).far (by omega) 0 _).far (by omega) 1 _).far (by omega) 2 _).far (by omega) 3 _).far (by omega) 4 _).far (by omega) 5 _).far (by omega) 6 _).far (by omega) 7 _
          have HROW9 : Hid (RowAt Y (fun k => w.heap.size + 3 ≤ k) 2 (.slice A3 (st ++ [(a, V)]).length c3) (st ++ [(a, V)]).length (stepCells (st ++ [(a, V)]))) := by rw [← hY]; exact ((((((((((HROW7.out).far (by omega) 8 _).far (by omega) 9 _).far (by omega) 0 _).far (by omega) 1 _).far (by omega) 2 _).far (by omega) 3 _).far (by omega) 4 _).far (by omega) 5 _).far (by omega) 6 _).far (by omega) 7 _
          have HB9 : Hid (Below w.heap.size w Y) := by rw [← hY]; exact ((((((((((HB7.out).setCell (by show _ ≤ _ + 2; omega) _).setCell (by show _ ≤ _ + 2; omega) _).setCell (by show _ ≤ _ + 2; omega) _).setCell (by show _ ≤ _ + 2; omega) _).setCell (by show _ ≤ _ + 2; omega) _).setCell (by show _ ≤ _ + 2; omega) _).setCell (by show _ ≤ _ + 2; omega) _).setCell (by show _ ≤ _ + 2; omega) _).setCell (by show _ ≤ _ + 2; omega) _).setCell (by show _ ≤ _ + 2; omega) _
          clear hY s0 s1 s2 s3 s4 s5 s6 s7 s8 s9 sa t0 t1 t2 t3 t4 t5 t6 fs zs ft zt
          have BX := HL9.out
          have s0 := BX.at 0 _ rfl
          have s1 := BX.at 1 _ rfl
          have s2 := BX.at 2 _ rfl
          have s3 := BX.at 3 _ rfl
          have s4 := BX.at 4 _ rfl
          have s5 := BX.at 5 _ rfl
          have s6 := BX.at 6 _ rfl
          have s7 := BX.at 7 _ rfl
          have s8 := BX.at 8 _ rfl
          have s9 := BX.at 9 _ rfl
          have sa := BX.at 10 _ rfl
          have fs := BX.2.1
          have zs := BX.2.2
          have BY := HR8.out
          have r0 := BY.at 0 _ rfl
          have r1 := BY.at 1 _ rfl
          have r2 := BY.at 2 _ rfl
          have r3 := BY.at 3 _ rfl
          have r4 := BY.at 4 _ rfl
          have r5 := BY.at 5 _ rfl
          have r6 := BY.at 6 _ rfl
          have r7 := BY.at 7 _ rfl
          have r8 := BY.at 8 _ rfl
          have r9 := BY.at 9 _ rfl
          have ra := BY.at 10 _ rfl
          have fr := BY.2.1
          have zr := BY.2.2
          clear BX BY
          go_wp2
          refine bodyPost_ret (v := lV i d (0, 0) (.slice A3 (st.length + 1) c3)) (by simp [results, Tryz.results83, go_sem, zr, zs, r0, r1, r2, r3, r4, r5, r6, r7, r8, r9, ra, s0, s1, s2, s3, s4, s5, s6, s7, s8, s9, sa, lV]) rfl ?_
          rw [set11_eq]
          have hq := HQR.out
          subst hq
          refine ⟨A3, c3, (by rw [List.length_append]; rfl), ?_, below_setCells HB9.out (by omega) 0 _⟩
          exact (HROW9.out.kept (F := fun k => k = w.heap.size + 1) ((Kp.refl (fun k => k = w.heap.size + 1) Y).setCells (b := w.heap.size + 1) (.inl rfl) 0 _) (fun k hk e => by have := HBB.out; omega)).mono (fun k _ h => by have := HBB.out; omega)
        ·have q3 : decide ((d.out : Int) ≤ (sz : Int)) = false := by simp; omega
         have q3' : decide (d.out ≤ sz) = false := by simp; omega
         have HQR := Lib.hid (HG6.out (by rw [q3']; rfl))
         clear hos
         go_quiet (fail)
         go_upto_region 22 with fail
         have hdr : Below X.heap.size X (X.drewN nq) := below_drewN (Below.refl _ _) _
         have HL9 := Lib.hid (HL5.out.below hdr)
         have HR8 := Lib.hid (HR5.out.below hdr)
         have HROW9 := Lib.hid (HROW5.out.below hdr)
         have HB9 : Hid (Below w.heap.size w (X.drewN nq)) := HB5.out.trans (hdr.mono HB5.out.size)
         clear hdr HL5 HR5 HROW5 HB5 HM5 HD5
         generalize X.drewN nq = X9 at *
         have BX := HL9.out
         have s0 := BX.at 0 _ rfl
         have s1 := BX.at 1 _ rfl
         have s2 := BX.at 2 _ rfl
         have s3 := BX.at 3 _ rfl
         have s4 := BX.at 4 _ rfl
         have s5 := BX.at 5 _ rfl
         have s6 := BX.at 6 _ rfl
         have s7 := BX.at 7 _ rfl
         have s8 := BX.at 8 _ rfl
         have s9 := BX.at 9 _ rfl
         have sa := BX.at 10 _ rfl
         have fs := BX.2.1
         have zs := BX.2.2
         have BY := HR8.out
         have r0 := BY.at 0 _ rfl
         have r1 := BY.at 1 _ rfl
         have r2 := BY.at 2 _ rfl
         have r3 := BY.at 3 _ rfl
         have r4 := BY.at 4 _ rfl
         have r5 := BY.at 5 _ rfl
         have r6 := BY.at 6 _ rfl
         have r7 := BY.at 7 _ rfl
         have r8 := BY.at 8 _ rfl
         have r9 := BY.at 9 _ rfl
         have ra := BY.at 10 _ rfl
         have fr := BY.2.1
         have zr := BY.2.2
         clear BX BY
         go_wp2
         refine bodyPost_ret (v := lV 0 zeroD (4, i) (.slice A3 (st.length + 1) c3)) (by simp [results, Tryz.results83, go_sem, zr, zs, r0, r1, r2, r3, r4, r5, r6, r7, r8, r9, ra, s0, s1, s2, s3, s4, s5, s6, s7, s8, s9, sa, lV]) rfl ?_
         rw [set11_eq]
         have hq := HQR.out
         subst hq
         refine ⟨A3, c3, (by rw [List.length_append]; rfl), ?_, below_setCells HB9.out (by omega) 0 _⟩
         exact (HROW9.out.kept (F := fun k => k = w.heap.size + 1) ((Kp.refl (fun k => k = w.heap.size + 1) X9).setCells (b := w.heap.size + 1) (.inl rfl) 0 _) (fun k hk e => by have := HBB.out; omega)).mono (fun k _ h => by have := HBB.out; omega)
    ·have d0 : ((M : Int) != 0) = true := by simp; omega
     have HQR := Lib.hid (G1.out hM)
     have k8 := HL2.out.at 8 _ rfl
     have k9 := HL2.out.at 9 _ rfl
     have fk := HL2.out.2.1
     have zk := HL2.out.2.2
     clear hM G1 G2 G3 G4 G5 G6
     go_upto_region 9 with fail
     generalize hX : World.setCell _ _ _ = X
     have HL9 : Hid (Box X (w.heap.size + 2) (lC 0 zeroD (4, i) (.slice A2 st.length c2))) := by rw [← hX]; exact ((HL2.out.setAt 8 (by simp [lC]) (.int .i64 4)).setAt 9 (by simp [lC]) (.int .i64 i))
     have HR8 : Hid (Box X (w.heap.size + 1) (lC 0 zeroD (0, 0) (.slice none 0 0))) := by rw [← hX]; exact (HR2.out.far (by omega) 8 _).far (by omega) 9 _
     have HROW : Hid (RowAt X (fun k => w.heap.size + 3 ≤ k) 2 (.slice A2 st.length c2) st.length (stepCells st)) := by rw [← hX]; exact (HROW2.out.far (by omega) 8 _).far (by omega) 9 _
     have HB : Hid (Below w.heap.size w X) := by rw [← hX]; exact (HB2.out.setCell (by show _ ≤ _ + 2; omega) _).setCell (by show _ ≤ _ + 2; omega) _
     clear hX k8 k9 fk zk
     have BX := HL9.out
     have s0 := BX.at 0 _ rfl
     have s1 := BX.at 1 _ rfl
     have s2 := BX.at 2 _ rfl
     have s3 := BX.at 3 _ rfl
     have s4 := BX.at 4 _ rfl
     have s5 := BX.at 5 _ rfl
     have s6 := BX.at 6 _ rfl
     have s7 := BX.at 7 _ rfl
     have s8 := BX.at 8 _ rfl
     have s9 := BX.at 9 _ rfl
     have sa := BX.at 10 _ rfl
     have fs := BX.2.1
     have zs := BX.2.2
     have BY := HR8.out
     have r0 := BY.at 0 _ rfl
     have r1 := BY.at 1 _ rfl
     have r2 := BY.at 2 _ rfl
     have r3 := BY.at 3 _ rfl
     have r4 := BY.at 4 _ rfl
     have r5 := BY.at 5 _ rfl
     have r6 := BY.at 6 _ rfl
     have r7 := BY.at 7 _ rfl
     have r8 := BY.at 8 _ rfl
     have r9 := BY.at 9 _ rfl
     have ra := BY.at 10 _ rfl
     have fr := BY.2.1
     have zr := BY.2.2
     clear BX BY
     go_wp2
     refine bodyPost_ret (v := lV 0 zeroD (4, i) (.slice A2 st.length c2)) (by simp [results, Tryz.results83, go_sem, zr, zs, r0, r1, r2, r3, r4, r5, r6, r7, r8, r9, ra, s0, s1, s2, s3, s4, s5, s6, s7, s8, s9, sa, lV]) rfl ?_
     rw [set11_eq]
     have hq := HQR.out
     subst hq
     refine ⟨A2, c2, rfl, ?_, below_setCells HB.out (by omega) 0 _⟩
     exact (HROW.out.kept (F := fun k => k = w.heap.size + 1) ((Kp.refl (fun k => k = w.heap.size + 1) X).setCells (b := w.heap.size + 1) (.inl rfl) 0 _) (fun k hk e => by have := HBB.out; omega)).mono (fun k _ h => by have := HBB.out; omega)
   ·obtain rfl : i = 4 := by omega
    have HR2 : Hid ((⟨0, zeroD, (1, 0), st⟩ : Lf) = R) := by rw [← HS.out]; show _ = onP st ⟨0, zeroD, (1, 0), []⟩; unfold onP; rw [List.append_nil]
    have HL9 := HL
    have HQR := HR2
    have BX := HL9.out
    have s0 := BX.at 0 _ rfl
    have s1 := BX.at 1 _ rfl
    have s2 := BX.at 2 _ rfl
    have s3 := BX.at 3 _ rfl
    have s4 := BX.at 4 _ rfl
    have s5 := BX.at 5 _ rfl
    have s6 := BX.at 6 _ rfl
    have s7 := BX.at 7 _ rfl
    have s8 := BX.at 8 _ rfl
    have s9 := BX.at 9 _ rfl
    have sa := BX.at 10 _ rfl
    have fs := BX.2.1
    have zs := BX.2.2
    have BY := HR8.out
    have r0 := BY.at 0 _ rfl
    have r1 := BY.at 1 _ rfl
    have r2 := BY.at 2 _ rfl
    have r3 := BY.at 3 _ rfl
    have r4 := BY.at 4 _ rfl
    have r5 := BY.at 5 _ rfl
    have r6 := BY.at 6 _ rfl
    have r7 := BY.at 7 _ rfl
    have r8 := BY.at 8 _ rfl
    have r9 := BY.at 9 _ rfl
    have ra := BY.at 10 _ rfl
    have fr := BY.2.1
    have zr := BY.2.2
    clear BX BY
    go_wp2
    refine bodyPost_ret (v := lV 0 zeroD (1, 0) (.slice A2 st.length c2)) (by simp [results, Tryz.results83, go_sem, zr, zs, r0, r1, r2, r3, r4, r5, r6, r7, r8, r9, ra, s0, s1, s2, s3, s4, s5, s6, s7, s8, s9, sa, lV]) rfl ?_
    rw [set11_eq]
    have hq := HQR.out
    subst hq
    refine ⟨A2, c2, rfl, ?_, below_setCells HB.out (by omega) 0 _⟩
    exact (HROW.out.kept (F := fun k => k = w.heap.size + 1) ((Kp.refl (fun k => k = w.heap.size + 1) wr).setCells (b := w.heap.size + 1) (.inl rfl) 0 _) (fun k hk e => by have := HBB.out; omega)).mono (fun k _ h => by have := HBB.out; omega)
end Go.Proofs.YtbapgngngaaojaaGreat
