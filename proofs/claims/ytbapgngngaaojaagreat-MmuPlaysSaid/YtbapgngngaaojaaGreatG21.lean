/- The walk of (*Mmu).Access. -/
import Derived.Test.YtbapgngngaaojaaGreatG20
set_option linter.unusedSimpArgs false
set_option linter.unusedVariables false
namespace Go.Proofs.YtbapgngngaaojaaGreat
open Go.RowKit Go.Lib
set_option maxRecDepth 100000
attribute [local go_sem high] eqA_Fault
theorem leafM_ok {s : St} (h : OkSt s) (va : Nat) (fill led keep : Bool) (hf : (leafM s va fill led keep).1.f = (0, 0)) : rightL (leafM s va fill led keep).1.d (leafM s va fill led keep).1.level = true := by
 unfold leafM at hf ⊢
 split at hf
 ·rename_i h8
  rw [if_pos h8]
  cases hr : s.reg with
  | none => rw [hr] at hf; cases hf
  | some p =>
   obtain ⟨r, a⟩ := p
   rw [hr] at hf
   dsimp only at hf ⊢
   split at hf
   ·rename_i h0
    rw [if_pos h0]
    exact ((fromP_ok s.sz s.rd _ _ va).1.2.1 hf).1
   ·rename_i h0
    rw [if_neg h0]
    split at hf
    ·rename_i h1
     rw [if_pos h1]
     unfold findP at h1 ⊢
     dsimp only at h1 ⊢
     cases hq : s.es.find? (matE a va) with
     | none =>
      exfalso
      have : s.es.countP (matE a va) = 0 := by
       rw [List.countP_eq_zero]
       intro e he
       have := List.find?_eq_none.1 hq e he
       exact this
      omega
     | some e => exact (h.eok e (List.mem_of_find?_eq_some hq)).2.2.2.2.2.2.1
    ·cases hf
 ·cases hf
/-- What an access answers and leaves. -/
def accessM (s : St) (kind : Int) (va x : Nat) (fill led keep : Bool) : ((Nat × Nat) × Nat) × St :=
 let l := (leafM s va fill led keep).1
 let s1 := (leafM s va fill led keep).2
 let f := if l.f = (0, 0) then letP l.d l.level kind else l.f
 if f = (0, 0) then
  if kind = 2 then (((0, 0), 0), { s1 with rd := writeP s1.sz s1.rd (l.d.out + offP va l.level) x })
  else (((0, 0), (readP s1.sz s1.rd (l.d.out + offP va l.level)).1), s1)
 else ((f, 0), s1)
theorem MmuD.wrote {x m pt pk : Nat} {pv : Value} {Fm Ft Fk : Nat → Prop} {s : St} {w u u' : World} {e : Ending} {v : Value} (h : MmuD x m pt pk pv Fm Ft Fk s w) (hb : Below w.heap.size w u) {rd' : Nat → Nat} (hp : PutPost Fm m s.sz rd' v u e u') : MmuPost x m pt pk pv Fm Ft Fk { s with rd := rd' } w u' ∧ Kp Fm u u' := by
 refine ⟨?_, hp.2.2⟩
 have h1 := (h.below hb).setM hp.2.1 hp.2.2
 refine ⟨Gr Fm u u', Ft, Fk, h1, (Kp.ofBelow hb).trans hp.2.2 (fun i y => .inl (.inr (.inl y))), ?_⟩
 intro k y
 have hs := hb.size
 rcases y with y | y | y | y
 ·exact .inl (.inl y)
 ·rcases y with y | y
  ·exact .inl (.inr (.inl y))
  ·exact .inr (by have := y.1; omega)
 ·exact .inl (.inr (.inr (.inl y)))
 ·exact .inl (.inr (.inr (.inr y)))
def AccPost (x m pt pk : Nat) (pv : Value) (Fm Ft Fk : Nat → Prop) (R : (Nat × Nat) × Nat) (s' : St) (w : World) (e : Ending) (w' : World) : Prop :=
 e = .returned (.agg #[.int .i64 R.1.1, .int .i64 R.1.2, .int .u64 R.2]) ∧ MmuPost x m pt pk pv Fm Ft Fk s' w w'
set_option maxHeartbeats 2000000 in
theorem access_nat {x m pt pk : Nat} {pv : Value} {Fm Ft Fk : Nat → Prop} {s : St} {w : World} (h : MmuD x m pt pk pv Fm Ft Fk s w) (kind : Int) (va wd : Nat) (hv : va < 18446744073709551616) (hwd : wd < 18446744073709551616) (fill led keep : Bool) :
  Calls Tryz.prog 21 #[.pointer (some ⟨x, 0, none⟩), .int .i64 kind, .int .u64 va, .int .u64 wd, .agg #[.bool fill, .bool led, .bool keep]] w (AccPost x m pt pk pv Fm Ft Fk (accessM s kind va wd fill led keep).1 (accessM s kind va wd fill led keep).2 w) := by
 obtain ⟨A, hA⟩ : ∃ A, accessM s kind va wd fill led keep = A := ⟨_, rfl⟩
 rw [hA]
 unfold accessM at hA
 have C1 : Hid (∀ u, Below w.heap.size w u → Calls Tryz.prog 60 #[.pointer (some ⟨x, 0, none⟩), .int .u64 va, .agg #[.bool fill, .bool led, .bool keep]] u (WalkPost x m pt pk pv Fm Ft Fk (leafM s va fill led keep).1 (leafM s va fill led keep).2 u)) := fun u hb => mleaf_nat (h.below hb) va hv fill led keep
 have hlo := leafM_ok h.ok va fill led keep
 generalize leafM s va fill led keep = M at *
 obtain ⟨⟨Rl, ⟨K, out, b1, b2, b3, b4, attr⟩, ⟨f1, f2⟩, Rst⟩, s1⟩ := M
 dsimp only at C1 hlo hA
 have HLO := Lib.hid hlo
 have HAA := Lib.hid hA
 have HD := Lib.hid h
 have hx := h.bx
 have HVV := Lib.hid hwd
 clear h hlo hA hwd
 go_enter Tryz.func21, Tryz.ntmps21
 go_upto_region 1 with fail
 have HBH' : Hid (Box ((w.alloc (.cells #[.bool fill, .bool led, .bool keep] 26)).alloc (.cells #[.int .i64 0, .int .i64 0, .int .u64 0] 69)) w.heap.size [.bool fill, .bool led, .bool keep]) :=
  (Box.new w [.bool fill, .bool led, .bool keep] 26).below (below1 _ _)
 have HB3' : Hid (Box ((w.alloc (.cells #[.bool fill, .bool led, .bool keep] 26)).alloc (.cells #[.int .i64 0, .int .i64 0, .int .u64 0] 69)) (w.heap.size + 1) [.int .i64 0, .int .i64 0, .int .u64 0]) := by
  have h := Box.new (w.alloc (.cells #[.bool fill, .bool led, .bool keep] 26)) [.int .i64 0, .int .i64 0, .int .u64 0] 69
  rw [World.size_alloc] at h
  exact h
 generalize hW : World.alloc (World.alloc w _) _ = W
 have hW' : (w.alloc (.cells #[.bool fill, .bool led, .bool keep] 26)).alloc (.cells #[.int .i64 0, .int .i64 0, .int .u64 0] 69) = W := hW
 rw [hW'] at HBH' HB3'
 have HB0 : Hid (Below w.heap.size w W) := by rw [← hW']; exact (below1 w _).alloc (by simp) _
 have HBH := HBH'
 have HB3 := HB3'
 clear hW hW' HBH' HB3'
 have h0 := HBH.out.at 0 _ rfl
 have h1 := HBH.out.at 1 _ rfl
 have h2 := HBH.out.at 2 _ rfl
 have hz := HBH.out.2.2
 try dsimp only [leafV, fV] at C1
 go_upto_region 2 with (go_at_call 60; refine (C1.out _ HB0.out).mono ?_; rintro e w1 ⟨rfl, hp⟩; have HP := Lib.hid hp; clear hp; dsimp only [leafV, fV])
 generalize hF1 : (f1 : Int) = F1
 generalize hF2 : (f2 : Int) = F2
 have HF1 := Lib.hid hF1
 have HF2 := Lib.hid hF2
 clear hF1 hF2 h0 h1 h2 hz
 have HP0 := HP.out
 obtain ⟨Fm', Ft', Fk', hd, hkp, hfp⟩ := HP0
 have HDD := Lib.hid hd
 have HKP := Lib.hid hkp
 have HFP := Lib.hid hfp
 have x0' := hd.c0
 have HWW : Hid (W.heap.size ≤ w1.heap.size) := hkp.size
 have hgw : ∀ g, w.heap.size ≤ g → ¬ MmuF x pt pk Fm Ft Fk g := fun g hg y => by have := HD.out.bF g y; omega
 have HA3 : Hid (Box w1 (w.heap.size + 1) [.int .i64 0, .int .i64 0, .int .u64 0]) := HB3.out.kept hkp (hgw _ (by omega))
 clear hd hkp hfp hgw C1
 have HL' : Hid (Box ((w1.alloc (.cells #[.int .i64 Rl, .int .i64 K, .int .u64 out, .bool b1, .bool b2, .bool b3, .bool b4, .int .i64 attr] 62)).alloc (.cells #[.int .i64 F1, .int .i64 F2] 43)) w1.heap.size [.int .i64 Rl, .int .i64 K, .int .u64 out, .bool b1, .bool b2, .bool b3, .bool b4, .int .i64 attr]) :=
  (Box.new w1 [.int .i64 Rl, .int .i64 K, .int .u64 out, .bool b1, .bool b2, .bool b3, .bool b4, .int .i64 attr] 62).below (below1 _ _)
 have HF' : Hid (Box ((w1.alloc (.cells #[.int .i64 Rl, .int .i64 K, .int .u64 out, .bool b1, .bool b2, .bool b3, .bool b4, .int .i64 attr] 62)).alloc (.cells #[.int .i64 F1, .int .i64 F2] 43)) (w1.heap.size + 1) [.int .i64 F1, .int .i64 F2]) := by
  have h := Box.new (w1.alloc (.cells #[.int .i64 Rl, .int .i64 K, .int .u64 out, .bool b1, .bool b2, .bool b3, .bool b4, .int .i64 attr] 62)) [.int .i64 F1, .int .i64 F2] 43
  rw [World.size_alloc] at h
  exact h
 have HX0' : Hid (Below w1.heap.size w1 ((w1.alloc (.cells #[.int .i64 Rl, .int .i64 K, .int .u64 out, .bool b1, .bool b2, .bool b3, .bool b4, .int .i64 attr] 62)).alloc (.cells #[.int .i64 F1, .int .i64 F2] 43))) := (below1 w1 _).alloc (by simp) _
 generalize hX : World.alloc (World.alloc w1 _) _ = X at *
 have HX0 := HX0'
 have HL := HL'
 have HF := HF'
 clear hX HX0' HL' HF'
 have A3 := HA3.out.below HX0.out
 have a0 := A3.at 0 _ rfl
 have a1 := A3.at 1 _ rfl
 have a2 := A3.at 2 _ rfl
 have fa := A3.2.1
 have z1 := A3.2.2
 have l0 := HL.out.at 0 _ rfl
 have l1 := HL.out.at 1 _ rfl
 have l2 := HL.out.at 2 _ rfl
 have l3 := HL.out.at 3 _ rfl
 have l4 := HL.out.at 4 _ rfl
 have l5 := HL.out.at 5 _ rfl
 have l6 := HL.out.at 6 _ rfl
 have l7 := HL.out.at 7 _ rfl
 have k0 := HF.out.at 0 _ rfl
 have k1 := HF.out.at 1 _ rfl
 have fk := HF.out.2.1
 have lz := HL.out.2.2
 have kz := HF.out.2.2
 have hA3X := Lib.hid A3
 clear A3
 have x0 := keep_cell HX0.out x0'
 have ga : G2 w W (w.heap.size + 1) := ⟨by omega, HB3.out.2.2⟩
 generalize hq : (F1 == 0 && (F2 == 0)) = q
 have HQ := Lib.hid hq
 clear hq x0'
 cases q with
 | false =>
  have hne : ¬ (f1, f2) = (0, 0) := by
   intro e
   injection e with e1 e2
   have := HQ.out
   rw [← HF1.out, ← HF2.out, e1, e2] at this
   simp at this
  have HE : Hid ((((f1, f2), 0), s1) = A) := by have := HAA.out; rwa [if_neg hne, if_neg hne] at this
  have hq : (F1 == 0 && (F2 == 0)) = false := HQ.out
  clear HAA hne
  go_wp2
  refine bodyPost_ret (v := .agg #[.int .i64 F1, .int .i64 F2, .int .u64 0]) (by simp [results, Tryz.results21, go_sem, a0, a1, a2, z1]) rfl ?_
  rw [← HE.out]
  refine ⟨by rw [← HF1.out, ← HF2.out]; rfl, MmuPost.fin HD.out HB0.out (HP.out.below HX0.out) ?_⟩
  exact (((Kp.refl (G2 w W) X).setCell (p := ⟨w.heap.size + 1, 0, none⟩) (.inl ga) _).setCell (p := ⟨w.heap.size + 1, 1, none⟩) (.inl ga) _).setCell (p := ⟨w.heap.size + 1, 2, none⟩) (.inl ga) _
 | true =>
  have hff : f1 = 0 ∧ f2 = 0 := by
   have := HQ.out
   rw [← HF1.out, ← HF2.out] at this
   simpa using this
  obtain ⟨rfl, rfl⟩ := hff
  have hq : (F1 == 0 && (F2 == 0)) = true := HQ.out
  have hlv := rightL_kind (HLO.out rfl)
  dsimp only at hlv
  have C2 : Hid (∀ u, Calls Tryz.prog 20 #[.agg #[.int .i64 K, .int .u64 out, .bool b1, .bool b2, .bool b3, .bool b4, .int .i64 attr], .int .i64 Rl, .int .i64 kind] u fun e u' => e = .returned (fV (letP ⟨K, out, b1, b2, b3, b4, attr⟩ Rl kind)) ∧ Below u.heap.size u u') := fun u => let_nat K out attr Rl b1 b2 b3 b4 kind u
  have HAB : Hid ((if letP ⟨K, out, b1, b2, b3, b4, attr⟩ Rl kind = (0, 0) then (if kind = 2 then (((0, 0), 0), { s1 with rd := writeP s1.sz s1.rd (out + offP va Rl) wd }) else (((0, 0), (readP s1.sz s1.rd (out + offP va Rl)).1), s1)) else ((letP ⟨K, out, b1, b2, b3, b4, attr⟩ Rl kind, 0), s1)) = A) := HAA.out
  have CO : Hid (∀ u, Calls Tryz.prog 23 #[.agg #[.int .i64 Rl, .int .i64 K, .int .u64 out, .bool b1, .bool b2, .bool b3, .bool b4, .int .i64 attr], .int .u64 va] u fun e w' => e = .returned (.int .u64 (out + offP va Rl : Nat)) ∧ Below u.heap.size u w') := fun u => leaf_out Rl K out attr va b1 b2 b3 b4 u hlv.2.2.1 hv hlv.2.2.2.1
  have hat : out + offP va Rl < 18446744073709551616 := by
   have : offP va Rl < 18446744073709551616 / 2 := by
    unfold offP
    have h := Nat.mod_lt va (y := 2 ^ bitsL Rl) (Nat.pow_pos (by omega))
    have h2 : 2 ^ bitsL Rl ≤ 281474976710656 := Nat.le_trans (m := 2 ^ 48) ( Nat.pow_le_pow_right (by omega) (by unfold bitsL; split; omega; split; omega; split <;> omega)) (by decide)
    omega
   have := hlv.2.2.2.1
   omega
  generalize letP ⟨K, out, b1, b2, b3, b4, attr⟩ Rl kind = G at *
  obtain ⟨g1, g2⟩ := G
  generalize (out + offP va Rl) = at_ at *
  have CW : Hid (∀ v, Below w1.heap.size w1 v → Calls Tryz.prog 29 #[.pointer (some ⟨m, 0, none⟩), .int .u64 at_, .int .u64 wd] v fun e v' => e = .returned (.int .i64 (mayP s1.sz at_)) ∧ MmuPost x m pt pk pv Fm Ft Fk { s1 with rd := writeP s1.sz s1.rd at_ wd } W v' ∧ Kp Fm' v v') := fun v hb => by
   have hd := HDD.out
   refine (write_nat (hd.mem.below hb) at_ wd hd.ok.szle hd.ok.szal hat HVV.out).mono ?_
   rintro e v' hp
   have h2 := hd.wrote hb hp
   exact ⟨hp.1, MmuPost.join HKP.out HFP.out h2.1, h2.2⟩
  have CR : Hid (∀ v, Below w1.heap.size w1 v → Calls Tryz.prog 22 #[.pointer (some ⟨m, 0, none⟩), .int .u64 at_] v fun e v' => e = .returned (.tuple #[.int .u64 (readP s1.sz s1.rd at_).1, .int .i64 (readP s1.sz s1.rd at_).2]) ∧ v' = v) := fun v hb =>
   read_nat (HDD.out.mem.below hb) at_ hat
  generalize readP s1.sz s1.rd at_ = RD at *
  obtain ⟨rd1, rd2⟩ := RD
  dsimp only at CR HAB
  have HFN : Hid (¬ Fm' (w.heap.size + 1)) := fun y => by
   rcases HFP.out _ (.inr (.inl y)) with y | y
   ·have := HD.out.bF _ y; omega
   ·have := HB3.out.2.2; omega
  dsimp only [fV] at C2
  generalize hG1 : (g1 : Int) = G1 at *
  generalize hG2 : (g2 : Int) = G2' at *
  have HG1 := Lib.hid hG1
  have HG2 := Lib.hid hG2
  clear hG1 hG2 hlv hat HAA HLO
  go_upto_region 4 with (go_at_call 20; refine (C2.out _).mono ?_; rintro e w3 ⟨rfl, hb3⟩; have HB33 := Lib.hid hb3; have HF3 := HF.out.below hb3; have k0' := HF3.at 0 _ rfl; have k1' := HF3.at 1 _ rfl; have fk' := HF3.2.1; have kz' := HF3.2.2; clear hb3)
  generalize hY : World.setCell (World.setCell w3 _ _) _ _ = Y
  have HF4 : Hid (Box Y (w1.heap.size + 1) [.int .i64 G1, .int .i64 G2']) := by rw [← hY]; exact HF3.put (news := [.int .i64 G1, .int .i64 G2']) rfl
  have HBY : Hid (Below w1.heap.size w1 Y) := by
   rw [← hY]
   exact below_setCells (HX0.out.trans (HB33.out.mono HX0.out.size)) (by omega) 0 [.int .i64 G1, .int .i64 G2']
  have HKY : Hid (Kp (fun k => k = w1.heap.size + 1) X Y) := by
   rw [← hY]
   exact (((Kp.ofBelow (F := fun k => k = w1.heap.size + 1) HB33.out).setCell (p := ⟨w1.heap.size + 1, 0, none⟩) (.inl rfl) _).setCell (p := ⟨w1.heap.size + 1, 1, none⟩) (.inl rfl) _)
  have HW1 : Hid (w.heap.size + 1 < w1.heap.size) := HA3.out.2.2
  have HA4 : Hid (Box Y (w.heap.size + 1) [.int .i64 0, .int .i64 0, .int .u64 0]) := HA3.out.below HBY.out
  have HLY : Hid (Box Y w1.heap.size [.int .i64 Rl, .int .i64 K, .int .u64 out, .bool b1, .bool b2, .bool b3, .bool b4, .int .i64 attr]) := HL.out.kept HKY.out (by omega)
  have x0' := keep_cell HBY.out HDD.out.c0
  clear hY a0 a1 a2 fa z1 l0 l1 l2 l3 l4 l5 l6 l7 k0 k1 fk lz kz k0' k1' fk' kz' HF3 x0
  have A3 := HA4.out
  have a0 := A3.at 0 _ rfl
  have a1 := A3.at 1 _ rfl
  have a2 := A3.at 2 _ rfl
  have fa := A3.2.1
  have z1 := A3.2.2
  clear A3
  have l0 := HLY.out.at 0 _ rfl
  have l1 := HLY.out.at 1 _ rfl
  have l2 := HLY.out.at 2 _ rfl
  have l3 := HLY.out.at 3 _ rfl
  have l4 := HLY.out.at 4 _ rfl
  have l5 := HLY.out.at 5 _ rfl
  have l6 := HLY.out.at 6 _ rfl
  have l7 := HLY.out.at 7 _ rfl
  have k0 := HF4.out.at 0 _ rfl
  have k1 := HF4.out.at 1 _ rfl
  generalize hq2 : (G1 == 0 && (G2' == 0)) = q2
  have HQ2 := Lib.hid hq2
  clear hq2
  cases q2 with
  | false =>
   have hne : ¬ (g1, g2) = (0, 0) := by
    intro e
    injection e with e1 e2
    have := HQ2.out
    rw [← HG1.out, ← HG2.out, e1, e2] at this
    simp at this
   have HE : Hid ((((g1, g2), 0), s1) = A) := by have := HAB.out; rwa [if_neg hne] at this
   have hq2 : (G1 == 0 && (G2' == 0)) = false := HQ2.out
   clear HAB hne
   go_wp2
   refine bodyPost_ret (v := .agg #[.int .i64 G1, .int .i64 G2', .int .u64 0]) (by simp [results, Tryz.results21, go_sem, a0, a1, a2, z1]) rfl ?_
   rw [← HE.out]
   refine ⟨by rw [← HG1.out, ← HG2.out]; rfl, MmuPost.fin HD.out HB0.out (HP.out.below HBY.out) ?_⟩
   exact (((Kp.refl (G2 w W) Y).setCell (p := ⟨w.heap.size + 1, 0, none⟩) (.inl ga) _).setCell (p := ⟨w.heap.size + 1, 1, none⟩) (.inl ga) _).setCell (p := ⟨w.heap.size + 1, 2, none⟩) (.inl ga) _
  | true =>
   have hgg : g1 = 0 ∧ g2 = 0 := by
    have := HQ2.out
    rw [← HG1.out, ← HG2.out] at this
    simpa using this
   obtain ⟨rfl, rfl⟩ := hgg
   have hq2 : (G1 == 0 && (G2' == 0)) = true := HQ2.out
   by_cases hk : kind = 2
   ·subst hk
    have HE : Hid ((((0, 0), 0), { s1 with rd := writeP s1.sz s1.rd at_ wd }) = A) := by have := HAB.out; rwa [if_pos rfl, if_pos rfl] at this
    clear HAB
    go_upto_region 7 with fail
    go_cut [] (fun wx => Hid (MmuPost x m pt pk pv Fm Ft Fk { s1 with rd := writeP s1.sz s1.rd at_ wd } W wx) ∧ Hid (Box wx (w.heap.size + 1) [.int .i64 0, .int .i64 0, .int .u64 0]))
    case first =>
     go_region_with (first | (go_at_call 23; refine (CO.out _).mono ?_; rintro e w5 ⟨rfl, hb5⟩; have HB5 : Hid (Below w1.heap.size w1 w5) := HBY.out.drew.trans (hb5.mono HBY.out.drew.size); have y0 := keep_cell hb5 x0'; clear hb5) | (go_at_call 29; refine (CW.out _ HB5.out).mono ?_; rintro e w6 ⟨rfl, hp6, hk6⟩; have HP6 := Lib.hid hp6; have HK6 := Lib.hid hk6; clear hp6 hk6))
     all_goals
      go_wp2_with fail
      go_meet
      exact ⟨HP6, (HA3.out.below HB5.out).kept HK6.out HFN.out⟩
    case rest =>
     obtain ⟨HP6, HA6⟩ := hcut
     clear a0 a1 a2 fa z1
     have A3 := HA6.out
     have a0 := A3.at 0 _ rfl
     have a1 := A3.at 1 _ rfl
     have a2 := A3.at 2 _ rfl
     have fa := A3.2.1
     have z1 := A3.2.2
     clear A3
     go_wp2
     refine bodyPost_ret (v := .agg #[.int .i64 0, .int .i64 0, .int .u64 0]) (by simp [results, Tryz.results21, go_sem, a0, a1, a2, z1]) rfl ?_
     rw [← HE.out]
     refine ⟨rfl, MmuPost.fin HD.out HB0.out HP6.out ?_⟩
     exact (((Kp.refl (G2 w W) wc).setCell (p := ⟨w.heap.size + 1, 0, none⟩) (.inl ga) _).setCell (p := ⟨w.heap.size + 1, 1, none⟩) (.inl ga) _).setCell (p := ⟨w.heap.size + 1, 2, none⟩) (.inl ga) _
   ·have HE : Hid ((((0, 0), rd1), s1) = A) := by have := HAB.out; rwa [if_pos rfl, if_neg hk] at this
    have hk1 : (kind == 2) = false := by simp [hk]
    clear HAB
    go_upto_region 9 with fail
    go_cut [13] (fun s13 wx => s13 = .int .u64 rd1 ∧ Hid (Below w1.heap.size w1 wx))
    case first =>
     go_region_with (first | (go_at_call 23; refine (CO.out _).mono ?_; rintro e w5 ⟨rfl, hb5⟩; have HB5 : Hid (Below w1.heap.size w1 w5) := HBY.out.drew.trans (hb5.mono HBY.out.drew.size); have y0 := keep_cell hb5 x0'; clear hb5) | (go_at_call 22; refine (CR.out _ HB5.out).mono ?_; rintro e w6 ⟨rfl, rfl⟩))
     all_goals
      go_wp2_with fail
      go_meet
      exact ⟨rfl, HB5⟩
    case rest =>
     obtain ⟨rfl, HB6⟩ := hcut
     clear a0 a1 a2 fa z1
     have A3 := HA3.out.below HB6.out
     have a0 := A3.at 0 _ rfl
     have a1 := A3.at 1 _ rfl
     have a2 := A3.at 2 _ rfl
     have fa := A3.2.1
     have z1 := A3.2.2
     clear A3
     go_wp2
     refine bodyPost_ret (v := .agg #[.int .i64 0, .int .i64 0, .int .u64 rd1]) (by simp [results, Tryz.results21, go_sem, a0, a1, a2, z1]) rfl ?_
     rw [← HE.out]
     refine ⟨rfl, MmuPost.fin HD.out HB0.out (HP.out.below HB6.out) ?_⟩
     exact (((Kp.refl (G2 w W) wc).setCell (p := ⟨w.heap.size + 1, 0, none⟩) (.inl ga) _).setCell (p := ⟨w.heap.size + 1, 1, none⟩) (.inl ga) _).setCell (p := ⟨w.heap.size + 1, 2, none⟩) (.inl ga) _
end Go.Proofs.YtbapgngngaaojaaGreat
