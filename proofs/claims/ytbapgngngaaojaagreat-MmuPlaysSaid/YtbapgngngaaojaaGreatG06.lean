/- A memory's map at the operations. The walks of package phys. The walks of package phys: what is written. Ranging over a memory's map; counting words. The walks of package phys: Write, New, count, Words. The walks of package walk: read, inside. The walks of package walk: inside, entry. -/
import Derived.Test.YtbapgngngaaojaaGreatG05
set_option linter.unusedSimpArgs false
set_option linter.unusedVariables false
namespace Go.Proofs.YtbapgngngaaojaaGreat
open Go.RowKit Go.Lib Go.Maps
theorem zeroSheet (w : World) : (zeroValue 144).run Tryz.prog w = .ok (.pointer none) w := by kernel_rfl
theorem keyOf64 (q : Nat) (hq : q < 18446744073709551616) : keyOf Tryz.prog 23 (.int .u64 q) = some (lk q) :=
 keyOf_int_mk Tryz.underlying23 (WalkArith.wf_u64 ⟨by omega, by omega⟩)
section
variable {w : World} {ops : Array Oper} {rest : List Oper} {o : Oper} {a : Act} {Q : Exit → Act → World → Prop}
theorem wpList_lookup_sheet_some (hg : o.guard = none) (m x : Operand) (hop : o.op = Op.lookup 146 m x true) (mb lim : Nat) (f : Nat → Option Nat) (hm : a.eval m = .map (some mb)) (hmap : MapIs w mb lim f)
  (q b : Nat) (hq : q < 18446744073709551616) (hx : a.eval x = .int .u64 q) (hf : f q = some b)
  (hK : wpList Tryz.prog ops Q rest (a.put o.dst (.tuple #[.pointer (some ⟨b, 0, none⟩), .bool true])) w) : wpList Tryz.prog ops Q (o :: rest) a w := by
 obtain ⟨N, D, hown, h1, h2, h3⟩ := hmap
 refine wpList_lookup_own_ok w hg m x _ hop 23 144 keyed64 Tryz.underlying146 sheetElem (zeroSheet w) .nil [] rfl mb N D hm hown _ _ hx (keyOf64 q hq) ?_
 intro v ps hv
 rw [h2 q b hf] at hv
 obtain rfl := sheetElem_inv hv
 have e : has D (lk q) = true := by rw [← h1, hf]; rfl
 rw [e]
 exact hK
theorem wpList_lookup_sheet_none (hg : o.guard = none) (m x : Operand) (hop : o.op = Op.lookup 146 m x true) (mb lim : Nat) (f : Nat → Option Nat) (hm : a.eval m = .map (some mb)) (hmap : MapIs w mb lim f)
  (q : Nat) (hq : q < 18446744073709551616) (hx : a.eval x = .int .u64 q) (hf : f q = none)
  (hK : wpList Tryz.prog ops Q rest (a.put o.dst (.tuple #[.pointer none, .bool false])) w) : wpList Tryz.prog ops Q (o :: rest) a w := by
 obtain ⟨N, D, hown, h1, h2, h3⟩ := hmap
 refine wpList_lookup_own_ok w hg m x _ hop 23 144 keyed64 Tryz.underlying146 sheetElem (zeroSheet w) .nil [] rfl mb N D hm hown _ _ hx (keyOf64 q hq) ?_
 intro v ps hv
 have e : has D (lk q) = false := by rw [← h1, hf]; rfl
 rw [atKey_of_not_has e] at hv
 rw [e]
 obtain rfl : v = .pointer none := by
  unfold sheetElem at hv
  split at hv
  ·simp at hv
  ·rfl
  ·cases hv
 exact hK
theorem wpList_mapUpdate_sheet (hg : o.guard = none) (m x v : Operand) (hop : o.op = Op.mapUpdate 146 m x v) (mb lim : Nat) (f : Nat → Option Nat) (hm : a.eval m = .map (some mb)) (hmap : MapIs w mb lim f)
  (q b : Nat) (hlim : lim ≤ 1073741824) (hq : q < lim) (hx : a.eval x = .int .u64 q) (hv : a.eval v = .pointer (some ⟨b, 0, none⟩))
  (hK : ∀ w', MapIs w' mb lim (fun q' => if q' = q then some b else f q') → Kp (fun k => k = mb) w w' → w'.heap.size = w.heap.size → wpList Tryz.prog ops Q rest (a.put o.dst undef) w') : wpList Tryz.prog ops Q (o :: rest) a w := by
 obtain ⟨N, D, hN, hown, h1, h2, h3⟩ := hmap.small
 have hkl : WideAt.IsKeyLit (lk q) := by simp [WideAt.IsKeyLit, lk]
 refine wpList_mapUpdate_in w hg m x v _ hop 23 144 keyed64 Tryz.underlying146 sheetElem mb N D hm hown (by unfold maxLen; omega) _ _ _ hx hv (keyOf64 q (by omega)) _ _ (sheetElem_mk b) ?_
 intro w' hown' hturn
 have hgr := hturn.grown
 refine hK w' ⟨N + 1, _, hown', ?_, ?_, ?_⟩ ⟨hgr.os, hgr.tape, hgr.output, hgr.size, fun k hk hn => hgr.block k hk (fun e => hn (Option.some.inj e))⟩ (by
  obtain ⟨es, c, es', c', hb, rfl⟩ := hturn
  simp [ChangeMaps.setBlock])
 ·intro q'
  show (if q' = q then some b else f q').isSome = _
  split
  ·rename_i e; subst e; rw [has_put_same hown.isMap hkl]; rfl
  ·rename_i e; rw [has_put_other (fun h => e (lk_inj h))]; exact h1 q'
 ·intro q' b' e zd
  replace e : (if q' = q then some b else f q') = some b' := e
  split at e
  ·rename_i e2; subst e2; cases e; rw [atKey_put_same hown.isMap hkl]
  ·rename_i e2; rw [atKey_put_other (fun h => e2 (lk_inj h))]; exact h2 q' b' e zd
 ·intro kl hkl2
  by_cases e : kl = lk q
  ·exact ⟨q, hq, e⟩
  ·rw [has_put_other e] at hkl2
   exact h3 kl hkl2
end
end Go.Proofs.YtbapgngngaaojaaGreat
namespace Go.Proofs.YtbapgngngaaojaaGreat
open Go.RowKit Go.Lib
set_option maxRecDepth 100000
def mayP (sz at_ : Nat) : Nat := if at_ % 8 = 0 then (if sz ≤ at_ then 12 else 0) else 13
theorem aligned8 (x : Nat) (w : World) (hx : x < 18446744073709551616) (b : Bool) (hb : (x % 8 == 0) = b) :
  Calls Tryz.prog 73 #[.int .u64 x, .int .i64 3] w fun e w' => e = .returned (.bool b) ∧ w' = w := by
 have h := aligned_nat x 3 w hx (by omega)
 rw [show (2 : Nat) ^ 3 = 8 from rfl, hb] at h
 exact h
theorem may_nat (p sz at_ : Nat) (w : World) (ha : at_ < 18446744073709551616) (c0 : w.cell? ⟨p, 0, none⟩ = some (.int .u64 sz)) :
  Calls Tryz.prog 61 #[.pointer (some ⟨p, 0, none⟩), .int .u64 at_] w fun e w' => e = .returned (.int .i64 (mayP sz at_)) ∧ w' = w := by
 unfold mayP
 by_cases h8 : at_ % 8 = 0
 ·have C1 := Lib.hid (fun w => aligned8 at_ w ha true (by simp [h8]))
  rw [if_pos h8]
  clear h8
  by_cases hs : sz ≤ at_
  ·rw [if_pos hs]
   have d : decide ((sz : Int) ≤ (at_ : Int)) = true := by simp; omega
   go_enter Tryz.func61, Tryz.ntmps61
   go_wp2_with (go_at_call 73; refine (C1.out _).mono ?_; rintro e w' ⟨rfl, rfl⟩)
   go_ret
   exact ⟨rfl, rfl⟩
  ·rw [if_neg hs]
   have d : decide ((sz : Int) ≤ (at_ : Int)) = false := by simp; omega
   go_enter Tryz.func61, Tryz.ntmps61
   go_wp2_with (go_at_call 73; refine (C1.out _).mono ?_; rintro e w' ⟨rfl, rfl⟩)
   go_ret
   exact ⟨rfl, rfl⟩
 ·have C1 := Lib.hid (fun w => aligned8 at_ w ha false (by simp [h8]))
  rw [if_neg h8]
  clear h8
  go_enter Tryz.func61, Tryz.ntmps61
  go_wp2_with (go_at_call 73; refine (C1.out _).mono ?_; rintro e w' ⟨rfl, rfl⟩)
  go_ret
  exact ⟨rfl, rfl⟩
theorem place_nat (at_ : Nat) (w : World) (ha : at_ < 18446744073709551616) :
  Calls Tryz.prog 62 #[.int .u64 at_] w fun e w' => e = .returned (.tuple #[.int .u64 (at_ / 4096 : Nat), .int .u64 (at_ % 4096 / 8 : Nat)]) ∧ w' = w := by
 go_enter Tryz.func62, Tryz.ntmps62
 go_wp2
 go_ret2
 exact ⟨rfl, rfl⟩
theorem size_nat (p sz : Nat) (w : World) (c0 : w.cell? ⟨p, 0, none⟩ = some (.int .u64 sz)) :
  Calls Tryz.prog 166 #[.pointer (some ⟨p, 0, none⟩)] w fun e w' => e = .returned (.int .u64 sz) ∧ w' = w := by
 go_enter Tryz.func166, Tryz.ntmps166
 go_wp2
 go_ret
 exact ⟨rfl, rfl⟩
def readP (sz : Nat) (rd : Nat → Nat) (at_ : Nat) : Nat × Nat := if mayP sz at_ = 0 then (rd at_, 0) else (0, mayP sz at_)
theorem read_nat {ok : Nat → Prop} {p sz : Nat} {rd : Nat → Nat} {w : World} (hm : MemAt w ok p sz rd) (at_ : Nat) (ha : at_ < 18446744073709551616) :
  Calls Tryz.prog 22 #[.pointer (some ⟨p, 0, none⟩), .int .u64 at_] w fun e w' => e = .returned (.tuple #[.int .u64 (readP sz rd at_).1, .int .i64 (readP sz rd at_).2]) ∧ w' = w := by
 have C1 := Lib.hid (fun w c0 => may_nat p sz at_ w ha c0)
 have C2 := Lib.hid (fun w => place_nat at_ w ha)
 obtain ⟨mb, f, c0, c1, _, _, hmap, hs, _⟩ := hm
 have HM := Lib.hid hmap
 clear hmap
 unfold readP
 by_cases h0 : mayP sz at_ = 0
 ·rw [if_pos h0]
  rw [h0] at C1
  have h8 : at_ % 8 = 0 := by unfold mayP at h0; split at h0 <;> omega
  have hpl := place_at at_ h8
  have hi : at_ % 4096 / 8 < 512 := by omega
  have hq : at_ / 4096 < 18446744073709551616 := by omega
  have hcell := hs.cell (at_ / 4096)
  have hzero := hs.zero (at_ / 4096)
  clear h0 h8 hs
  generalize at_ / 4096 = q at *
  generalize at_ % 4096 / 8 = i at *
  have Q2 := Lib.hid hq
  clear hq
  cases hf : f q with
  | some b =>
   have c2 := hcell b hf i hi
   rw [hpl] at c2
   have HF := Lib.hid hf
   have g1 : (0 : Int) ≤ (i : Int) := by omega
   have g2 : (i : Int) < 512 := by omega
   clear hcell hzero hf hpl
   generalize rd at_ = r at c2 ⊢
   go_enter Tryz.func22, Tryz.ntmps22
   go_wp2_with (first | (go_at_call 61; refine (C1.out _ c0).mono ?_; rintro e w' ⟨rfl, rfl⟩) | (go_at_call 62; refine (C2.out _).mono ?_; rintro e w' ⟨rfl, rfl⟩)| (at_lookup; refine wpList_lookup_sheet_some (by rfl) _ _ (by rfl) mb _ f (by rfl) HM.out q b Q2.out (by rfl) HF.out ?_))
   go_ret2
   exact ⟨rfl, rfl⟩
  | none =>
   have c2 := hzero hf i hi
   rw [hpl] at c2
   rw [c2]
   have HF := Lib.hid hf
   clear hcell hzero hf hpl c2
   go_enter Tryz.func22, Tryz.ntmps22
   go_wp2_with (first | (go_at_call 61; refine (C1.out _ c0).mono ?_; rintro e w' ⟨rfl, rfl⟩) | (go_at_call 62; refine (C2.out _).mono ?_; rintro e w' ⟨rfl, rfl⟩)| (at_lookup; refine wpList_lookup_sheet_none (by rfl) _ _ (by rfl) mb _ f (by rfl) HM.out q Q2.out (by rfl) HF.out ?_))
   go_ret2
   exact ⟨rfl, rfl⟩
 ·rw [if_neg h0]
  have hd : ((mayP sz at_ : Int) != 0) = true := by simp; omega
  clear h0 hs
  generalize mayP sz at_ = m at *
  go_enter Tryz.func22, Tryz.ntmps22
  go_wp2_with (first | (go_at_call 61; refine (C1.out _ c0).mono ?_; rintro e w' ⟨rfl, rfl⟩) | (go_at_call 62; refine (C2.out _).mono ?_; rintro e w' ⟨rfl, rfl⟩))
  go_ret2
  exact ⟨rfl, rfl⟩
end Go.Proofs.YtbapgngngaaojaaGreat
namespace Go.Proofs.YtbapgngngaaojaaGreat
open Go.RowKit Go.Lib
set_option maxRecDepth 100000
theorem zeroCells_sheet : Tryz.zeroCells156 = Array.replicate 512 (Value.int .u64 0) := by kernel_rfl
theorem new_sheet2 (w : World) (i x j : Nat) (hj : j < 512) (hi : i < 512) : (w.alloc (.cells (Tryz.zeroCells156.setIfInBounds i (Value.int .u64 x)) 156)).cell? ⟨w.heap.size, j, none⟩ = some (.int .u64 ((if j = i then x else 0 : Nat) : Int)) ∧ (w.alloc (.cells (Tryz.zeroCells156.setIfInBounds i (Value.int .u64 x)) 156)).frozen? ⟨w.heap.size, j, none⟩ = false := by
 rw [zeroCells_sheet]
 have hsz : ((Array.replicate 512 (Value.int .u64 0)).setIfInBounds i (Value.int .u64 x)).size = 512 := by simp
 have h1 := range_new w ((Array.replicate 512 (Value.int .u64 0)).setIfInBounds i (Value.int .u64 x)) 156 j (.int .u64 ((if j = i then x else 0 : Nat) : Int)) (by
  rw [Array.getElem?_toList, Array.getElem?_setIfInBounds]
  by_cases e : i = j
  ·subst e; simp [hi]
  ·rw [if_neg e, if_neg (fun h => e h.symm), Array.getElem?_replicate, if_pos hj]; rfl)
 have h2 := there_new w ((Array.replicate 512 (Value.int .u64 0)).setIfInBounds i (Value.int .u64 x)) 156 j (by rw [hsz]; exact hj)
 rw [Nat.zero_add] at h1 h2
 exact ⟨h1, h2.2⟩
/-- What a call leaves that writes into a memory. -/
def PutPost (ok : Nat → Prop) (p sz : Nat) (rd : Nat → Nat) (v : Value) (w : World) (e : Ending) (w' : World) : Prop :=
 e = .returned v ∧ MemAt w' (fun k => ok k ∨ w.heap.size ≤ k) p sz rd ∧ Kp ok w w'
theorem new_sheet (w : World) (i : Nat) (hi : i < 512) : (w.alloc (.cells (Array.replicate 512 (Value.int .u64 0)) 156)).cell? ⟨w.heap.size, i, none⟩ = some (.int .u64 0) ∧ (w.alloc (.cells (Array.replicate 512 (Value.int .u64 0)) 156)).frozen? ⟨w.heap.size, i, none⟩ = false := by
 have h1 := range_new w (Array.replicate 512 (Value.int .u64 0)) 156 i (.int .u64 0) (by rw [Array.toList_replicate, List.getElem?_replicate, if_pos hi])
 have h2 := there_new w (Array.replicate 512 (Value.int .u64 0)) 156 i (by simpa using hi)
 rw [Nat.zero_add] at h1 h2
 exact ⟨h1, h2.2⟩
set_option maxHeartbeats 1000000 in
theorem mput_nat {ok : Nat → Prop} {p sz : Nat} {rd : Nat → Nat} {w : World} (hm : MemAt w ok p sz rd) (at_ x : Nat) (hsz : sz ≤ 4294967296) (hal : sz % 4096 = 0) (h8 : at_ % 8 = 0) (ha : at_ < sz) (hx : x < 18446744073709551616) :
  Calls Tryz.prog 72 #[.pointer (some ⟨p, 0, none⟩), .int .u64 at_, .int .u64 x] w (PutPost ok p sz (putM rd at_ x) (.tuple #[]) w) := by
 have C2 := Lib.hid (fun w => place_nat at_ w (by omega))
 have hi : at_ % 4096 / 8 < 512 := by omega
 have hq : at_ / 4096 < sz / 4096 := by omega
 obtain ⟨mb, f, c0, c1, okp, okm, hmap, hs, hw⟩ := hm
 have hw' : Hid (∀ a, putM rd at_ x a < 18446744073709551616) := fun a => by unfold putM; split; exact hx; exact hw a
 have HM := Lib.hid hmap
 have hmlt := hmap.lt
 have hmp : mb ≠ p := fun e => by
  subst e
  obtain ⟨N, D, ⟨es, clock, hb, _⟩, _⟩ := hmap
  simp [World.cell?, hb] at c0
 clear hmap hw
 have HS := Lib.hid hs
 have Hok : Hid (ok p ∧ ok mb) := ⟨okp, okm⟩
 have g1 : (0 : Int) ≤ ((at_ % 4096 / 8 : Nat) : Int) := by omega
 have g2 : ((at_ % 4096 / 8 : Nat) : Int) < 512 := by omega
 have hplt := World.block_lt_of_cell? w _ c0
 dsimp only at hplt
 have HL : Hid (sz / 4096 ≤ 1073741824) := by show sz / 4096 ≤ 1073741824; omega
 have H8 := Lib.hid h8
 clear okp okm hs h8
 have QA : Hid (∀ q, q = at_ / 4096 → q < sz / 4096 ∧ q < 18446744073709551616) := fun q e => by subst e; exact ⟨hq, by omega⟩
 cases hf : f (at_ / 4096) with
 | some b =>
  have c2 := HS.out.cell _ b hf _ hi
  have f2 := HS.out.free _ b hf _ hi
  have hbok := (HS.out.mine _ b hf).1
  have HP := Lib.hid (HS.out.put at_ x b H8.out hf)
  have hbp : b ≠ p := fun e => by
   have h0 := HS.out.cell _ b hf 1 (by omega)
   rw [e, c1] at h0
   cases h0
  have hbm : mb ≠ b := fun e => by
   obtain ⟨N, D, ⟨es, clock, hb, _⟩, _⟩ := HM.out
   rw [← e] at c2
   simp [World.cell?, hb] at c2
  have HF := Lib.hid hf
  have HB : Hid (ok b ∧ b ≠ p ∧ mb ≠ b) := ⟨hbok, hbp, hbm⟩
  clear hf hbok HS hi hq hbp hbm H8
  generalize rd (at_ / 4096 * 4096 + 8 * (at_ % 4096 / 8)) = r at c2
  generalize hQ : at_ / 4096 = q at *
  have QB := QA.out q rfl
  have QC := Lib.hid QB
  clear QA QB hQ
  generalize at_ % 4096 / 8 = i at *
  go_enter Tryz.func72, Tryz.ntmps72
  go_wp2_with (first | (go_at_call 62; refine (C2.out _).mono ?_; rintro e w' ⟨rfl, rfl⟩) | (at_lookup; refine wpList_lookup_sheet_some (by rfl) _ _ (by rfl) mb _ f (by rfl) HM.out q b QC.out.2 (by rfl) HF.out ?_))
  go_end0
  refine ⟨rfl, ⟨mb, f, ?_, ?_, .inl Hok.out.1, .inl Hok.out.2, HM.out.setCell HB.out.2.2 _, HP.out.mono (fun _ _ h => .inl h), hw'.out⟩, (Kp.refl _ _).setCell (.inl HB.out.1) _⟩
  ·rw [World.cell?_setCell_other _ _ _ _ (fun e => HB.out.2.1 (by injection e))]; exact c0
  ·rw [World.cell?_setCell_other _ _ _ _ (fun e => HB.out.2.1 (by injection e))]; exact c1
 | none =>
  by_cases hx0 : x = 0
  ·subst hx0
   have HP := Lib.hid (HS.out.skip at_ H8.out hf)
   have HF := Lib.hid hf
   clear hf HS hi hq H8
   generalize hQ : at_ / 4096 = q at *
   have QB := QA.out q rfl
   have QC := Lib.hid QB
   clear QA QB hQ
   generalize at_ % 4096 / 8 = i at *
   go_enter Tryz.func72, Tryz.ntmps72
   go_wp2_with (first | (go_at_call 62; refine (C2.out _).mono ?_; rintro e w' ⟨rfl, rfl⟩) | (at_lookup; refine wpList_lookup_sheet_none (by rfl) _ _ (by rfl) mb _ f (by rfl) HM.out q QC.out.2 (by rfl) HF.out ?_))
   go_end0
   exact ⟨rfl, ⟨mb, f, c0, c1, .inl Hok.out.1, .inl Hok.out.2, HM.out, HP.out.mono (fun _ _ h => .inl h), hw'.out⟩, Kp.refl _ _⟩
  ·have hd : ((x : Int) != 0) = true := by simp; omega
   have HF := Lib.hid hf
   have HI := Lib.hid hi
   clear hf hi hq hx0
   have QA2 : Hid (at_ / 4096 = at_ / 4096 ∧ at_ % 4096 / 8 = at_ % 4096 / 8) := ⟨rfl, rfl⟩
   generalize hQ : at_ / 4096 = q at C2 HF QA
   generalize hI : at_ % 4096 / 8 = i at C2 g1 g2 HI
   have QB := QA.out q rfl
   replace QA2 : Hid (at_ / 4096 = q ∧ at_ % 4096 / 8 = i) := ⟨hQ, hI⟩
   have QC := Lib.hid QB
   clear QA QB hQ hI
   have hz : Tryz.zeroCells156[i]? = some (.int .u64 0) := by
    rw [zeroCells_sheet, Array.getElem?_replicate, if_pos HI.out]
   go_enter Tryz.func72, Tryz.ntmps72
   go_wp2_with (first | (go_at_call 62; refine (C2.out _).mono ?_; rintro e w' ⟨rfl, rfl⟩) | (at_lookup; refine wpList_lookup_sheet_none (by rfl) _ _ (by rfl) mb _ f (by rfl) HM.out q QC.out.2 (by rfl) HF.out ?_) | (at_mapUpdate; refine wpList_mapUpdate_sheet (by rfl) _ _ _ (by rfl) mb _ f (by rfl) (HM.out.kept ((Kp.refl (fun _ => False) w').alloc _) (fun h => h)) q w'.heap.size HL.out QC.out.1 (by rfl) (by rfl) ?_; intro W hmap2 hkp hsz2))
   go_end0
   have hk0 : ∀ F, Kp F w' (w'.alloc (Obj.cells (Tryz.zeroCells156.setIfInBounds i (Value.int IntKind.u64 ↑x)) 156)) := fun F => (Kp.refl F w').alloc _
   have hk1 := (hk0 (fun k => k = mb)).trans hkp (fun i h => .inl h)
   have hadd := HS.out.add at_ x w'.heap.size H8.out (by rw [QA2.out.1]; exact HF.out) hk1 (HS.out.neMap HM.out) (Nat.le_refl _) (by rw [hsz2]; simp) (by
    intro j hj
    rw [QA2.out.2]
    have h3 := new_sheet2 w' i x j hj HI.out
    refine ⟨hkp.cell h3.1 (by omega), ?_⟩
    rw [hkp.frozen (by simp) (by omega)]
    exact h3.2)
   rw [QA2.out.1] at hadd
   exact ⟨rfl, ⟨mb, _, hk1.cell c0 (fun e => hmp e.symm), hk1.cell c1 (fun e => hmp e.symm), .inl Hok.out.1, .inl Hok.out.2, hmap2, hadd, hw'.out⟩, hk1.mono (fun i e => by rw [e]; exact Hok.out.2)⟩
end Go.Proofs.YtbapgngngaaojaaGreat
namespace Go.Proofs.YtbapgngngaaojaaGreat
open Go.RowKit Go.Lib Go.Maps
set_option maxRecDepth 100000
def MapSays (D : DataW Unit) (lim : Nat) (f : Nat → Option Nat) : Prop :=
 (∀ q, (f q).isSome = has D (lk q)) ∧ (∀ q b, f q = some b → ∀ zd, D.atKey (lk q) zd = .lit (.int .u64 b)) ∧ (∀ kl, has D kl = true → ∃ q, q < lim ∧ kl = lk q)
section
variable {w : World} {ops : Array Oper} {rest : List Oper} {o : Oper} {a : Act} {Q : Exit → Act → World → Prop}
theorem wpList_next_sheet (hg : o.guard = none) (it : Operand) (hop : o.op = Op.next it false) (b r n lim : Nat) (D : DataW Unit) (f : Nat → Option Nat) (hD : MapSays D lim f) (left : Lit → Bool) (cnt : Nat)
  (hit : a.eval it = .pointer (some ⟨r, 0, none⟩)) (h : w.ranges Tryz.prog 23 sheetElem b r n D left cnt) (hl : ∀ kl, left kl = true → has D kl = true)
  (hDone : cnt = 0 → (∀ kl, left kl = false) → wpList Tryz.prog ops Q rest (a.put o.dst (.tuple #[.bool false])) w)
  (hMore : ∀ (q c : Nat) (w' : World) (cnt' : Nat), f q = some c → q < lim → left (lk q) = true → w'.ranges Tryz.prog 23 sheetElem b r n D (fun z => left z && !z.sameKey (lk q)) cnt' → cnt' < cnt →
   w.grownBy w' (some r) → w'.heap.size = w.heap.size → (Instr.entry (.pointer (some ⟨r, 0, none⟩))).run Tryz.prog w' = .ok (.tuple #[.int .u64 q, .pointer (some ⟨c, 0, none⟩)]) w' → wpList Tryz.prog ops Q rest (a.put o.dst (.tuple #[.bool true, .int .u64 q, .pointer (some ⟨c, 0, none⟩)])) w') :
  wpList Tryz.prog ops Q (o :: rest) a w := by
 refine wpList_next_ranges w hg it hop 23 keyed64 sheetElem (Value.int .u64) (fun c : Option Nat => match c with | some b => .pointer (some ⟨b, 0, none⟩) | none => .pointer none)
  (fun key kl hkey => by obtain ⟨x, rfl, _⟩ := Maps.keyOf_int_inv Tryz.underlying23 hkey; exact ⟨x, rfl⟩)
  (fun v y hv => by
   unfold sheetElem at hv
   split at hv
   ·rename_i b; exact ⟨some b, rfl⟩
   ·exact ⟨none, rfl⟩
   ·cases hv)
  b r n D left cnt hit h hDone ?_
 intro x c kl y w' cnt' hkey hlk hv hat hrg hlt hgr hsz hen
 obtain ⟨x', ex, rfl, _⟩ := Maps.keyOf_int_inv Tryz.underlying23 hkey
 cases ex
 obtain ⟨q, hq, e⟩ := hD.2.2 _ (hl _ hlk)
 have e2 : x = (q : Int) := by injection e
 subst e2
 have hf : (f q).isSome = true := by rw [hD.1]; exact hl _ hlk
 obtain ⟨b', hb'⟩ := Option.isSome_iff_exists.1 hf
 have h9 := hD.2.1 q b' hb' .nil
 have h10 := hat .nil
 have h11 : y.1 = .lit (.int .u64 b') := h10.symm.trans h9
 obtain ⟨y1, y2⟩ := y
 subst h11
 have h12 := sheetElem_inv hv
 cases c with
 | none => cases h12
 | some b2 =>
  have : b2 = b' := by injection h12 with h13; injection h13 with h14; injection h14
  subst this
  exact hMore q b2 w' cnt' hb' hq hlk hrg hlt hgr hsz hen
end
/-- How many of the first k are not 0. -/
def cntN (g : Nat → Nat) : Nat → Nat
 | 0 => 0
 | k + 1 => cntN g k + if g k = 0 then 0 else 1
theorem cntN_le (g : Nat → Nat) : ∀ k, cntN g k ≤ k
 | 0 => Nat.le_refl _
 | k + 1 => by have := cntN_le g k; unfold cntN; split <;> omega
theorem cntN_zero (g : Nat → Nat) : ∀ k, (∀ i, i < k → g i = 0) → cntN g k = 0
 | 0, _ => rfl
 | k + 1, h => by unfold cntN; rw [cntN_zero g k (fun i hi => h i (by omega)), if_pos (h k (by omega))]
def sumN (g : Nat → Nat) : Nat → Nat
 | 0 => 0
 | k + 1 => sumN g k + g k
theorem sumN_congr {g h : Nat → Nat} : ∀ k, (∀ i, i < k → g i = h i) → sumN g k = sumN h k
 | 0, _ => rfl
 | k + 1, e => by unfold sumN; rw [sumN_congr k (fun i hi => e i (by omega)), e k (by omega)]
theorem sumN_le {g : Nat → Nat} {c : Nat} (h : ∀ i, g i ≤ c) : ∀ k, sumN g k ≤ k * c
 | 0 => by simp [sumN]
 | k + 1 => by unfold sumN; have := sumN_le h k; have := h k; rw [Nat.add_mul]; omega
theorem sumN_zero : ∀ k, sumN (fun _ => 0) k = 0
 | 0 => rfl
 | k + 1 => by unfold sumN; rw [sumN_zero k]
/-- One more. -/
theorem sumN_more {g h : Nat → Nat} {q c : Nat} (hq : g q = 0) (hc : h q = c) (ho : ∀ i, i ≠ q → h i = g i) : ∀ k, q < k → sumN h k = sumN g k + c
 | 0, hk => absurd hk (by omega)
 | k + 1, hk => by
  unfold sumN
  by_cases e : k = q
  ·subst e
   rw [sumN_congr k (fun i hi => ho i (by omega)), hq, hc]
   omega
  ·rw [sumN_more hq hc ho k (by omega), ho k e]
   omega
theorem cntN_add (g : Nat → Nat) (a : Nat) : ∀ b, cntN g (a + b) = cntN g a + cntN (fun i => g (a + i)) b
 | 0 => by simp [cntN]
 | b + 1 => by
  rw [← Nat.add_assoc]
  show cntN g (a + b) + _ = cntN g a + (cntN (fun i => g (a + i)) b + _)
  rw [cntN_add g a b, Nat.add_assoc]
theorem sum_cnt' (g : Nat → Nat) (n : Nat) : ∀ k, sumN (fun q => cntN (fun i => g (q * n + i)) n) k = cntN g (k * n)
 | 0 => by simp [sumN, cntN]
 | k + 1 => by
  have h := sum_cnt' g n k
  unfold sumN
  rw [h, Nat.add_mul, Nat.one_mul, cntN_add]
theorem sum_cnt (rd : Nat → Nat) (k : Nat) : sumN (fun q => cntN (fun i => rd (q * 4096 + 8 * i)) 512) k = cntN (fun j => rd (8 * j)) (k * 512) := by
 rw [← sum_cnt' (fun j => rd (8 * j)) 512 k]
 refine sumN_congr k fun q _ => ?_
 refine congrFun (congrArg cntN ?_) 512
 funext i
 rw [show q * 4096 + 8 * i = 8 * (q * 512 + i) by omega]
/-- The words of a memory that are not 0. -/
def wordsM (sz : Nat) (rd : Nat → Nat) : Nat := cntN (fun j => rd (8 * j)) (sz / 4096 * 512)
end Go.Proofs.YtbapgngngaaojaaGreat
namespace Go.Proofs.YtbapgngngaaojaaGreat
open Go.RowKit Go.Lib Go.Maps
set_option maxRecDepth 100000
theorem mayP_ok {sz at_ : Nat} (h0 : mayP sz at_ = 0) : at_ % 8 = 0 ∧ at_ < sz := by
 unfold mayP at h0
 by_cases h : at_ % 8 = 0
 ·rw [if_pos h] at h0
  by_cases h2 : sz ≤ at_
  ·rw [if_pos h2] at h0; omega
  ·omega
 ·rw [if_neg h] at h0; omega
def writeP (sz : Nat) (rd : Nat → Nat) (at_ x : Nat) : Nat → Nat := if mayP sz at_ = 0 then putM rd at_ x else rd
theorem write_nat {ok : Nat → Prop} {p sz : Nat} {rd : Nat → Nat} {w : World} (hm : MemAt w ok p sz rd) (at_ x : Nat) (hsz : sz ≤ 4294967296) (hal : sz % 4096 = 0) (ha : at_ < 18446744073709551616) (hx : x < 18446744073709551616) :
  Calls Tryz.prog 29 #[.pointer (some ⟨p, 0, none⟩), .int .u64 at_, .int .u64 x] w (PutPost ok p sz (writeP sz rd at_ x) (.int .i64 (mayP sz at_)) w) := by
 have C1 := Lib.hid (may_nat p sz at_ w ha hm.cell0)
 unfold writeP
 by_cases h0 : mayP sz at_ = 0
 ·rw [if_pos h0]
  rw [h0] at C1 ⊢
  have h8 := mayP_ok h0
  have C2 := Lib.hid (mput_nat hm at_ x hsz hal h8.1 h8.2 hx)
  clear h0 h8 hm
  generalize putM rd at_ x = rd2 at *
  go_enter Tryz.func29, Tryz.ntmps29
  go_wp2_with (first | (go_at_call 61; refine C1.out.mono ?_; rintro e w' ⟨rfl, rfl⟩) | (go_at_call 72; refine C2.out.mono ?_; rintro e w1 ⟨rfl, h1, h2⟩))
  go_ret
  exact ⟨rfl, h1, h2⟩
 ·rw [if_neg h0]
  have hd : ((mayP sz at_ : Int) != 0) = true := by simp; omega
  have HM := Lib.hid hm
  clear h0 hm
  generalize mayP sz at_ = m at *
  go_enter Tryz.func29, Tryz.ntmps29
  go_wp2_with (first | (go_at_call 61; refine C1.out.mono ?_; rintro e w' ⟨rfl, rfl⟩))
  go_ret
  exact ⟨rfl, HM.out.mono (fun _ _ h => .inl h), Kp.refl _ _⟩
def NewPost (sz : Nat) (w : World) (e : Ending) (w' : World) : Prop :=
 ∃ p, e = .returned (.tuple #[.pointer (some ⟨p, 0, none⟩), .int .i64 0]) ∧ MemAt w' (fun k => w.heap.size ≤ k) p sz (fun _ => 0) ∧ Below w.heap.size w w'
theorem memNew_nat (sz : Nat) (w : World) (h1 : 65536 ≤ sz) (h2 : sz ≤ 4294967296) (h3 : sz % 4096 = 0) :
  Calls Tryz.prog 30 #[.int .u64 sz] w (NewPost sz w) := by
 have C1 : Hid (∀ w, Calls Tryz.prog 73 #[.int .u64 sz, .int .i64 12] w fun e w' => e = .returned (.bool true) ∧ w' = w) := fun w => by
  have h := aligned_nat sz 12 w (by omega) (by omega)
  rw [show (sz % 2 ^ 12 == 0) = true by simp; omega] at h
  exact h
 have d1 : decide ((sz : Int) < 65536) = false := by simp; omega
 have d2 : decide ((4294967296 : Int) < (sz : Int)) = false := by simp; omega
 have hmm := @run_makeMap Tryz.prog
 clear h3
 go_enter Tryz.func30, Tryz.ntmps30
 go_wp2_with (first | (go_at_call 73; refine (C1.out _).mono ?_; rintro e w' ⟨rfl, rfl⟩))
 go_ret2
 refine ⟨w'.heap.size + 1, rfl, ⟨w'.heap.size, fun _ => none, by simp, by simp, by simp, by simp, ?_, ?_, ?_⟩, (below1 _ _).alloc (by simp) _⟩
 ·exact (MapIs.new w' (sz / 4096)).kept (Kp.ofBelow (F := fun _ => False) (below1 _ _)) (fun h => h)
 ·exact ⟨by intro q b h; simp at h, by intro q b h; simp at h, by intro q b h; simp at h, by intro q q' b h; simp at h, fun _ _ _ _ => rfl⟩
 ·intro a; simp
theorem count_nat (b : Nat) (g : Nat → Nat) (w : World) (hc : ∀ i, i < 512 → w.cell? ⟨b, i, none⟩ = some (.int .u64 (g i))) :
  Calls Tryz.prog 90 #[.pointer (some ⟨b, 0, none⟩)] w fun e w' => e = .returned (.int .i64 (cntN g 512)) ∧ w' = w := by
 have HC := Lib.hid hc
 clear hc
 go_enter Tryz.func90, Tryz.ntmps90
 go_wp2
 go_loop [3, 7] (fun nv iv => ∃ i : Nat, iv = .int .i64 i ∧ i ≤ 512 ∧ nv = .int .i64 (cntN g i)) (fun _ iv => 512 - (RowKit.intOf iv).toNat)
 case atStart => exact ⟨0, rfl, by omega, rfl⟩
 case round =>
  obtain ⟨i, rfl, hi, rfl⟩ := hrel
  by_cases hlt : i < 512
  ·have c := HC.out i hlt
   have g1 : (0 : Int) ≤ (i : Int) := by omega
   have g2 : (i : Int) < 512 := by omega
   have hle := cntN_le g i
   by_cases hz : g i = 0
   ·have hn : Hid (cntN g (i + 1) = cntN g i) := by show cntN g i + _ = _; rw [if_pos hz]; rfl
    rw [hz] at c
    clear hz
    generalize cntN g i = n at *
    go_wp2
    go_round
    case rel => exact ⟨i + 1, by first | rfl | go_num, by omega, by rw [hn.out]⟩
    case measure => simp [RowKit.intOf]; omega
   ·have hn : Hid (cntN g (i + 1) = cntN g i + 1) := by show cntN g i + _ = _; rw [if_neg hz]
    have hd : ((g i : Int) != 0) = true := by simp; omega
    clear hz
    generalize cntN g i = n at *
    generalize g i = gi at *
    go_wp2
    go_round
    case rel => exact ⟨i + 1, by first | rfl | go_num, by omega, by rw [hn.out]; first | rfl | go_num⟩
    case measure => simp [RowKit.intOf]; omega
  ·obtain rfl : i = 512 := by omega
   go_wp2
   go_ret
   exact ⟨rfl, rfl⟩
set_option maxHeartbeats 1000000 in
theorem words_nat {ok : Nat → Prop} {p sz : Nat} {rd : Nat → Nat} {w : World} (hm : MemAt w ok p sz rd) (hsz : sz ≤ 4294967296) :
  Calls Tryz.prog 42 #[.pointer (some ⟨p, 0, none⟩)] w fun e w' => e = .returned (.int .i64 (wordsM sz rd)) ∧ Below w.heap.size w w' := by
 obtain ⟨mb, f, c0, c1, _, _, hmap, hs, _⟩ := hm
 obtain ⟨N, D, hown, hD⟩ := hmap
 have HD : Hid (MapSays D (sz / 4096) f) := hD
 have HO := Lib.hid hown
 have HS := Lib.hid hs
 have hmlt := hown.lt
 clear hown hD hs c0
 let S : (Lit → Bool) → Nat := fun left => sumN (fun q => if (f q).isSome = true ∧ left (lk q) = false then cntN (fun i => rd (q * 4096 + 8 * i)) 512 else 0) (sz / 4096)
 have hS0 : Hid (S (Maps.has D) = 0) := by
  show sumN _ _ = 0
  rw [sumN_congr (h := fun _ => 0) _ (fun q _ => if_neg (fun h => by rw [HD.out.1 q, h.2] at h; exact absurd h.1 (by simp))), sumN_zero]
 have hS1 : ∀ left : Lit → Bool, (∀ kl, left kl = false) → S left = wordsM sz rd := by
  intro left h
  unfold wordsM
  rw [← sum_cnt]
  refine sumN_congr _ fun q _ => ?_
  by_cases hf : (f q).isSome = true
  ·rw [if_pos ⟨hf, h _⟩]
  ·rw [if_neg (fun h => hf h.1)]
   exact (cntN_zero _ _ (fun i hi => HS.out.zero q (by simpa using hf) i hi)).symm
 have hS2 : ∀ (left : Lit → Bool) (q : Nat), q < sz / 4096 → (f q).isSome = true → left (lk q) = true → S (fun z => left z && !z.sameKey (lk q)) = S left + cntN (fun i => rd (q * 4096 + 8 * i)) 512 := by
  intro left q hq hf hl
  have hself : (lk q).sameKey (lk q) = true := WideAt.sameKey_self (by simp [WideAt.IsKeyLit, lk])
  show sumN _ _ = sumN _ _ + _
  refine sumN_more (q := q) ?_ ?_ ?_ _ hq
  ·exact if_neg (by rw [hl]; simp)
  ·exact if_pos ⟨hf, by simp [hself]⟩
  intro i hi
  have hne : (lk i).sameKey (lk q) = false := sameKey_ne (fun h => hi (lk_inj h))
  simp [hne]
 have hS3 : ∀ left, S left ≤ 1048576 * 512 := fun left => Nat.le_trans (sumN_le (c := 512) (fun i => by split; exact cntN_le _ _; omega) _) (by omega)
 have H0 := Lib.hid hS0
 have H1 := Lib.hid hS1
 have H2 := Lib.hid hS2
 have H3 := Lib.hid hS3
 clear hS0 hS1 hS2 hS3
 clear_value S
 go_enter Tryz.func42, Tryz.ntmps42
 go_wp2_with (at_range; refine wpList_range_own _ (by rfl) _ 146 (by rfl) 23 144 keyed64 Tryz.underlying146 sheetElem mb N D (by rfl) HO.out ?_; intro w0 hrg0 hg0 hs0)
 go_frame
 have HR := Lib.hid hrg0
 have HB : Hid (Below w.heap.size w w0) := (Kp.refl (fun _ => False) w).grown hg0 (fun _ h => by cases h) |>.below' (fun _ h => h.elim)
 clear hrg0 hg0
 have HRW : Hid (w.heap.size = w.heap.size) := rfl
 generalize hr : w.heap.size = r at HR HB hmlt hs0 ⊢
 replace HRW : Hid (r = w.heap.size) := hr.symm
 clear hr
 go_loopw [3, 12] (fun nv _ wr => ∃ left cnt, nv = .int .i64 (S left) ∧ Hid (wr.ranges Tryz.prog 23 sheetElem mb r N D left cnt) ∧ Hid (∀ kl, left kl = true → Maps.has D kl = true) ∧ Hid (Below r w wr)) (fun _ _ wr => wr.rangeLeft mb r)
 case atStart => exact ⟨_, _, by rw [H0.out]; rfl, HR, fun _ h => h, HB⟩
 case round =>
  obtain ⟨left, cnt, rfl, HR, HL, HB⟩ := hrel
  have hle := H3.out left
  go_wp2_with (at_next; refine wpList_next_sheet (by rfl) _ (by rfl) mb r N (sz / 4096) D f HD.out left cnt (by rfl) HR.out HL.out ?_ ?_)
  ·intro _ hl0
   have HF := Lib.hid (H1.out left hl0)
   clear hl0
   go_wp2
   go_ret
   exact ⟨by rw [HF.out]; rfl, by rw [← HRW.out]; exact HB.out⟩
  ·intro q c w1 cnt1 hf hq hl hrg1 hlt hg1 hs1 hen
   have HN := Lib.hid (H2.out left q hq (by rw [hf]; rfl) hl)
   have HR1 := Lib.hid hrg1
   have HL1 : Hid (∀ kl, (left kl && !kl.sameKey (lk q)) = true → Maps.has D kl = true) := fun kl h => HL.out kl (by simp at h; exact h.1)
   have hrb : w.heap.size ≤ r := by rw [← HRW.out]; exact Nat.le_refl _
   have HB1 : Hid (Below r w w1) := HB.out.trans ⟨hg1.os, hg1.tape, hg1.output, hg1.size, fun k hk => hg1.block k (by have := HR.out.lt; omega) (fun e => by have := Option.some.inj e; omega)⟩
   have hltm : Hid (w1.rangeLeft mb r < wr.rangeLeft mb r) := by rw [Hid, hrg1.left_eq, HR.out.left_eq]; exact hlt
   have HC : Hid (∀ w, (∀ i, i < 512 → w.cell? ⟨c, i, none⟩ = some (.int .u64 (rd (q * 4096 + 8 * i)))) → Calls Tryz.prog 90 #[.pointer (some ⟨c, 0, none⟩)] w fun e w' => e = .returned (.int .i64 (cntN (fun i => rd (q * 4096 + 8 * i)) 512)) ∧ w' = w) := fun w h => count_nat c _ w h
   have hcl := (HS.out.mine q c hf).2
   have HCC : Hid (∀ i, i < 512 → w1.cell? ⟨c, i, none⟩ = some (.int .u64 (rd (q * 4096 + 8 * i)))) := fun i hi => by
    rw [HB1.out.cell (p := ⟨c, i, none⟩) (by rw [HRW.out]; exact hcl)]
    exact HS.out.cell q c hf i hi
   have hcn := cntN_le (fun i => rd (q * 4096 + 8 * i)) 512
   clear hl hrg1 hlt hg1 hs1 hf hq hcl
   generalize cntN (fun i => rd (q * 4096 + 8 * i)) 512 = K at *
   go_wp2_with (first | (go_at_call 90; refine (HC.out _ HCC.out).mono ?_; rintro e w' ⟨rfl, rfl⟩))
   go_roundw
   case rel => exact ⟨_, _, by first | rfl | (rw [HN.out]; first | rfl | go_num), HR1, HL1, HB1⟩
   case measure => exact hltm.out
end Go.Proofs.YtbapgngngaaojaaGreat
namespace Go.Proofs.YtbapgngngaaojaaGreat
open Go.RowKit Go.Lib
set_option maxRecDepth 100000
def stepCells (l : List (Nat × Nat)) : List Value := l.flatMap fun s => [.int .u64 s.1, .int .u64 s.2]
theorem stepCells_snoc (l : List (Nat × Nat)) (a b : Nat) : stepCells (l ++ [(a, b)]) = stepCells l ++ [.int .u64 a, .int .u64 b] := by simp [stepCells]
theorem stepCells_len (l : List (Nat × Nat)) : (stepCells l).length = l.length * 2 := by
 induction l with
 | nil => rfl
 | cons a l ih => show ([_, _] ++ stepCells l).length = _; rw [List.length_append, ih]; simp; omega
/-- A walker at block p, of memory m, that has read steps, in rows of F. -/
def WkAt (F : Nat → Prop) (p m : Nat) (steps : List (Nat × Nat)) (w : World) : Prop :=
 ¬ F p ∧ (∀ k, F k → k < w.heap.size) ∧ w.cell? ⟨p, 0, none⟩ = some (.pointer (some ⟨m, 0, none⟩)) ∧ w.frozen? ⟨p, 1, none⟩ = false ∧ ∃ v, w.cell? ⟨p, 1, none⟩ = some v ∧ RowAt w F 2 v steps.length (stepCells steps)
theorem WkAt.kept {F G : Nat → Prop} {p m : Nat} {steps : List (Nat × Nat)} {w w' : World} (h : WkAt F p m steps w) (hk : Kp G w w') (hp : ¬ G p) (hF : ∀ k, F k → ¬ G k) : WkAt F p m steps w' := by
 obtain ⟨h0, h1, h2, h3, v, h4, h5⟩ := h
 exact ⟨h0, fun k hF => Nat.lt_of_lt_of_le (h1 k hF) hk.size, hk.cell h2 hp, (hk.frozen (World.block_lt_of_cell? w _ h2) hp).trans h3, v, hk.cell h4 hp, h5.kept hk hF⟩
theorem WkAt.below {F : Nat → Prop} {p m : Nat} {steps : List (Nat × Nat)} {w w' : World} (h : WkAt F p m steps w) (hb : Below w.heap.size w w') : WkAt F p m steps w' := h.kept (G := fun _ => False) (.ofBelow hb) (fun x => x) (fun _ _ x => x)
theorem WkAt.lt {F : Nat → Prop} {p m : Nat} {steps : List (Nat × Nat)} {w : World} (h : WkAt F p m steps w) : p < w.heap.size := World.block_lt_of_cell? w _ h.2.2.1
/-- The blocks of a walker. -/
def WkF (F : Nat → Prop) (p : Nat) : Nat → Prop := fun k => k = p ∨ F k
theorem infoStep : (Tryz.prog.info? 81).map (fun i => (i.zero, i.size, i.bytes)) = some (some (.agg #[.int .u64 0, .int .u64 0]), 2, 16) := by kernel_rfl
theorem cell_two_new (w : World) (a b : Value) (t : TypeId) : ∀ j u, [a, b][j]? = some u → (w.alloc (.cells #[a, b] t)).cell? ((⟨w.heap.size, 0, none⟩ : Addr).add j) = some u := by
 intro j u h
 rw [Addr.add_mid]
 exact range_new w #[a, b] t j u h
theorem wread_no {ok F : Nat → Prop} {p m sz : Nat} {rd : Nat → Nat} {steps : List (Nat × Nat)} {w : World} (hm : MemAt w ok m sz rd) (hk : WkAt F p m steps w) (table index : Nat) (ht : table < 281474976710656) (hi : index < 512)
  (h0 : mayP sz (table + index * 8) ≠ 0) :
  Calls Tryz.prog 150 #[.pointer (some ⟨p, 0, none⟩), .int .u64 table, .int .i64 index] w fun e w' => e = .returned (.tuple #[.int .u64 0, .bool false]) ∧ w' = w := by
 have C1 := Lib.hid (read_nat hm (table + index * 8) (by omega))
 unfold readP at C1
 rw [if_neg h0] at C1
 obtain ⟨_, h1, c0, h3, v, c1, h5⟩ := hk
 clear h1
 have e1 : IntKind.u64.wrap (IntKind.u64.wrap (index : Int) * 8) = ((index * 8 : Nat) : Int) := by rw [IntKind.wrap_u64, IntKind.wrap_u64]; omega
 have hd : ((mayP sz (table + index * 8) : Int) != 0) = true := by simp; omega
 clear h0 h5 hm
 generalize mayP sz (table + index * 8) = M at *
 have e2 : (table : Int) + (index : Int) * 8 = ((table + index * 8 : Nat) : Int) := by omega
 have e3 : table + index * 8 < 18446744073709551616 := by omega
 generalize table + index * 8 = A at *
 go_enter Tryz.func150, Tryz.ntmps150
 go_wp2_with (go_at_call 22; refine C1.out.mono ?_; rintro e w' ⟨rfl, rfl⟩)
 go_ret2
 exact ⟨rfl, rfl⟩
set_option maxHeartbeats 1000000 in
theorem wread_ok {ok F : Nat → Prop} {p m sz : Nat} {rd : Nat → Nat} {steps : List (Nat × Nat)} {w : World} (hm : MemAt w ok m sz rd) (hk : WkAt F p m steps w) (table index : Nat) (ht : table < 281474976710656) (hi : index < 512) (hl : steps.length ≤ 8)
  (h0 : mayP sz (table + index * 8) = 0) :
  Calls Tryz.prog 150 #[.pointer (some ⟨p, 0, none⟩), .int .u64 table, .int .i64 index] w fun e w' =>
   e = .returned (.tuple #[.int .u64 (rd (table + index * 8)), .bool true]) ∧ WkAt (Gr F w w') p m (steps ++ [(table + index * 8, rd (table + index * 8))]) w' ∧ Kp (WkF F p) w w' := by
 have C1 := Lib.hid (read_nat hm (table + index * 8) (by omega))
 unfold readP at C1
 rw [if_pos h0] at C1
 obtain ⟨hnp, h1, c0, f1, v, c1, hrow⟩ := hk
 obtain ⟨A0, c0', rfl⟩ := hrow.form
 have hplt := World.block_lt_of_cell? w _ c0
 dsimp only at hplt
 have HR := Lib.hid hrow
 have H1 := Lib.hid h1
 have HN := Lib.hid hnp
 have e1 : IntKind.u64.wrap (IntKind.u64.wrap (index : Int) * 8) = ((index * 8 : Nat) : Int) := by rw [IntKind.wrap_u64, IntKind.wrap_u64]; omega
 clear h0 hrow hm h1 hnp
 have e2 : (table : Int) + (index : Int) * 8 = ((table + index * 8 : Nat) : Int) := by omega
 have e3 : table + index * 8 < 18446744073709551616 := by omega
 generalize table + index * 8 = A at *
 generalize rd A = R at *
 obtain ⟨i0, hi0, hz0, hz1, hz2⟩ := info_parts infoStep
 have I0 := Lib.hid hi0
 have I1 := Lib.hid hz0
 have I2 := Lib.hid hz1
 have I3 := Lib.hid hz2
 have HL := Lib.hid hl
 clear hi0 hz0 hz1 hz2 hl
 go_enter Tryz.func150, Tryz.ntmps150
 go_wp2_with (first | (go_at_call 22; refine C1.out.mono ?_; rintro e w' ⟨rfl, rfl⟩) | (at_builtin; refine wpList_append_row (by rfl) _ _ 22 (by rfl) 81 i0 (.agg #[.int .u64 0, .int .u64 0]) 2 16 Tryz.underlying22 I0.out I1.out I2.out I3.out rfl (by omega) F (.slice A0 steps.length c0') steps.length (stepCells steps) (by rfl) (HR.out.below (below1 _ _)) ⟨w'.heap.size, 0, none⟩ 1 1 [.int .u64 A, .int .u64 R] (by rfl) (by omega) rfl (cell_two_new _ _ _ _) (by intro u hu; simp at hu; rcases hu with rfl | rfl <;> rfl) (by have := HL.out; unfold maxLen; omega) (by have := HL.out; omega) ?_; intro A1 c3 W hrow1 hkp1; have hkp : Hid (Kp F w' W) := ((Kp.refl _ w').alloc _).trans hkp1 (fun i h => .inl h); have hrow2 := Lib.hid hrow1; have k0 := hkp.out.cell c0 HN.out; have k1 := hkp.out.cell c1 HN.out; have kf : W.frozen? ⟨p, 1, none⟩ = false := (hkp.out.frozen hplt HN.out).trans f1; clear hkp1 hrow1))
 go_ret2
 have hk2 : Kp (WkF F p) w' W := hkp.out.mono (fun _ h => .inr h)
 have hG : ¬ Gr F w' W p := Gr.not HN.out hplt
 refine ⟨rfl, ⟨fun h => HN.out (h.old hplt), fun k h => by have := Gr.lt H1.out hkp.out.size k (by rcases h with h | h; exact .inl h; exact .inr ⟨h.1, by simpa using h.2⟩); simpa using this, ?_, by rw [World.frozen?_setCell]; exact kf, _, World.cell?_setCell_same _ _ _ k1, ?_⟩, hk2.setCell (.inl (.inl rfl)) _⟩
 ·rw [World.cell?_setCell_other _ _ _ _ (fun e => by injection e with _ e2 _; cases e2)]; exact k0
 ·rw [stepCells_snoc, List.length_append]
  have hk3 := (Kp.refl (fun k => k = p) W).setCell (p := ⟨p, 1, none⟩) (.inl rfl) (Value.slice A1 (steps.length + 1) c3)
  refine ((hrow2.out.mono (ok2 := Gr F w' W) ?_).kept hk3 (fun k h e => hG (e ▸ h))).mono ?_
  ·intro k hk h
   rcases h with h | h
   ·exact .inl h
   ·simp only [World.size_alloc] at h
    exact .inr ⟨by omega, hk⟩
  ·intro k hk h
   rcases h with h | h
   ·exact .inl h
   ·exact .inr ⟨h.1, hk⟩
end Go.Proofs.YtbapgngngaaojaaGreat
namespace Go.Proofs.YtbapgngngaaojaaGreat
open Go.RowKit Go.Lib
set_option maxRecDepth 100000
def insideP (sz level out : Nat) : Bool := decide (out ≤ sz) && decide (2 ^ bitsL level ≤ sz - out)
theorem inside_nat (m sz level K out attr : Nat) (b1 b2 b3 b4 : Bool) (w : World) (hl : level ≤ 3) (hs : sz < 9223372036854775808) (ho : out < 18446744073709551616) (c0 : w.cell? ⟨m, 0, none⟩ = some (.int .u64 sz)) :
  Calls Tryz.prog 151 #[.pointer (some ⟨m, 0, none⟩), .int .i64 level, .agg #[.int .i64 K, .int .u64 out, .bool b1, .bool b2, .bool b3, .bool b4, .int .i64 attr]] w fun e w' => e = .returned (.bool (insideP sz level out)) ∧ Below w.heap.size w w' := by
 have C1 := Lib.hid (fun w => bits_nat level w hl)
 have C2 := Lib.hid (fun w => ones_nat (bitsL level) w (bitsL_lt level))
 have C3 := Lib.hid (fun w c0 => size_nat m sz w c0)
 have hp := pow_lt64 (bitsL_lt level)
 have hp0 := Nat.two_pow_pos (bitsL level)
 have e1 : IntKind.u64.wrap (((2 ^ bitsL level - 1 : Nat) : Int) + 1) = ((2 ^ bitsL level : Nat) : Int) := by
  generalize 2 ^ bitsL level = P at hp hp0 ⊢
  rw [IntKind.wrap_u64]; omega
 have e2 : ((2 ^ bitsL level - 1 : Nat) : Int) + 1 = ((2 ^ bitsL level : Nat) : Int) := by
  generalize 2 ^ bitsL level = P at hp hp0 ⊢
  omega
 unfold insideP
 have hle : 2 ^ bitsL level - 1 < 9223372036854775807 := by
  have : 2 ^ bitsL level ≤ 2 ^ 39 := Nat.pow_le_pow_right (by omega) (bitsL_le level)
  omega
 generalize 2 ^ bitsL level = P at *
 generalize P - 1 = P1 at *
 generalize bitsL level = B at *
 clear hp0
 have c9 := keep_cell (below1 w (.cells #[.int .i64 K, .int .u64 out, .bool b1, .bool b2, .bool b3, .bool b4, .int .i64 attr] 60)) c0
 by_cases h1 : out ≤ sz
 ·have d1 : decide ((out : Int) ≤ (sz : Int)) = true := by simp; omega
  have d1' : decide (out ≤ sz) = true := by simp; omega
  have e3 : (sz : Int) - (out : Int) = ((sz - out : Nat) : Int) := by omega
  rw [d1']
  have e4 : sz - out < 9223372036854775808 := by omega
  generalize sz - out = D at *
  clear h1
  go_enter Tryz.func151, Tryz.ntmps151
  go_wp2_with (first | (go_at_call 106; refine (C1.out _).mono ?_; rintro e w' ⟨rfl, rfl⟩) | (go_at_call 105; refine (C2.out _).mono ?_; rintro e w' ⟨rfl, rfl⟩))
  go_quiet (first | (go_at_call 166; exact Calls.quiet_of_same (C3.out _ (by first | exact c9 | simp [c9] | simp [c0]))))
  go_wp2_with fail
  go_ret
  exact ⟨by first | rfl | (refine ret_bool ?_; simp), below_drewN (below1 _ _) _⟩
 ·have d1 : decide ((out : Int) ≤ (sz : Int)) = false := by simp; omega
  have d1' : decide (out ≤ sz) = false := by simp; omega
  rw [d1']
  clear h1
  go_enter Tryz.func151, Tryz.ntmps151
  go_wp2_with (first | (go_at_call 106; refine (C1.out _).mono ?_; rintro e w' ⟨rfl, rfl⟩) | (go_at_call 105; refine (C2.out _).mono ?_; rintro e w' ⟨rfl, rfl⟩))
  go_quiet (first | (go_at_call 166; exact Calls.quiet_of_same (C3.out _ (by first | exact c9 | simp [c9] | simp [c0]))))
  go_wp2_with fail
  go_ret
  exact ⟨by first | rfl | (refine ret_bool ?_; simp), below_drewN (below1 _ _) _⟩
def entryP (sz : Nat) (rd : Nat → Nat) (level at_ : Nat) : Dd × (Nat × Nat) × List (Nat × Nat) :=
 if mayP sz at_ = 0 then
  match decP level (rd at_) with
  | none => (zeroD, (4, level), [(at_, rd at_)])
  | some d => if d.kind = 0 then (d, (1, level), [(at_, rd at_)]) else if d.kind ≠ 1 ∧ insideP sz level d.out = false then (zeroD, (4, level), [(at_, rd at_)]) else (d, (0, 0), [(at_, rd at_)])
 else (zeroD, (4, level), [])
def EntPost (F : Nat → Prop) (p m : Nat) (steps : List (Nat × Nat)) (R : Dd × (Nat × Nat) × List (Nat × Nat)) (w : World) (e : Ending) (w' : World) : Prop :=
 e = .returned (.tuple #[dV R.1, fV R.2.1]) ∧ WkAt (Gr F w w') p m (steps ++ R.2.2) w' ∧ Kp (WkF F p) w w'
end Go.Proofs.YtbapgngngaaojaaGreat
