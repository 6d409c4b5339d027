/- Plain: what a table walk's result is like; the machine's walk as a function. The walk of the eighth reference's Walked: walkedP. -/
import Derived.Test.YtbapgngngaaojaaGreatG17
import Derived.Test.YtbapgngngaaojaaGreatG12
import Derived.Test.YtbapgngngaaojaaGreatG15
set_option linter.unusedSimpArgs false
set_option linter.unusedVariables false
namespace Go.Proofs.YtbapgngngaaojaaGreat
open Go.RowKit Go.Lib
set_option maxRecDepth 100000
theorem rightL_kind {d : Dd} {level : Nat} (h : rightL d level = true) : (d.kind = 2 ∨ d.kind = 3) ∧ 1 ≤ level ∧ level ≤ 3 ∧ d.out < 281474976710656 ∧ d.out % 2 ^ bitsL level = 0 ∧ d.attr < 8 := by
 unfold rightL leafK at h
 simp only [Bool.and_eq_true, Bool.or_eq_true, beq_iff_eq, decide_eq_true_eq] at h
 obtain ⟨⟨⟨h1, h2⟩, h3⟩, h4⟩ := h
 refine ⟨?_, ?_, ?_, h2, h3, h4⟩
 ·rcases h1 with h1 | h1
  ·exact .inl h1.1
  ·exact .inr h1.1
 ·rcases h1 with h1 | h1 <;> omega
 ·rcases h1 with h1 | h1 <;> omega
def LfOk (sz : Nat) (rd : Nat → Nat) (R : Lf) : Prop :=
 (∀ s ∈ R.steps, s.2 = rd s.1) ∧ (R.f = (0, 0) → rightL R.d R.level = true ∧ insideP sz R.level R.d.out = true) ∧ (R.f ≠ (0, 0) → R.level = 0 ∧ R.d = zeroD)
theorem entryP_steps (sz : Nat) (rd : Nat → Nat) (level at_ : Nat) : ∀ s ∈ (entryP sz rd level at_).2.2, s.2 = rd s.1 := by
 unfold entryP
 intro s hs
 split at hs
 ·split at hs
  ·simp only [List.mem_cons, List.not_mem_nil, or_false] at hs; rw [hs]
  ·split at hs
   ·simp only [List.mem_cons, List.not_mem_nil, or_false] at hs; rw [hs]
   ·split at hs <;> (simp only [List.mem_cons, List.not_mem_nil, or_false] at hs; rw [hs])
 ·simp at hs
theorem goP_ok (sz : Nat) (rd : Nat → Nat) (va : Nat) : ∀ (n level table : Nat), LfOk sz rd (goP sz rd va n level table) ∧ (goP sz rd va n level table).steps.length ≤ n
 | 0, level, table => ⟨⟨by simp [goP], by simp [goP], by simp [goP]⟩, by simp [goP]⟩
 | n + 1, level, table => by
  obtain ⟨d, f, st, he, hl, hc⟩ := entryP_cases sz rd level (table + indexP va level * 8)
  have hs := entryP_steps sz rd level (table + indexP va level * 8)
  rw [he] at hs
  rw [goP_next he]
  obtain ⟨⟨g1, g2, g3⟩, g4⟩ := goP_ok sz rd va n (level + 1) d.out
  by_cases hf : f = (0, 0)
  ·rw [if_pos hf]
   by_cases hk : d.kind = 1
   ·rw [if_pos hk]
    refine ⟨⟨?_, g2, g3⟩, ?_⟩
    ·intro s hx
     rcases List.mem_append.1 hx with hx | hx
     ·exact hs s hx
     ·exact g1 s hx
    ·show (st ++ _).length ≤ n + 1
     rw [List.length_append]
     omega
   ·rw [if_neg hk]
    refine ⟨⟨hs, ?_, fun h => absurd rfl h⟩, by show st.length ≤ n + 1; omega⟩
    intro _
    rcases hc with h | h | h | h
    ·exact absurd h.2.1 hk
    ·exact ⟨h.2.2.1, h.2.2.2⟩
    ·rw [hf] at h; cases h
    ·rw [hf] at h; cases h
  ·rw [if_neg hf]
   exact ⟨⟨hs, fun h => absurd h hf, fun _ => ⟨rfl, rfl⟩⟩, by show st.length ≤ n + 1; omega⟩
theorem fromP_ok (sz : Nat) (rd : Nat → Nat) (level table va : Nat) : LfOk sz rd (fromP sz rd level table va) ∧ (fromP sz rd level table va).steps.length ≤ 4 ∧ ((fromP sz rd level table va).f = (0, 0) → va < 281474976710656) := by
 unfold fromP
 split
 ·rename_i h
  have := goP_ok sz rd va (4 - level) level table
  exact ⟨this.1, by omega, fun _ => h⟩
 ·exact ⟨⟨by simp, by simp, by simp⟩, by simp, by simp⟩
def keepP (s : St) (keep : Bool) (ks : List Mk) : St := if keep = true then { s with ks := ks } else s
def useP (s : St) (asid va : Nat) (fill : Bool) (R : Lf) : St := if fill = true ∧ R.f = (0, 0) ∧ R.d.used = true then { s with es := fillP s.most s.es ⟨asid, baseP va R.level, R.level, R.d⟩ } else s
def walkM (s : St) (root asid va : Nat) (fill led keep : Bool) : Lf × St :=
 let b := beginP s root asid va led
 let R := fromP s.sz s.rd b.1 b.2 va
 (R, useP (keepP s keep (walkedP s.most asid va s.ks b.1 R.steps)) asid va fill R)
theorem okE_leaf {asid va level : Nat} {d : Dd} (ha : asid < 256) (hr : rightL d level = true) (hu : d.used = true) : okE ⟨asid, baseP va level, level, d⟩ :=
 have h := rightL_kind hr
 ⟨ha, h.2.1, h.2.2.1, baseP_lt va level, baseP_idem va level, h.1, hr, hu⟩
theorem addP_ok {most : Nat} {l : List Mk} {k : Mk} (hl : ∀ x ∈ l, okM x) (hk : okM k) : ∀ x ∈ addP most l k, okM x := by
 unfold addP
 split
 ·exact hl
 ·intro x hx
  have := List.mem_of_mem_drop hx
  rcases List.mem_append.1 this with h | h
  ·exact hl x h
  ·rw [List.mem_singleton.1 h]; exact hk
theorem walkedP_ok {most asid va : Nat} (ha : asid < 256) : ∀ (st : List (Nat × Nat)) (l : List Mk) (level : Nat), (∀ x ∈ l, okM x) → l.length ≤ most → (∀ x ∈ walkedP most asid va l level st, okM x) ∧ (walkedP most asid va l level st).length ≤ most
 | [], l, level, hl, hn => ⟨by unfold walkedP; exact hl, by unfold walkedP; exact hn⟩
 | s :: r, l, level, hl, hn => by
  unfold walkedP
  split
  ·cases hd : decP level s.2 with
   | none => exact ⟨hl, hn⟩
   | some d =>
    dsimp only
    split
    ·rename_i h3 hk
     apply walkedP_ok ha r
     ·split
      ·rcases decP_some hd with h | ⟨_, h2, h3⟩ | ⟨h1, _⟩
       ·rw [h] at hk; cases hk
       ·refine addP_ok hl (okM_mark ha (by omega) ?_ ?_)
        ·rw [congrArg Dd.out h3]; exact outW_lt _
        ·rw [congrArg Dd.out h3]; exact outW_al _
       ·omega
      ·exact hl
     ·split
      ·exact addP_len hn
      ·exact hn
    ·exact ⟨hl, hn⟩
  ·exact ⟨hl, hn⟩
theorem fillP_ok {most : Nat} {l : List Ent} {x : Ent} (hl : ∀ e ∈ l, okE e) (hx : okE x) : ∀ e ∈ fillP most l x, okE e := by
 have h2 : ∀ e ∈ l ++ [x], okE e := fun e he => by
  rcases List.mem_append.1 he with h | h
  ·exact hl e h
  ·rw [List.mem_singleton.1 h]; exact hx
 unfold fillP
 split
 ·exact hl
 ·split
  ·intro e he
   exact h2 e (List.mem_of_mem_eraseIdx he)
  ·exact h2
section
variable {x m pt pk : Nat} {pv : Value} {Fm Ft Fk : Nat → Prop} {s : St} {w u u' : World} {e : Ending}
theorem MmuD.walked (h : MmuD x m pt pk pv Fm Ft Fk s w) (hb : Below w.heap.size w u) {ks : List Mk} (hl : ks.length ≤ s.most) (hk : ∀ k ∈ ks, okM k) (hp : WalkedPost Fk pk s.most ks u e u') : MmuPost x m pt pk pv Fm Ft Fk { s with ks := ks } w u' ∧ Kp (WkF Fk pk) u u' := by
 refine ⟨?_, hp.2.2⟩
 have h1 := (h.below hb).setK hp.2.1 hp.2.2 hl hk
 refine ⟨Fm, Ft, Gr Fk u u', h1, (Kp.ofBelow hb).trans hp.2.2 (fun i y => .inl (.inr (.inr (.inr y)))), ?_⟩
 intro k y
 have hs := hb.size
 rcases y with y | y | y | y
 ·exact .inl (.inl y)
 ·exact .inl (.inr (.inl y))
 ·exact .inl (.inr (.inr (.inl y)))
 ·rcases y.gr with y | y
  ·exact .inl (.inr (.inr (.inr y)))
  ·exact .inr (by omega)
theorem MmuD.filled (h : MmuD x m pt pk pv Fm Ft Fk s w) (hb : Below w.heap.size w u) {es : List Ent} (hl : es.length ≤ s.most) (hk : ∀ k ∈ es, okE k) (hp : FillPost Ft pt s.most es u e u') : MmuPost x m pt pk pv Fm Ft Fk { s with es := es } w u' ∧ Kp (WkF Ft pt) u u' := by
 refine ⟨?_, hp.2.2⟩
 have h1 := (h.below hb).setE hp.2.1 hp.2.2 hl hk
 refine ⟨Fm, Gr Ft u u', Fk, h1, (Kp.ofBelow hb).trans hp.2.2 (fun i y => .inl (.inr (.inr (.inl y)))), ?_⟩
 intro k y
 have hs := hb.size
 rcases y with y | y | y | y
 ·exact .inl (.inl y)
 ·exact .inl (.inr (.inl y))
 ·rcases y.gr with y | y
  ·exact .inl (.inr (.inr (.inl y)))
  ·exact .inr (by omega)
 ·exact .inl (.inr (.inr (.inr y)))
/-- .. behind another turn. -/
theorem MmuPost.trans {s1 s2 : St} {w1 w2 : World} (h : MmuPost x m pt pk pv Fm Ft Fk s1 w w1) (h2 : ∀ Fm' Ft' Fk', MmuD x m pt pk pv Fm' Ft' Fk' s1 w1 → MmuPost x m pt pk pv Fm' Ft' Fk' s2 w1 w2) : MmuPost x m pt pk pv Fm Ft Fk s2 w w2 := by
 obtain ⟨Fm', Ft', Fk', h1, h3, h4⟩ := h
 obtain ⟨Fm2, Ft2, Fk2, g1, g2, g3⟩ := h2 Fm' Ft' Fk' h1
 refine ⟨Fm2, Ft2, Fk2, g1, h3.trans g2 h4, fun k y => ?_⟩
 rcases g3 k y with y | y
 ·exact h4 k y
 ·exact .inr (Nat.le_trans h3.size y)
/-- The machine and the caller's own blocks. -/
theorem MmuPost.box {s1 : St} {w0 w1 : World} (h : MmuPost x m pt pk pv Fm Ft Fk s1 w w1) (h0 : MmuD x m pt pk pv Fm Ft Fk s w) {g : Nat} {cs : List Value} (hb : Box w g cs) (hg : ¬ MmuF x pt pk Fm Ft Fk g) : Box w1 g cs := by
 obtain ⟨_, _, _, _, h3, _⟩ := h
 exact hb.kept h3 hg
end
end Go.Proofs.YtbapgngngaaojaaGreat
namespace Go.Proofs.YtbapgngngaaojaaGreat
open Go.RowKit Go.Lib
set_option maxRecDepth 100000
def RWalkedPost (ok : Nat → Prop) (R : List Mk) (w : World) (e : Ending) (w' : World) : Prop :=
 ∃ A c, ∃ n : Nat, e = .returned (.tuple #[.slice A R.length c, .int .i64 n]) ∧ RowAt w' (fun k => ok k ∨ w.heap.size ≤ k) 4 (.slice A R.length c) R.length (rowL mL R) ∧ Below w.heap.size w w'
theorem walkedP_nil (most asid va : Nat) (l : List Mk) (lev : Nat) : walkedP most asid va l lev [] = l := by unfold walkedP; rfl
theorem walkedP_stop {most asid va lev : Nat} {l : List Mk} {s : Nat × Nat} {r : List (Nat × Nat)} (h : ∀ d, decP lev s.2 = some d → d.kind ≠ 1) : walkedP most asid va l lev (s :: r) = l := by
 unfold walkedP
 split
 ·cases hd : decP lev s.2 with
  | none => rfl
  | some d => exact if_neg (h d hd)
 ·rfl
theorem walkedP_table {most asid va lev : Nat} {l : List Mk} {s : Nat × Nat} {r : List (Nat × Nat)} {d : Dd} (hl : lev ≤ 3) (hd : decP lev s.2 = some d) (hk : d.kind = 1) :
  walkedP most asid va l lev (s :: r) = walkedP most asid va (if va < 281474976710656 then addP most l (markOf asid va lev d.out) else l) (lev + 1) r := by
 conv => lhs; unfold walkedP
 rw [if_pos hl, hd]
 exact if_pos hk
set_option maxHeartbeats 2000000 in
theorem rwalked_nat {ok : Nat → Prop} (most asid va level : Nat) (l : List Mk) (st : List (Nat × Nat)) (A0 A5 : Option Addr) (c0 c5 : Nat) (w : World) (hn : most ≤ 999) (hlm : l.length ≤ most) (ha : asid < 256) (hv : va < 18446744073709551616) (hl : level ≤ 3) (hst : ∀ s ∈ st, s.2 < 18446744073709551616) (hsn : st.length ≤ 8)
  (h : RowAt w ok 4 (.slice A0 l.length c0) l.length (rowL mL l)) (h5 : RdRow w (.slice A5 st.length c5) st.length (stepCells st)) :
  Calls Tryz.prog 84 #[.slice A0 l.length c0, .int .i64 most, .int .i64 asid, .int .u64 va, .int .i64 level, .slice A5 st.length c5] w (RWalkedPost ok (walkedP most asid va l level st) w) := by
 obtain ⟨R, hR⟩ : ∃ R, walkedP most asid va l level st = R := ⟨_, rfl⟩
 rw [hR]
 have C1 : Hid (∀ lev : Nat, lev ≤ 3 → ∀ w, Calls Tryz.prog 86 #[.int .u64 va, .int .i64 lev] w fun e w' => e = .returned (.int .u64 (baseP va lev)) ∧ Below w.heap.size w w') := fun lev h w => rbase_nat va lev w h hv
 have C2 : Hid (∀ (ok2 : Nat → Prop) (lev : Nat) (ks : List Mk) (A : Option Addr) (c out : Nat) (w' : World), lev < 3 → ks.length ≤ most → out < 281474976710656 → out % 4096 = 0 → RowAt w' ok2 4 (.slice A ks.length c) ks.length (rowL mL ks) → Calls Tryz.prog 125 #[.slice A ks.length c, .int .i64 most, (.agg #[.int .i64 asid, .int .u64 (baseP va lev), .int .i64 ((lev : Int) + 1), .int .u64 out])] w' (RListPost mL 4 ok2 (addP most ks (markOf asid va lev out)) w')) := fun ok2 lev ks A c out w' h1 h2 h3 h4 h6 =>
  radd_nat most ks ⟨asid, baseP va lev, lev + 1, out⟩ A c w' (by omega) h2 ha (Nat.succ_pos _) h1 (by show baseP va lev < _; unfold baseP; omega) (by show baseP (baseP va lev) (lev + 1 - 1) = baseP va lev; rw [Nat.add_sub_cancel]; exact baseP_idem va lev) h3 h4 h6
 have C3 : Hid (∀ i : Nat, i ≤ 3 → ∀ x : Nat, x < 18446744073709551616 → ∀ w, Calls Tryz.prog 123 #[.int .i64 i, .int .u64 x] w (RDecPost (decP i x) w)) := fun i hi x hx w => rdecode_nat i x w hx hi
 have HST := Lib.hid hst
 have HSN := Lib.hid hsn
 have HMO := Lib.hid hn
 have H5 := Lib.hid h5
 have HR1 : Hid (walkedP most asid va l level (st.drop 0) = R) := hR
 have HRW0 : Hid (RowAt w (fun k => ok k ∨ w.heap.size ≤ k) 4 (.slice A0 l.length c0) l.length (rowL mL l)) := h.mono (fun k _ h => .inl h)
 have HLM := Lib.hid hlm
 clear hst hsn hn hR h h5 hlm ha
 obtain ⟨b, hb⟩ : ∃ b, decide (va < 281474976710656) = b := ⟨_, rfl⟩
 have hb' : decide ((va : Int) < 281474976710656) = b := by rw [← hb, decide_eq_decide]; omega
 have HVB := Lib.hid hb
 clear hb
 go_enter Tryz.func84, Tryz.ntmps84
 go_wp2
 go_loopw [0, 4, 14] (fun s0 s4 iv wr => ∃ (i lev : Nat) (ks : List Mk) (A2 : Option Addr) (c2 : Nat), iv = .int .i64 i ∧ s4 = .int .i64 lev ∧ s0 = .slice A2 ks.length c2 ∧ i ≤ st.length ∧ lev ≤ 3 ∧ Hid (walkedP most asid va ks lev (st.drop i) = R) ∧ Hid (ks.length ≤ most) ∧ Hid (RowAt wr (fun k => ok k ∨ w.heap.size ≤ k) 4 (.slice A2 ks.length c2) ks.length (rowL mL ks)) ∧ Hid (Below w.heap.size w wr)) (fun _ _ iv _ => st.length - (RowKit.intOf iv).toNat)
 case atStart => exact ⟨0, level, l, A0, c0, rfl, rfl, rfl, by omega, hl, HR1, HLM, HRW0, Below.refl _ _⟩
 case round =>
  obtain ⟨i, lev, ks, A2, c2, rfl, rfl, rfl, hi, hlev, HS, HKL, HROW, HB⟩ := hrel
  have hsn2 : st.length ≤ 8 := HSN.out
  have l0 : decide ((lev : Int) < 0) = false := by simp
  by_cases hlt : i < st.length
  ·have hs := HS.out
   rw [drop_cons' st i hlt] at hs
   by_cases hl2 : lev ≤ 2
   ·have l2 : decide ((2 : Int) < (lev : Int)) = false := by simp; omega
    obtain ⟨g, o, rfl, hr⟩ := H5.out.get (by omega)
    have hcs := (stepCells_at st i hlt).2
    have k1 : wr.cell? ⟨g, o + i * 2 + 1, none⟩ = some (.int .u64 st[i].2) := keep_cell HB.out (by have := hr _ _ hcs; rwa [← Nat.add_assoc] at this)
    have hxw := HST.out st[i] (List.getElem_mem hlt)
    have C4 := Lib.hid (C3.out lev (by omega) st[i].2 hxw)
    have HSX := Lib.hid hs
    clear hcs hr hs
    generalize hy : st[i] = y at *
    clear hy
    obtain ⟨sa, sw⟩ := y
    dsimp only at k1 hxw C4
    obtain ⟨dd, hd⟩ : ∃ dd, decP lev sw = dd := ⟨_, rfl⟩
    rw [hd] at C4
    go_wp2_with fail
    refine (C4.out _).mono ?_
    rintro e w4 ⟨rfl, hb4⟩
    have HB4 : Hid (Below w.heap.size w w4) := HB.out.trans (hb4.mono HB.out.size)
    have HROW4 := Lib.hid (HROW.out.below hb4)
    clear hb4 C4 k1 HROW HB
    have HDD := Lib.hid hd
    clear hd
    cases dd with
    | none =>
     have HQ : Hid (ks = R) := by have h := HSX.out; rw [walkedP_stop (fun d h => by rw [HDD.out] at h; cases h)] at h; exact h
     simp only [Option.getD_none, Option.isSome_none, dV, zeroD]
     go_wp2
     go_ret2
     rw [← HQ.out]
     exact ⟨_, _, i, rfl, HROW4.out.below (below1 _ _), HB4.out.alloc HB4.out.size _⟩
    | some d =>
     simp only [Option.getD_some, Option.isSome_some, dV]
     by_cases hk1 : d.kind = 1
     ·have q1 : ((d.kind : Int) != 1) = false := by simp; omega
      have hT : d.out < 281474976710656 ∧ d.out % 4096 = 0 ∧ lev < 3 := by
       rcases decP_some HDD.out with h | ⟨-, h3, h⟩ | ⟨h, -, -⟩
       ·rw [h] at hk1; cases hk1
       ·rw [h]; exact ⟨outW_lt _, outW_al _, h3⟩
       ·omega
      have HT := Lib.hid hT
      have HNX : Hid (walkedP most asid va (if va < 281474976710656 then addP most ks (markOf asid va lev d.out) else ks) (lev + 1) (st.drop (i + 1)) = R) := by have h := HSX.out; rw [walkedP_table hlev HDD.out hk1] at h; exact h
      clear hT hk1 HSX HDD
      obtain ⟨K2, hK2⟩ : ∃ K2, (if va < 281474976710656 then addP most ks (markOf asid va lev d.out) else ks) = K2 := ⟨_, rfl⟩
      rw [hK2] at HNX
      have HKK := Lib.hid hK2
      clear hK2
      have D1 := Lib.hid (C1.out lev hlev)
      have E9 : Hid (IntKind.i64.wrap ((lev : Int) + 1) = (lev : Int) + 1) := IntWalk.i64_in _ (by omega)
      have D2 := Lib.hid (C2.out (fun k => ok k ∨ w.heap.size ≤ k) lev ks A2 c2 d.out)
      go_upto_if 51 with fail
      generalize hX : World.alloc _ _ = X
      have HD5 : Hid (Box X w4.heap.size (dCells d)) := by rw [← hX]; exact Box.new w4 (dCells d) 99
      have HROWX : Hid (RowAt X (fun k => ok k ∨ w.heap.size ≤ k) 4 (.slice A2 ks.length c2) ks.length (rowL mL ks)) := by rw [← hX]; exact HROW4.out.below (below1 _ _)
      have HBX : Hid (Below w.heap.size w X) := by rw [← hX]; exact HB4.out.alloc HB4.out.size _
      clear hX
      go_cut [0] (fun s0 wx => ∃ A4 c4, s0 = .slice A4 K2.length c4 ∧ Hid (RowAt wx (fun k => ok k ∨ w.heap.size ≤ k) 4 (.slice A4 K2.length c4) K2.length (rowL mL K2)) ∧ Hid (Below w.heap.size w wx))
      case first =>
       cases b with
       | true =>
        have hk2 := HKK.out
        rw [if_pos (by simpa using HVB.out)] at hk2
        have HK3 := Lib.hid hk2
        have j1 := HD5.out.at 1 _ rfl
        have hC : CtxB X X := Below.refl _ _
        clear hk2
        go_wp2_with fail
        go_region_held3 (fun u => u.cell? ⟨w4.heap.size, 1, none⟩ = some (.int .u64 d.out) ∧ CtxB X u)
         (first | assumption | exact ⟨drew_cell j1, hC.drew⟩ | (go_split_ands; exact ⟨keep_cell hb5 (by assumption), CtxB.next (by assumption) hb5⟩) | (go_split_ands; exact ⟨keep_cell hb6 (by assumption), CtxB.next (by assumption) hb6⟩))
         (first | (go_at_call 86; refine (D1.out _).mono ?_; rintro e w5 ⟨rfl, hb5⟩) | (go_at_call 125; rw [E9.out]; refine (D2.out _ HT.out.2.2 HKL.out HT.out.1 HT.out.2.1 (by go_split_ands; exact HROWX.out.below (CtxB.out (by assumption)))).mono ?_; rintro e w6 ⟨A6, c6, rfl, hrow6, hb6⟩))
        all_goals
         go_split_ands
         have HBX6 : Hid (Below X.heap.size X w6) := CtxB.out (by assumption)
         rw [HK3.out] at hrow6
         rw [HK3.out]
         go_wp2_with fail
         go_meet
         exact ⟨A6, c6, rfl, hrow6.mono (fun k _ h => h.elim id (fun h => .inr (Nat.le_trans (Nat.le_trans HBX.out.size (by first | exact Nat.le_refl _ | exact hb5.size)) h))), HBX.out.trans (HBX6.out.mono HBX.out.size)⟩
       | false =>
        have hk2 := HKK.out
        rw [if_neg (by simpa using HVB.out)] at hk2
        have HK3 : Hid (ks = K2) := hk2
        clear hk2
        go_wp2_with fail
        go_meet
        rw [← HK3.out]
        exact ⟨A2, c2, rfl, HROWX, HBX⟩
      case rest =>
       obtain ⟨A4, c4, rfl, HROW9, HB9⟩ := hcut
       have HKL9 : Hid (K2.length ≤ most) := by
        rw [← HKK.out]
        show List.length _ ≤ most
        split
        ·exact addP_len HKL.out
        ·exact HKL.out
       go_wp2
       go_roundw
       case rel => exact ⟨i + 1, lev + 1, K2, A4, c4, by first | rfl | go_num, by first | rfl | go_num, rfl, by omega, by omega, HNX, HKL9, HROW9, HB9⟩
       case measure => simp [RowKit.intOf]; omega
     ·have q1 : ((d.kind : Int) != 1) = true := by simp; omega
      have HQ : Hid (ks = R) := by have h := HSX.out; rw [walkedP_stop (fun d2 h => by rw [HDD.out] at h; cases h; exact hk1)] at h; exact h
      clear hk1
      go_wp2
      go_ret2
      rw [← HQ.out]
      exact ⟨_, _, i, rfl, HROW4.out.below (below1 _ _), HB4.out.alloc HB4.out.size _⟩
   ·have l2 : decide ((2 : Int) < (lev : Int)) = true := by simp; omega
    have HQ : Hid (ks = R) := by
     have h := hs
     rw [walkedP_stop (fun d hd => ?_)] at h
     ·exact h
     ·intro hk
      rcases decP_some hd with h | ⟨-, h3, h⟩ | ⟨h, -, -⟩
      ·rw [h] at hk; cases hk
      ·omega
      ·omega
    clear hs
    go_wp2
    go_ret2
    rw [← HQ.out]
    exact ⟨_, _, i, rfl, HROW.out, HB.out⟩
  ·have HQ : Hid (ks = R) := by rw [← HS.out, List.drop_eq_nil_of_le (by omega), walkedP_nil]; exact rfl
   obtain rfl : i = st.length := by omega
   go_wp2
   go_ret2
   rw [← HQ.out]
   exact ⟨_, _, _, rfl, HROW.out, HB.out⟩
end Go.Proofs.YtbapgngngaaojaaGreat
