/- The walk of trail.Walked. The machine in the heap; the walks of New, held, Set. -/
import Derived.Test.YtbapgngngaaojaaGreatG11
import Derived.Test.YtbapgngngaaojaaGreatG04
set_option linter.unusedSimpArgs false
set_option linter.unusedVariables false
namespace Go.Proofs.YtbapgngngaaojaaGreat
open Go.RowKit Go.Lib
set_option maxRecDepth 100000
def markOf (asid va level out : Nat) : Mk := ⟨asid, baseP va level, level + 1, out⟩
def walkedP (most asid va : Nat) : List Mk → Nat → List (Nat × Nat) → List Mk
 | l, _, [] => l
 | l, level, s :: r =>
  if level ≤ 3 then
   match decP level s.2 with
   | some d => if d.kind = 1 then walkedP most asid va (if va < 281474976710656 then addP most l (markOf asid va level d.out) else l) (level + 1) r else l
   | none => l
  else l
theorem baseP_idem (va level : Nat) : baseP (baseP va level) level = baseP va level := by
 unfold baseP
 have hp := Nat.two_pow_pos (bitsL level)
 generalize 2 ^ bitsL level = P at *
 generalize hx : va % 281474976710656 = x
 have h1 : x < 281474976710656 := by omega
 have h2 : x - x % P ≤ x := Nat.sub_le _ _
 rw [Nat.mod_eq_of_lt (by omega : x - x % P < 281474976710656)]
 have h3 : (x - x % P) % P = 0 := by
  have := Nat.div_add_mod x P
  have h4 : x - x % P = P * (x / P) := by omega
  rw [h4, Nat.mul_mod_right]
 omega
theorem baseP_lt (va level : Nat) : baseP va level < 281474976710656 := by
 unfold baseP
 have := Nat.sub_le (va % 281474976710656) (va % 281474976710656 % 2 ^ bitsL level)
 omega
theorem okM_mark {asid va level out : Nat} (ha : asid < 256) (hl : level ≤ 2) (ho : out < 281474976710656) (hoa : out % 4096 = 0) : okM (markOf asid va level out) :=
 ⟨ha, by simp [markOf], by simp [markOf]; omega, baseP_lt va level, by simp [markOf]; exact baseP_idem va level, ho, hoa⟩
def WalkedPost (F : Nat → Prop) (p most : Nat) (l : List Mk) (w : World) (e : Ending) (w' : World) : Prop :=
 (∃ k : Nat, e = .returned (.int .i64 k)) ∧ ListAt mL 4 (Gr F w w') p most l w' ∧ Kp (WkF F p) w w'
theorem stepCells_at (st : List (Nat × Nat)) (i : Nat) (hi : i < st.length) : (stepCells st)[i * 2]? = some (.int .u64 st[i].1) ∧ (stepCells st)[i * 2 + 1]? = some (.int .u64 st[i].2) := by
 have h := rowL_at (fun s : Nat × Nat => [Value.int .u64 s.1, .int .u64 s.2]) 2 (fun _ => rfl) st i hi
 exact ⟨by have := h 0 (by omega); simpa [rowL, stepCells] using this, by have := h 1 (by omega); simpa [rowL, stepCells] using this⟩
theorem walked_ret {α : Type} {f : α → List Value} {sz : Nat} {F : Nat → Prop} {p most : Nat} {l l' : List α} {w wr Wf : World} (h0 : ListAt f sz F p most l w) (hL : ListAt f sz (Gr F w wr) p most l' wr) (hK : Kp (WkF F p) w wr) (hb : Below wr.heap.size wr Wf) :
  ListAt f sz (Gr F w Wf) p most l' Wf ∧ Kp (WkF F p) w Wf := by
 have h2 := hK.below hb
 refine ⟨(hL.below hb).mono ?_ (Gr.not h0.1 h0.lt) (Gr.lt h0.2.1 h2.size), h2⟩
 intro k hk h
 rcases h with h | h
 ·exact .inl h
 ·exact .inr ⟨h.1, hk⟩
theorem list_step {α : Type} {f : α → List Value} {sz : Nat} {F : Nat → Prop} {p most : Nat} {l l' : List α} {w wr u w6 : World} (h0 : ListAt f sz F p most l w) (hK : Kp (WkF F p) w wr) (hb : Below wr.heap.size wr u)
  (hL : ListAt f sz (Gr (Gr F w wr) u w6) p most l' w6) (hk : Kp (WkF (Gr F w wr) p) u w6) : ListAt f sz (Gr F w w6) p most l' w6 ∧ Kp (WkF F p) w w6 := by
 have s1 := hK.size
 have s2 := hb.size
 have s3 := hk.size
 have h2 : Kp (WkF F p) w w6 := (hK.below hb).trans hk (fun i h => by
  rcases h with h | h
  ·exact .inl (.inl h)
  ·rcases h with h | h
   ·exact .inl (.inr h)
   ·exact .inr h.1)
 refine ⟨hL.mono ?_ (Gr.not h0.1 h0.lt) (Gr.lt h0.2.1 h2.size), h2⟩
 intro k hk h
 rcases h with h | h
 ·rcases h with h | h
  ·exact .inl h
  ·exact .inr ⟨h.1, hk⟩
 ·exact .inr ⟨by omega, hk⟩
set_option maxHeartbeats 1000000 in
theorem walked_core {F : Nat → Prop} {p most : Nat} {l : List Mk} {w : World} (h : ListAt mL 4 F p most l w) (hm1 : 1 ≤ most) (hmx : most ≤ 64) (hn : l.length ≤ most) (asid va level : Nat) (ha : asid < 256) (hv : va < 18446744073709551616) (hlev : level ≤ 3)
  (st : List (Nat × Nat)) (g o c : Nat) (hst : st.length ≤ 8) (hw : ∀ s ∈ st, s.2 < 18446744073709551616) (hg : g < w.heap.size) (hgn : ¬ WkF F p g) (hr : w.rangeAt g o (stepCells st)) :
  Calls Tryz.prog 109 #[.pointer (some ⟨p, 0, none⟩), .int .i64 asid, .int .u64 va, .int .i64 level, .slice (some ⟨g, o, none⟩) st.length c] w (WalkedPost F p most (walkedP most asid va l level st) w) := by
 have HL := Lib.hid h
 have HR := Lib.hid hr
 have HW := Lib.hid hw
 have HGN := Lib.hid hgn
 have HLow : Hid (∀ b, lowB va = b → ∀ w, Calls Tryz.prog 133 #[.int .u64 va] w fun e w' => e = .returned (.bool b) ∧ w' = w) := fun b hb w => low_of va w b hb
 have HBase : Hid (∀ lv : Nat, lv ≤ 3 → ∀ w, Calls Tryz.prog 111 #[.int .u64 va, .int .i64 lv] w fun e w' => e = .returned (.int .u64 (baseP va lv)) ∧ w' = w) := fun lv hl w => vbase_nat va lv w hl hv
 obtain ⟨R, hR⟩ : ∃ R, walkedP most asid va l level st = R := ⟨_, rfl⟩
 rw [hR]
 have HR0 := Lib.hid hR
 have HN := Lib.hid hn
 clear h hr hw hgn hR hn
 have hlv3 : level ≤ 3 := hlev
 go_enter Tryz.func109, Tryz.ntmps109
 go_wp2
 go_loopw [3, 17] (fun lv iv wr => ∃ (i v : Nat) (l' : List Mk), iv = .int .i64 i ∧ i ≤ st.length ∧ lv = .int .i64 v ∧ v ≤ 4 ∧ Hid (l'.length ≤ most) ∧ Hid (ListAt mL 4 (Gr F w wr) p most l' wr) ∧ Hid (Kp (WkF F p) w wr) ∧ Hid (walkedP most asid va l' v (st.drop i) = R)) (fun _ iv _ => st.length - (RowKit.intOf iv).toNat)
 case atStart =>
  refine ⟨0, level, l, rfl, by omega, rfl, by omega, HN, ?_, Kp.refl _ _, HR0⟩
  exact HL.out.mono (fun k _ x => .inl x) (Gr.not HL.out.1 HL.out.lt) (Gr.lt HL.out.2.1 (Nat.le_refl _))
 case round =>
  obtain ⟨i, v, l', rfl, hi, rfl, hv4, HN', HL', HK', HW'⟩ := hrel
  by_cases hlt : i < st.length
  ·have hcs := stepCells_at st i hlt
   have k0 : wr.cell? ⟨g, o + i * 2, none⟩ = some (.int .u64 st[i].1) := HK'.out.cell (HR.out _ _ hcs.1) HGN.out
   have k1 : wr.cell? ⟨g, o + i * 2 + 1, none⟩ = some (.int .u64 st[i].2) := HK'.out.cell (by have := HR.out _ _ hcs.2; rwa [← Nat.add_assoc] at this) HGN.out
   have hxw := HW.out st[i] (List.getElem_mem hlt)
   have HD : Hid (st.drop i = st[i] :: st.drop (i + 1)) := List.drop_eq_getElem_cons hlt
   have HS := Lib.hid HW'.out
   rw [HD.out] at HS
   clear hcs HD HW'
   generalize st[i] = s at *
   obtain ⟨sa, sw⟩ := s
   dsimp only at k0 k1 hxw
   by_cases hv3 : v ≤ 3
   ·have C2 := Lib.hid (fun w => decode_any v sw w hv3 hxw)
    have d1 : decide ((v : Int) < 0) = false := by simp
    have d2 : decide ((4 : Int) ≤ (v : Int)) = false := by simp; omega
    unfold walkedP at HS
    rw [if_pos hv3] at HS
    go_wp2_with fail
    have HB1 := Lib.hid (below1 wr (.cells #[.int .u64 sa, .int .u64 sw] 81))
    cases hd : decP v sw with
    | none =>
     rw [hd] at HS
     have HS2 : Hid (l' = R) := HS.out
     have hc := C2.out (wr.alloc (.cells #[.int .u64 sa, .int .u64 sw] 81))
     rw [decV_none hd] at hc
     clear hd HS
     refine hc.mono ?_
     rintro e w2 ⟨rfl, hb2⟩
     have HB2 := Lib.hid (HB1.out.trans (hb2.mono HB1.out.size))
     clear hb2
     dsimp only [dV, zeroD]
     go_wp2
     go_ret
     obtain ⟨r1, r2⟩ := walked_ret HL.out HL'.out HK'.out (HB2.out.alloc HB2.out.size _)
     exact ⟨⟨i, rfl⟩, HS2.out ▸ r1, r2⟩
    | some d =>
     rw [hd] at HS
     have hc := C2.out (wr.alloc (.cells #[.int .u64 sa, .int .u64 sw] 81))
     rw [decV_some hd] at hc
     have hcase := decP_some hd
     clear hd
     obtain ⟨K, out, b1, b2, b3, b4, attr⟩ := d
     dsimp only at hcase HS
     by_cases hK : K = 1
     ·subst hK
      rw [if_pos rfl] at HS
      have hfacts : v < 3 ∧ out < 281474976710656 ∧ out % 4096 = 0 := by
       rcases hcase with h | ⟨_, h2, h3⟩ | ⟨h1, _⟩
       ·injection h with h; cases h
       ·exact ⟨h2, by have := congrArg Dd.out h3; dsimp only at this; rw [this]; exact outW_lt _, by have := congrArg Dd.out h3; dsimp only at this; rw [this]; exact outW_al _⟩
       ·rcases h1 with h | h <;> cases h
      have HFA := Lib.hid hfacts
      have hv2 : v < 3 := hfacts.1
      clear hcase hfacts
      refine hc.mono ?_
      rintro e w2 ⟨rfl, hb2⟩
      have HB2 := Lib.hid (HB1.out.trans (hb2.mono HB1.out.size))
      clear hb2
      dsimp only [dV]
      by_cases hva : va < 281474976710656
      ·rw [if_pos hva] at HS
       have CL := Lib.hid (HLow.out true (by unfold lowB; simp; omega))
       have CB := Lib.hid (HBase.out v hv3)
       have CA : Hid (∀ u, Below wr.heap.size wr u → Calls Tryz.prog 137 #[.pointer (some ⟨p, 0, none⟩), .agg #[.int .i64 asid, .int .u64 (baseP va v), .int .i64 ((v : Int) + 1), .int .u64 out]] u (AddPost (Gr F w wr) p most (addP most l' (markOf asid va v out)) u)) := fun u hb =>
        add_nat (HL'.out.below hb) (markOf asid va v out) (okM_mark ha (by omega) HFA.out.2.1 HFA.out.2.2) hm1 hmx HN'.out
       have HB3 : Hid (Below wr.heap.size wr (w2.alloc (.cells #[.int .i64 1, .int .u64 out, .bool b1, .bool b2, .bool b3, .bool b4, .int .i64 attr] 60))) := HB2.out.alloc HB2.out.size _
       have HN2 : Hid ((addP most l' (markOf asid va v out)).length ≤ most) := addP_len HN'.out
       generalize baseP va v = bv at *
       generalize addP most l' (markOf asid va v out) = l2 at *
       go_wp2_with (first | (go_at_call 133; refine (CL.out _).mono ?_; rintro e w' ⟨rfl, rfl⟩))
       have hwr : IntKind.i64.wrap ((v : Int) + 1) = (v : Int) + 1 := IntWalk.i64_in _ (by omega)
       go_region_with (first | (go_at_call 111; refine (CB.out _).mono ?_; rintro e w' ⟨rfl, rfl⟩) | (go_at_call 137; refine (CA.out _ HB3.out.drew).mono ?_; rintro e w6 ⟨rfl, hL6, hK6⟩))
       all_goals
        obtain ⟨r1, r2⟩ := list_step HL.out HK'.out HB3.out.drew hL6 hK6
        have HR1 := Lib.hid r1
        have HR2 := Lib.hid r2
        clear hL6 hK6 r1 r2 hwr
        go_wp2
        go_roundw
        case rel => exact ⟨i + 1, v + 1, l2, by first | rfl | go_num, by omega, by first | rfl | go_num, by omega, HN2, HR1, HR2, HS.out⟩
        case measure => simp [RowKit.intOf]; omega
      ·rw [if_neg hva] at HS
       have CL := Lib.hid (HLow.out false (by unfold lowB; simp; omega))
       have HLx := Lib.hid HL'.out
       have HKx := Lib.hid HK'.out
       go_wp2_with (first | (go_at_call 133; refine (CL.out _).mono ?_; rintro e w' ⟨rfl, rfl⟩))
       go_roundw
       case rel =>
        obtain ⟨r1, r2⟩ := walked_ret HL.out HL'.out HK'.out (HB2.out.alloc HB2.out.size _)
        exact ⟨i + 1, v + 1, l', by first | rfl | go_num, by omega, by first | rfl | go_num, by omega, HN', r1, r2, HS.out⟩
       case measure => simp [RowKit.intOf]; omega
     ·rw [if_neg hK] at HS
      have HS2 : Hid (l' = R) := HS.out
      have hk1 : ((K : Int) != 1) = true := by rw [bne_iff_ne]; omega
      clear hcase hK HS
      refine hc.mono ?_
      rintro e w2 ⟨rfl, hb2⟩
      have HB2 := Lib.hid (HB1.out.trans (hb2.mono HB1.out.size))
      clear hb2
      dsimp only [dV]
      go_wp2
      go_ret
      obtain ⟨r1, r2⟩ := walked_ret HL.out HL'.out HK'.out (HB2.out.alloc HB2.out.size _)
      exact ⟨⟨i, rfl⟩, HS2.out ▸ r1, r2⟩
   ·have d1 : decide ((v : Int) < 0) = false := by simp
    have d2 : decide ((4 : Int) ≤ (v : Int)) = true := by simp; omega
    unfold walkedP at HS
    rw [if_neg hv3] at HS
    have HS2 : Hid (l' = R) := HS.out
    go_wp2
    go_ret
    obtain ⟨r1, r2⟩ := walked_ret HL.out HL'.out HK'.out (below1 _ _)
    exact ⟨⟨i, rfl⟩, HS2.out ▸ r1, r2⟩
  ·have HS2 : Hid (l' = R) := by
    have := HW'.out
    rw [List.drop_eq_nil_of_le (by omega)] at this
    exact this
   go_wp2
   go_ret
   obtain ⟨r1, r2⟩ := walked_ret HL.out HL'.out HK'.out (Below.refl _ _)
   exact ⟨⟨st.length, rfl⟩, HS2.out ▸ r1, r2⟩
theorem walked_nat {F ok : Nat → Prop} {p most : Nat} {l : List Mk} {w : World} (h : ListAt mL 4 F p most l w) (hm1 : 1 ≤ most) (hmx : most ≤ 64) (hn : l.length ≤ most) (asid va level : Nat) (ha : asid < 256) (hv : va < 18446744073709551616) (hlev : level ≤ 3)
  (st : List (Nat × Nat)) (v : Value) (hst : st.length ≤ 8) (hw : ∀ s ∈ st, s.2 < 18446744073709551616) (hr : RowAt w ok 2 v st.length (stepCells st)) (hok : ∀ k, ok k → ¬ WkF F p k) :
  Calls Tryz.prog 109 #[.pointer (some ⟨p, 0, none⟩), .int .i64 asid, .int .u64 va, .int .i64 level, v] w (WalkedPost F p most (walkedP most asid va l level st) w) := by
 rcases hr.2 with ⟨rfl, h0⟩ | ⟨g, o, c, rfl, h1, h2, _, _, h5, _⟩
 ·obtain rfl : st = [] := List.eq_nil_of_length_eq_zero h0
  have HL := Lib.hid h
  clear h hr
  go_enter Tryz.func109, Tryz.ntmps109
  go_wp2
  refine wp_loop_rounds 1 ?_
  rw [rounds_succ]
  go_wp2
  go_ret
  exact ⟨⟨0, rfl⟩, HL.out.mono (fun k _ x => .inl x) (Gr.not HL.out.1 HL.out.lt) (Gr.lt HL.out.2.1 (Nat.le_refl _)), Kp.refl _ _⟩
 ·exact walked_core h hm1 hmx hn asid va level ha hv hlev st g o c hst hw h2 (hok g h1) h5
end Go.Proofs.YtbapgngngaaojaaGreat
namespace Go.Proofs.YtbapgngngaaojaaGreat
open Go.RowKit Go.Lib
set_option maxRecDepth 100000
/-- A machine, in numbers. -/
structure St where
 sz : Nat
 rd : Nat → Nat
 most : Nat
 es : List Ent
 ks : List Mk
 reg : Option (Nat × Nat)
structure OkSt (s : St) : Prop where
 szle : s.sz ≤ 4294967296
 szal : s.sz % 4096 = 0
 m1 : 1 ≤ s.most
 m64 : s.most ≤ 64
 el : s.es.length ≤ s.most
 kl : s.ks.length ≤ s.most
 eok : ∀ e ∈ s.es, okE e
 kok : ∀ k ∈ s.ks, okM k
 rok : ∀ r a, s.reg = some (r, a) → Tb r ∧ a < 256
def rgV : Option (Nat × Nat) → Value
 | none => .nilIface
 | some (r, a) => .iface 92 (.agg #[.int .u64 r, .int .i64 a])
structure MmuD (x m pt pk : Nat) (pv : Value) (Fm Ft Fk : Nat → Prop) (s : St) (w : World) : Prop where
 c0 : w.cell? ⟨x, 0, none⟩ = some (.pointer (some ⟨m, 0, none⟩))
 c1 : w.cell? ⟨x, 1, none⟩ = some (.pointer (some ⟨pt, 0, none⟩))
 c2 : w.cell? ⟨x, 2, none⟩ = some (.pointer (some ⟨pk, 0, none⟩))
 c3 : w.cell? ⟨x, 3, none⟩ = some (rgV s.reg)
 f3 : w.frozen? ⟨x, 3, none⟩ = false
 c4 : w.cell? ⟨x, 4, none⟩ = some pv
 f4 : w.frozen? ⟨x, 4, none⟩ = false
 mem : MemAt w Fm m s.sz s.rd
 tlb : ListAt eL 10 Ft pt s.most s.es w
 trail : ListAt mL 4 Fk pk s.most s.ks w
 dx : ¬ Fm x ∧ ¬ WkF Ft pt x ∧ ¬ WkF Fk pk x
 dm : ∀ k, Fm k → ¬ WkF Ft pt k ∧ ¬ WkF Fk pk k
 dt : ∀ k, WkF Ft pt k → ¬ WkF Fk pk k
 bm : ∀ k, Fm k → k < w.heap.size
 ok : OkSt s
def MmuF (x pt pk : Nat) (Fm Ft Fk : Nat → Prop) : Nat → Prop := fun k => k = x ∨ Fm k ∨ WkF Ft pt k ∨ WkF Fk pk k
section
variable {x m pt pk : Nat} {pv : Value} {Fm Ft Fk G : Nat → Prop} {s : St} {w w' : World}
theorem MmuD.bt (h : MmuD x m pt pk pv Fm Ft Fk s w) : ∀ k, WkF Ft pt k → k < w.heap.size := fun k hk => hk.elim (fun e => e ▸ h.tlb.lt) (h.tlb.2.1 k)
theorem MmuD.bk (h : MmuD x m pt pk pv Fm Ft Fk s w) : ∀ k, WkF Fk pk k → k < w.heap.size := fun k hk => hk.elim (fun e => e ▸ h.trail.lt) (h.trail.2.1 k)
theorem MmuD.bx (h : MmuD x m pt pk pv Fm Ft Fk s w) : x < w.heap.size := World.block_lt_of_cell? w _ h.c0
theorem MmuD.bF (h : MmuD x m pt pk pv Fm Ft Fk s w) : ∀ k, MmuF x pt pk Fm Ft Fk k → k < w.heap.size := fun k hk => by
 rcases hk with e | hk | hk | hk
 ·exact e ▸ h.bx
 ·exact h.bm k hk
 ·exact h.bt k hk
 ·exact h.bk k hk
theorem MmuD.kept (h : MmuD x m pt pk pv Fm Ft Fk s w) (hk : Kp G w w') (hn : ∀ k, MmuF x pt pk Fm Ft Fk k → ¬ G k) : MmuD x m pt pk pv Fm Ft Fk s w' :=
 have hx : ¬ G x := hn x (.inl rfl)
 ⟨hk.cell h.c0 hx, hk.cell h.c1 hx, hk.cell h.c2 hx, hk.cell h.c3 hx, (hk.frozen h.bx hx).trans h.f3, hk.cell h.c4 hx, (hk.frozen h.bx hx).trans h.f4, h.mem.kept hk (fun k y => hn k (.inr (.inl y))),
  h.tlb.kept hk (hn _ (.inr (.inr (.inl (.inl rfl))))) (fun k y => hn k (.inr (.inr (.inl (.inr y))))), h.trail.kept hk (hn _ (.inr (.inr (.inr (.inl rfl))))) (fun k y => hn k (.inr (.inr (.inr (.inr y))))),
  h.dx, h.dm, h.dt, fun k y => Nat.lt_of_lt_of_le (h.bm k y) hk.size, h.ok⟩
theorem MmuD.below (h : MmuD x m pt pk pv Fm Ft Fk s w) (hb : Below w.heap.size w w') : MmuD x m pt pk pv Fm Ft Fk s w' := h.kept (G := fun _ => False) (.ofBelow hb) (fun _ _ y => y)
theorem WkF.gr {F : Nat → Prop} {p k : Nat} (h : WkF (Gr F w w') p k) : WkF F p k ∨ w.heap.size ≤ k := by
 rcases h with h | h
 ·exact .inl (.inl h)
 ·exact h.imp .inr (fun y => y.1)
/-- The buffer has turned. -/
theorem MmuD.setE (h : MmuD x m pt pk pv Fm Ft Fk s w) {es' : List Ent} (hL : ListAt eL 10 (Gr Ft w w') pt s.most es' w') (hk : Kp (WkF Ft pt) w w') (hl : es'.length ≤ s.most) (he : ∀ e ∈ es', okE e) :
  MmuD x m pt pk pv Fm (Gr Ft w w') Fk { s with es := es' } w' := by
 have hx := h.dx.2.1
 refine ⟨hk.cell h.c0 hx, hk.cell h.c1 hx, hk.cell h.c2 hx, hk.cell h.c3 hx, (hk.frozen h.bx hx).trans h.f3, hk.cell h.c4 hx, (hk.frozen h.bx hx).trans h.f4, h.mem.kept hk (fun k y => (h.dm k y).1), hL, ?_, ⟨h.dx.1, fun y => ?_, h.dx.2.2⟩, fun k y => ⟨fun z => ?_, (h.dm k y).2⟩, fun k y z => ?_, fun k y => Nat.lt_of_lt_of_le (h.bm k y) hk.size, ?_⟩
 ·exact h.trail.kept hk (fun y => h.dt _ y (.inl rfl)) (fun k y z => h.dt k z (.inr y))
 ·rcases y.gr with y | y
  ·exact hx y
  ·have := h.bx; omega
 ·rcases z.gr with z | z
  ·exact (h.dm k y).1 z
  ·have := h.bm k y; omega
 ·rcases y.gr with y | y
  ·exact h.dt k y z
  ·have := h.bk k z; omega
 ·exact ⟨h.ok.szle, h.ok.szal, h.ok.m1, h.ok.m64, hl, h.ok.kl, he, h.ok.kok, h.ok.rok⟩
theorem MmuD.setK (h : MmuD x m pt pk pv Fm Ft Fk s w) {ks' : List Mk} (hL : ListAt mL 4 (Gr Fk w w') pk s.most ks' w') (hk : Kp (WkF Fk pk) w w') (hl : ks'.length ≤ s.most) (he : ∀ e ∈ ks', okM e) :
  MmuD x m pt pk pv Fm Ft (Gr Fk w w') { s with ks := ks' } w' := by
 have hx := h.dx.2.2
 refine ⟨hk.cell h.c0 hx, hk.cell h.c1 hx, hk.cell h.c2 hx, hk.cell h.c3 hx, (hk.frozen h.bx hx).trans h.f3, hk.cell h.c4 hx, (hk.frozen h.bx hx).trans h.f4, h.mem.kept hk (fun k y => (h.dm k y).2), ?_, hL, ⟨h.dx.1, h.dx.2.1, fun y => ?_⟩, fun k y => ⟨(h.dm k y).1, fun z => ?_⟩, fun k y z => ?_, fun k y => Nat.lt_of_lt_of_le (h.bm k y) hk.size, ?_⟩
 ·exact h.tlb.kept hk (fun y => h.dt _ (.inl rfl) y) (fun k y z => h.dt k (.inr y) z)
 ·rcases y.gr with y | y
  ·exact hx y
  ·have := h.bx; omega
 ·rcases z.gr with z | z
  ·exact (h.dm k y).2 z
  ·have := h.bm k y; omega
 ·rcases z.gr with z | z
  ·exact h.dt k y z
  ·have := h.bt k y; omega
 ·exact ⟨h.ok.szle, h.ok.szal, h.ok.m1, h.ok.m64, h.ok.el, hl, h.ok.eok, he, h.ok.rok⟩
theorem MmuD.setM (h : MmuD x m pt pk pv Fm Ft Fk s w) {rd' : Nat → Nat} (hM : MemAt w' (fun k => Fm k ∨ w.heap.size ≤ k) m s.sz rd') (hk : Kp Fm w w') :
  MmuD x m pt pk pv (Gr Fm w w') Ft Fk { s with rd := rd' } w' := by
 have hx := h.dx.1
 refine ⟨hk.cell h.c0 hx, hk.cell h.c1 hx, hk.cell h.c2 hx, hk.cell h.c3 hx, (hk.frozen h.bx hx).trans h.f3, hk.cell h.c4 hx, (hk.frozen h.bx hx).trans h.f4, hM.mono (fun k hk y => y.imp id (fun z => ⟨z, hk⟩)), ?_, ?_, ⟨?_, h.dx.2⟩, fun k y => ?_, h.dt, Gr.lt h.bm hk.size, ?_⟩
 ·exact h.tlb.kept hk (fun y => (h.dm _ y).1 (.inl rfl)) (fun k y z => (h.dm k z).1 (.inr y))
 ·exact h.trail.kept hk (fun y => (h.dm _ y).2 (.inl rfl)) (fun k y z => (h.dm k z).2 (.inr y))
 ·exact Gr.not hx h.bx
 ·rcases y with y | y
  ·exact h.dm k y
  ·exact ⟨fun z => by have := h.bt k z; omega, fun z => by have := h.bk k z; omega⟩
 ·exact ⟨h.ok.szle, h.ok.szal, h.ok.m1, h.ok.m64, h.ok.el, h.ok.kl, h.ok.eok, h.ok.kok, h.ok.rok⟩
/-- What a call leaves that turns the machine. -/
def MmuPost (x m pt pk : Nat) (pv : Value) (Fm Ft Fk : Nat → Prop) (s' : St) (w w' : World) : Prop :=
 ∃ Fm' Ft' Fk', MmuD x m pt pk pv Fm' Ft' Fk' s' w' ∧ Kp (MmuF x pt pk Fm Ft Fk) w w' ∧ ∀ k, MmuF x pt pk Fm' Ft' Fk' k → MmuF x pt pk Fm Ft Fk k ∨ w.heap.size ≤ k
theorem MmuPost.refl (h : MmuD x m pt pk pv Fm Ft Fk s w) : MmuPost x m pt pk pv Fm Ft Fk s w w := ⟨Fm, Ft, Fk, h, Kp.refl _ _, fun k y => .inl y⟩
theorem MmuPost.ofBelow (h : MmuD x m pt pk pv Fm Ft Fk s w) (hb : Below w.heap.size w w') : MmuPost x m pt pk pv Fm Ft Fk s w w' := ⟨Fm, Ft, Fk, h.below hb, .ofBelow hb, fun k y => .inl y⟩
theorem MmuPost.below {w2 : World} (h : MmuPost x m pt pk pv Fm Ft Fk s w w') (hb : Below w'.heap.size w' w2) : MmuPost x m pt pk pv Fm Ft Fk s w w2 := by
 obtain ⟨Fm', Ft', Fk', h1, h2, h3⟩ := h
 exact ⟨Fm', Ft', Fk', h1.below hb, h2.below hb, h3⟩
/-- .. behind new blocks of the caller's own. -/
theorem MmuPost.pre {w0 : World} (hb : Below w0.heap.size w0 w) (h : MmuPost x m pt pk pv Fm Ft Fk s w w') : MmuPost x m pt pk pv Fm Ft Fk s w0 w' := by
 obtain ⟨Fm', Ft', Fk', h1, h2, h3⟩ := h
 exact ⟨Fm', Ft', Fk', h1, (Kp.ofBelow hb).trans h2 (fun i y => .inl y), fun k y => (h3 k y).imp id (fun z => Nat.le_trans hb.size z)⟩
/-- .. and stores into them. -/
theorem MmuPost.own {w2 : World} {G2 : Nat → Prop} (h : MmuPost x m pt pk pv Fm Ft Fk s w w') (hk : Kp G2 w' w2) (hG : ∀ k, G2 k → w.heap.size ≤ k) (hd : ∀ Fm' Ft' Fk', MmuD x m pt pk pv Fm' Ft' Fk' s w' → (∀ k, MmuF x pt pk Fm' Ft' Fk' k → MmuF x pt pk Fm Ft Fk k ∨ w.heap.size ≤ k) → ∀ k, MmuF x pt pk Fm' Ft' Fk' k → ¬ G2 k) : MmuPost x m pt pk pv Fm Ft Fk s w w2 := by
 obtain ⟨Fm', Ft', Fk', h1, h2, h3⟩ := h
 exact ⟨Fm', Ft', Fk', h1.kept hk (hd Fm' Ft' Fk' h1 h3), h2.trans hk (fun i y => .inr (hG i y)), h3⟩
end
end Go.Proofs.YtbapgngngaaojaaGreat
