/- FlushAsid and FlushAll of tlb, trail and mmu; Off. tlb.Drop and mmu.Evict. slices.Grow and slices.Concat of marks. trail.Drop; Evict and Lose of mmu. -/
import Derived.Test.YtbapgngngaaojaaGreatG27
import Derived.Test.YtbapgngngaaojaaGreatG25
import Derived.Test.YtbapgngngaaojaaGreatG11
import Derived.Lib.AppendZeros
set_option linter.unusedSimpArgs false
set_option linter.unusedVariables false
namespace Go.Proofs.YtbapgngngaaojaaGreat
open Go.RowKit Go.Lib
set_option maxRecDepth 100000
theorem enters_as1 : ∀ args w, (callFunc 96 args).run Tryz.prog w = .ok (.enter 96 args) w := fun args w => by go_simp
theorem enters_as2 : ∀ args w, (callFunc 98 args).run Tryz.prog w = .ok (.enter 98 args) w := fun args w => by go_simp
theorem enters_al1 : ∀ args w, (callFunc 95 args).run Tryz.prog w = .ok (.enter 95 args) w := fun args w => by go_simp
def asE (asid : Int) (x : Ent) : Bool := (x.asid : Int) == asid
def asM (asid : Int) (x : Mk) : Bool := (x.asid : Int) == asid
theorem ask_as1 {F : Nat → Prop} {w : World} (asid : Int) (g1 : Nat) (h1 : w.cell? ⟨g1, 0, none⟩ = some (.int .i64 asid)) (n1 : ¬ F g1) :
  AskE (fun _ => True) F 96 #[.pointer (some ⟨g1, 0, none⟩)] (asE asid) w := by
 intro W x hx hk
 have c1 := hk.cell h1 n1
 unfold asE
 obtain ⟨ya, yv, yl, ⟨yk, yo, y1, y2, y3, y4, yt⟩⟩ := x
 dsimp only [eV]
 have z1 := World.block_lt_of_cell? W _ c1
 dsimp only at z1
 clear hk h1 n1 hx
 simp only [List.append_toArray, List.cons_append, List.nil_append]
 go_enter Tryz.func96, Tryz.ntmps96
 go_wp2
 go_ret
 exact ⟨rfl, below1 _ _⟩
theorem ask_as2 {w : World} (asid : Int) (g1 : Nat) (h1 : w.cell? ⟨g1, 0, none⟩ = some (.int .i64 asid)) :
  AskM (fun _ => True) 98 #[.pointer (some ⟨g1, 0, none⟩)] (fun x => !asM asid x) w := by
 intro W x hx hk
 have c1 := keep_cell hk h1
 unfold asM
 obtain ⟨ya, yv, yl, yt⟩ := x
 dsimp only [mV]
 have z1 := World.block_lt_of_cell? W _ c1
 dsimp only at z1
 clear hk h1 hx
 simp only [List.append_toArray, List.cons_append, List.nil_append]
 go_enter Tryz.func98, Tryz.ntmps98
 go_wp2
 go_ret
 exact ⟨rfl, below1 _ _⟩
theorem ask_al1 {F : Nat → Prop} {w : World} : AskE (fun _ => True) F 95 #[] (fun _ => true) w := by
 intro W x hx hk
 obtain ⟨ya, yv, yl, ⟨yk, yo, y1, y2, y3, y4, yt⟩⟩ := x
 dsimp only [eV]
 clear hk hx
 simp only [List.append_toArray, List.cons_append, List.nil_append]
 go_enter Tryz.func95, Tryz.ntmps95
 go_wp2
 go_ret
 exact ⟨rfl, below1 _ _⟩
theorem tflushas_nat {F : Nat → Prop} {q most : Nat} {l : List Ent} {w : World} (asid : Int) (h : ListAt eL 10 F q most l w) (hn : l.length ≤ 900) :
  Calls Tryz.prog 53 #[.pointer (some ⟨q, 0, none⟩), .int .i64 asid] w (FlushPost F q most (l.filter (fun x => !asE asid x)) w) := by
 have hq := h.lt
 have C : Hid (∀ W, Below w.heap.size w W → ∀ g1, w.heap.size ≤ g1 → W.cell? ⟨g1, 0, none⟩ = some (.int .i64 asid) → Calls Tryz.prog 94 #[.pointer (some ⟨q, 0, none⟩), .func (.func 96) #[] #[.pointer (some ⟨g1, 0, none⟩)]] W fun e w' => (∃ k : Int, e = .returned (.int .i64 k)) ∧ ListAt eL 10 (Gr F w w') q most (l.filter (fun x => !asE asid x)) w' ∧ Kp (WkF F q) w w') := fun W hb g1 z1 h1 => by
  refine (tflush_nat _ _ _ (h.below hb) hn enters_as1 (ask_as1 asid g1 h1 (fun y => by have := h.2.1 _ y; omega)) (fun _ _ => trivial)).mono ?_
  rintro e w' ⟨hk, hl, hkp⟩
  have hk2 : Kp (WkF F q) w w' := (Kp.ofBelow hb).trans hkp (fun i y => .inl y)
  refine ⟨hk, hl.mono (fun k hk y => y.imp id (fun z => ⟨Nat.le_trans hb.size z.1, z.2⟩)) (Gr.not h.1 hq) (Gr.lt h.2.1 hk2.size), hk2⟩
 clear hn
 generalize l.filter (fun x => !asE asid x) = L at *
 have H := Lib.hid h
 clear h
 go_enter Tryz.func53, Tryz.ntmps53
 go_upto_region 1 with fail
 have D := Lib.hid (C.out _ (below1 w (.cells #[.int .i64 asid] 3)) w.heap.size (Nat.le_refl _) (by simp))
 clear C
 go_wp2_with (go_at_call 94; refine D.out.mono ?_; rintro e w1 ⟨⟨k, rfl⟩, hl, hkp⟩; have HL := Lib.hid hl; have HK := Lib.hid hkp; clear hl hkp)
 go_ret
 exact ⟨⟨_, rfl⟩, HL.out, HK.out⟩
theorem tflushall_nat {F : Nat → Prop} {q most : Nat} {l : List Ent} {w : World} (h : ListAt eL 10 F q most l w) (hn : l.length ≤ 900) :
  Calls Tryz.prog 51 #[.pointer (some ⟨q, 0, none⟩)] w (FlushPost F q most [] w) := by
 have C := Lib.hid (tflush_nat _ _ _ h hn enters_al1 ask_al1 (fun _ _ => trivial))
 rw [show l.filter (fun x => !(fun _ => true) x) = [] by simp] at C
 clear h hn
 go_enter Tryz.func51, Tryz.ntmps51
 go_wp2_with (go_at_call 94; refine C.out.mono ?_; rintro e w1 ⟨⟨k, rfl⟩, hl, hkp⟩; have HL := Lib.hid hl; have HK := Lib.hid hkp; clear hl hkp)
 go_ret
 exact ⟨⟨_, rfl⟩, HL.out, HK.out⟩
theorem kflushas_nat {F : Nat → Prop} {q most : Nat} {l : List Mk} {w : World} (asid : Int) (h : ListAt mL 4 F q most l w) (hn : l.length ≤ 900) :
  Calls Tryz.prog 54 #[.pointer (some ⟨q, 0, none⟩), .int .i64 asid] w (KeepPost F q most (l.filter (fun x => !asM asid x)) w) := by
 have hq := h.lt
 have C : Hid (∀ W, Below w.heap.size w W → ∀ g1, W.cell? ⟨g1, 0, none⟩ = some (.int .i64 asid) → Calls Tryz.prog 97 #[.pointer (some ⟨q, 0, none⟩), .func (.func 98) #[] #[.pointer (some ⟨g1, 0, none⟩)]] W fun e w' => (∃ k : Int, e = .returned (.int .i64 k)) ∧ ListAt mL 4 (Gr F w w') q most (l.filter (fun x => !asM asid x)) w' ∧ Kp (WkF F q) w w') := fun W hb g1 h1 => by
  refine (keep_nat _ _ _ (h.below hb) hn enters_as2 (ask_as2 asid g1 h1) (fun _ _ => trivial)).mono ?_
  rintro e w' ⟨hk, hl, hkp⟩
  have hk2 : Kp (WkF F q) w w' := (Kp.ofBelow hb).trans hkp (fun i y => .inl y)
  refine ⟨hk, hl.mono (fun k hk y => y.imp id (fun z => ⟨Nat.le_trans hb.size z.1, z.2⟩)) (Gr.not h.1 hq) (Gr.lt h.2.1 hk2.size), hk2⟩
 clear hn
 generalize l.filter (fun x => !asM asid x) = L at *
 have H := Lib.hid h
 clear h
 go_enter Tryz.func54, Tryz.ntmps54
 go_upto_region 1 with fail
 have D := Lib.hid (C.out _ (below1 w (.cells #[.int .i64 asid] 3)) w.heap.size (by simp))
 clear C
 go_wp2_with (go_at_call 97; refine D.out.mono ?_; rintro e w1 ⟨⟨k, rfl⟩, hl, hkp⟩; have HL := Lib.hid hl; have HK := Lib.hid hkp; clear hl hkp)
 go_ret
 exact ⟨⟨_, rfl⟩, HL.out, HK.out⟩
theorem kflushall_nat {F : Nat → Prop} {q most : Nat} {l : List Mk} {w : World} (h : ListAt mL 4 F q most l w) :
  Calls Tryz.prog 52 #[.pointer (some ⟨q, 0, none⟩)] w (KeepPost F q most [] w) := by
 obtain ⟨A, c, c0, f1, c1, hrow⟩ := h.open
 have HKEY := Lib.hid (fun nq => list_put' (nq := nq) (n := 0) (l' := []) (A := none) (c := 0) h (Kp.refl _ w) c0 c1 f1 rfl (fun k h => .inl h) (RowAt.nil w F 4))
 have hq := h.lt
 clear h hrow
 go_enter Tryz.func52, Tryz.ntmps52
 go_wp2
 go_ret
 exact ⟨⟨_, rfl⟩, HKEY.out 0⟩
def flushAsM (s : St) (asid : Int) : St := { s with es := s.es.filter (fun x => !asE asid x), ks := s.ks.filter (fun x => !asM asid x) }
def flushAllM (s : St) : St := { s with es := [], ks := [] }
section
variable {x m pt pk : Nat} {pv : Value} {Fm Ft Fk : Nat → Prop} {s : St} {w : World}
theorem MmuD.noE {u' : World} {e : Ending} (h : MmuD x m pt pk pv Fm Ft Fk s w) (hp : FlushPost Ft pt s.most [] w e u') : MmuPost x m pt pk pv Fm Ft Fk { s with es := [] } w u' :=
 (h.filled (e := .returned (.int .i64 0)) (Below.refl _ _) (Nat.zero_le _) (fun k hk => by cases hk) ⟨rfl, hp.2⟩).1
theorem MmuD.noK {u' : World} {e : Ending} (h : MmuD x m pt pk pv Fm Ft Fk s w) (hp : KeepPost Fk pk s.most [] w e u') : MmuPost x m pt pk pv Fm Ft Fk { s with ks := [] } w u' :=
 (h.walked (e := .returned (.int .i64 0)) (Below.refl _ _) (Nat.zero_le _) (fun k hk => by cases hk) ⟨⟨0, rfl⟩, hp.2⟩).1
theorem mflushas_nat (h : MmuD x m pt pk pv Fm Ft Fk s w) (asid : Int) :
  Calls Tryz.prog 16 #[.pointer (some ⟨x, 0, none⟩), .int .i64 asid] w fun e w' => e = .returned (.tuple #[]) ∧ MmuPost x m pt pk pv Fm Ft Fk (flushAsM s asid) w w' := by
 have C1 : Hid (Calls Tryz.prog 53 #[.pointer (some ⟨pt, 0, none⟩), .int .i64 asid] w fun e w' => (∃ k : Int, e = .returned (.int .i64 k)) ∧ MmuPost x m pt pk pv Fm Ft Fk ({ s with es := s.es.filter (fun x => !asE asid x) } : St) w w') := (tflushas_nat asid h.tlb (by have := h.ok.el; have := h.ok.m64; omega)).mono (fun e w' hp => ⟨hp.1, h.flushE hp⟩)
 have C2 : Hid (∀ w1, MmuPost x m pt pk pv Fm Ft Fk ({ s with es := s.es.filter (fun x => !asE asid x) } : St) w w1 → Calls Tryz.prog 54 #[.pointer (some ⟨pk, 0, none⟩), .int .i64 asid] w1 fun e w' => (∃ k : Int, e = .returned (.int .i64 k)) ∧ MmuPost x m pt pk pv Fm Ft Fk (flushAsM s asid) w w') := fun w1 h1 => by
  obtain ⟨Fm', Ft', Fk', h2, h3, h4⟩ := h1
  exact (kflushas_nat asid h2.trail (by have := h2.ok.kl; have := h2.ok.m64; omega)).mono (fun e w' hp => ⟨hp.1, MmuPost.join h3 h4 (h2.flushK hp)⟩)
 have c1 := h.c1
 have hx := h.bx
 generalize (flushAsM s asid) = s2 at *
 generalize ({ s with es := s.es.filter (fun x => !asE asid x) } : St) = s1 at *
 clear h
 go_enter Tryz.func16, Tryz.ntmps16
 go_upto_region 1 with (go_at_call 53; refine C1.out.mono ?_; rintro e w1 ⟨⟨k, rfl⟩, hp1⟩; have C3 := Lib.hid (C2.out _ hp1); have c2 : w1.cell? ⟨x, 2, none⟩ = some (.pointer (some ⟨pk, 0, none⟩)) := (by obtain ⟨_, _, _, h1, _⟩ := hp1; exact h1.c2); have hx1 := World.block_lt_of_cell? w1 _ c2; dsimp only at hx1; clear hp1)
 clear C2 C1 c1 hx
 go_wp2_with (go_at_call 54; refine C3.out.mono ?_; rintro e w2 ⟨⟨k, rfl⟩, hp2⟩; have HP2 := Lib.hid hp2; clear hp2)
 go_end0
 exact ⟨rfl, HP2.out⟩
theorem mflushall_nat (h : MmuD x m pt pk pv Fm Ft Fk s w)  :
  Calls Tryz.prog 15 #[.pointer (some ⟨x, 0, none⟩)] w fun e w' => e = .returned (.tuple #[]) ∧ MmuPost x m pt pk pv Fm Ft Fk (flushAllM s) w w' := by
 have C1 : Hid (Calls Tryz.prog 51 #[.pointer (some ⟨pt, 0, none⟩)] w fun e w' => (∃ k : Int, e = .returned (.int .i64 k)) ∧ MmuPost x m pt pk pv Fm Ft Fk ({ s with es := [] } : St) w w') := (tflushall_nat h.tlb (by have := h.ok.el; have := h.ok.m64; omega)).mono (fun e w' hp => ⟨hp.1, h.noE hp⟩)
 have C2 : Hid (∀ w1, MmuPost x m pt pk pv Fm Ft Fk ({ s with es := [] } : St) w w1 → Calls Tryz.prog 52 #[.pointer (some ⟨pk, 0, none⟩)] w1 fun e w' => (∃ k : Int, e = .returned (.int .i64 k)) ∧ MmuPost x m pt pk pv Fm Ft Fk (flushAllM s) w w') := fun w1 h1 => by
  obtain ⟨Fm', Ft', Fk', h2, h3, h4⟩ := h1
  exact (kflushall_nat h2.trail).mono (fun e w' hp => ⟨hp.1, MmuPost.join h3 h4 (h2.noK hp)⟩)
 have c1 := h.c1
 have hx := h.bx
 generalize (flushAllM s) = s2 at *
 generalize ({ s with es := [] } : St) = s1 at *
 clear h
 go_enter Tryz.func15, Tryz.ntmps15
 go_upto_region 1 with (go_at_call 51; refine C1.out.mono ?_; rintro e w1 ⟨⟨k, rfl⟩, hp1⟩; have C3 := Lib.hid (C2.out _ hp1); have c2 : w1.cell? ⟨x, 2, none⟩ = some (.pointer (some ⟨pk, 0, none⟩)) := (by obtain ⟨_, _, _, h1, _⟩ := hp1; exact h1.c2); have hx1 := World.block_lt_of_cell? w1 _ c2; dsimp only at hx1; clear hp1)
 clear C2 C1 c1 hx
 go_wp2_with (go_at_call 52; refine C3.out.mono ?_; rintro e w2 ⟨⟨k, rfl⟩, hp2⟩; have HP2 := Lib.hid hp2; clear hp2)
 go_end0
 exact ⟨rfl, HP2.out⟩
/-- The register is taken away. -/
theorem MmuD.offR (h : MmuD x m pt pk pv Fm Ft Fk s w) : MmuPost x m pt pk pv Fm Ft Fk { s with reg := none } w (w.setCell ⟨x, 3, none⟩ (rgV none)) := by
 have hk : Kp (fun k => k = x) w (w.setCell ⟨x, 3, none⟩ (rgV none)) := (Kp.refl (fun k => k = x) w).setCell (p := ⟨x, 3, none⟩) (.inl rfl) _
 have hnm : ∀ k, Fm k → ¬ k = x := fun k y e => h.dx.1 (e ▸ y)
 have hnt : ∀ k, WkF Ft pt k → ¬ k = x := fun k y e => h.dx.2.1 (e ▸ y)
 have hnk : ∀ k, WkF Fk pk k → ¬ k = x := fun k y e => h.dx.2.2 (e ▸ y)
 refine ⟨Fm, Ft, Fk, ⟨?_, ?_, ?_, ?_, ?_, ?_, ?_, h.mem.kept hk hnm, h.tlb.kept hk (hnt _ (.inl rfl)) (fun k y => hnt k (.inr y)), h.trail.kept hk (hnk _ (.inl rfl)) (fun k y => hnk k (.inr y)), h.dx, h.dm, h.dt, fun k y => Nat.lt_of_lt_of_le (h.bm k y) hk.size, ⟨h.ok.szle, h.ok.szal, h.ok.m1, h.ok.m64, h.ok.el, h.ok.kl, h.ok.eok, h.ok.kok, ?_⟩⟩, hk.mono (fun k e => .inl e), fun k y => .inl y⟩
 ·rw [World.cell?_setCell_other _ _ _ _ (by simp)]; exact h.c0
 ·rw [World.cell?_setCell_other _ _ _ _ (by simp)]; exact h.c1
 ·rw [World.cell?_setCell_other _ _ _ _ (by simp)]; exact h.c2
 ·exact World.cell?_setCell_same _ _ _ h.c3
 ·rw [World.frozen?_setCell]; exact h.f3
 ·rw [World.cell?_setCell_other _ _ _ _ (by simp)]; exact h.c4
 ·rw [World.frozen?_setCell]; exact h.f4
 ·intro r' a' e
  cases e
theorem moff_nat (h : MmuD x m pt pk pv Fm Ft Fk s w) :
  Calls Tryz.prog 47 #[.pointer (some ⟨x, 0, none⟩)] w fun e w' => e = .returned (.tuple #[]) ∧ MmuPost x m pt pk pv Fm Ft Fk { s with reg := none } w w' := by
 have HP := Lib.hid h.offR
 have c3 := h.c3
 have f3 := h.f3
 have hx := h.bx
 dsimp only [rgV] at HP
 clear h
 go_enter Tryz.func47, Tryz.ntmps47
 go_wp2
 go_end0
 exact ⟨rfl, HP.out⟩
end
end Go.Proofs.YtbapgngngaaojaaGreat
namespace Go.Proofs.YtbapgngngaaojaaGreat
open Go.RowKit Go.Lib
set_option maxRecDepth 100000
set_option maxHeartbeats 1000000 in
theorem edelete_last {ok : Nat → Prop} {g o : Nat} (l : List Ent) (i : Nat) (w : World) (hn : i ≤ 1000) (hi : l.length = i + 1) (h : RowAt w ok 10 (.slice (some ⟨g, o, none⟩) (i + 1) (i + 1)) (i + 1) (rowL eL l)) :
  Calls Tryz.prog 112 #[.slice (some ⟨g, o, none⟩) (i + 1) (i + 1), .int .i64 i, .int .i64 (i + 1 : Nat)] w (DelPost ok (l.eraseIdx i) w) := by
 obtain ⟨i0, hi0, hz0, hz1, hz2⟩ := info_parts infoE
 have I0 := Lib.hid hi0
 have I1 := Lib.hid hz0
 have I2 := Lib.hid hz1
 clear hi0 hz0 hz1 hz2
 have HR := Lib.hid h
 have e1 : ((i + 1 : Nat) : Int) = (i : Int) + 1 := by omega
 have hneq : ((i : Int) == (i : Int) + 1) = false := by rw [beq_eq_false_iff_ne]; omega
 clear h
 have HS : Hid (RowAt w ok 10 (.slice (some ⟨g, o, none⟩) i (i + 1)) i (rowL eL (l.take i))) := by
  rw [← rowL_take eL 10 eL_len]; exact HR.out.short (by omega)
 have HE : Hid (l.eraseIdx i = l.take i) := by rw [Hid, List.eraseIdx_eq_take_drop_succ, List.drop_eq_nil_of_le (by omega), List.append_nil]
 have HSZ : Hid (i = (l.eraseIdx i).length) := by rw [Hid, List.length_eraseIdx, if_pos (by omega)]; omega
 have HG := Lib.hid HR.out.gcap.1
 clear hi
 rw [e1]
 go_enter Tryz.func112, Tryz.ntmps112
 go_wp2
 have hsi : IntKind.i64.wrap ((i : Int) + 1) = (i : Int) + 1 := IntWalk.i64_in _ (by omega)
 have b0 : (0 : Int) ≤ (i : Int) + 1 := by omega
 have f6 : (0 : Int) ≤ (i : Int) := by omega
 have f8 : (i : Int) ≤ (i : Int) + 1 := by omega
 have f9 : i ≤ i + 1 := by omega
 go_region_law ((refine step_append_room_row (by rfl) _ _ 113 (by rfl) 119 i0 10 Tryz.underlying113 I0.out I2.out ok g o (i + 1) i (rowL eL (l.take i)) (by rfl) (by exact HS.out.drew1) ⟨g, o, none⟩ 0 0 [] (by rfl) rfl (by intro j u hu; simp at hu) (by intro u hu; cases hu) (by omega) ?_; intro W hW hrow2))
 all_goals
  have HW0 : Hid (Kp ok w (w.drew.setCells g (o + i * 10) [])) := ((Kp.refl ok w).drew).setCells (.inl HG.out) _ _
  rw [← hW] at HW0
  have HR2 : Hid (RowAt W ok 10 (.slice (some ⟨g, o, none⟩) i (i + 1)) i (rowL eL (l.take i))) := by
   have h := hrow2
   rw [Nat.add_zero, List.append_nil] at h
   exact h
  try simp only [← hW]
  clear hW hrow2 hsi
  have hm4 : ¬ i + 1 = i := by omega
  have hm5 : i + 1 - i = 1 := by omega
  go_wp2_with (refine wpList_clear_row (by rfl) (.tmp 31) 113 (by rfl) 119 _ 10 Tryz.underlying113 zeroEntry rfl zeroE_one ok g o (i + 1) i 0 1 1 (rowL eL (l.take i)) HR2.out (by rfl) (by omega) (by omega) ?_; intro W3 hrow3 hkp3)
  go_ret
  have hrow4 : RowAt W3 ok 10 (.slice (some ⟨g, o, none⟩) i (i + 1)) i (rowL eL (l.eraseIdx i)) := by rw [HE.out]; exact hrow3
  refine ⟨some ⟨g, o, none⟩, i + 1, by rw [← HSZ.out]; rfl, ?_, HW0.out.trans hkp3 (fun k h => .inl h)⟩
  rw [← HSZ.out]
  exact hrow4
theorem edel_any {ok : Nat → Prop} {A : Option Addr} {c : Nat} (l : List Ent) (i : Nat) (w : World) (hn : l.length ≤ 900) (hi : i < l.length) (h : RowAt w ok 10 (.slice A l.length c) l.length (rowL eL l)) :
  Calls Tryz.prog 112 #[.slice A l.length c, .int .i64 i, .int .i64 (i + 1 : Nat)] w (DelPost ok (l.eraseIdx i) w) := by
 obtain ⟨g, o, rfl, hc⟩ := row_some h (by omega)
 by_cases hl : c = i + 1
 ·have hl2 : l.length = i + 1 := by omega
  subst hl
  rw [hl2] at h ⊢
  exact edelete_last l i w (by omega) hl2 h
 ·exact edelete_nat l i w (by omega) hi hl h
/-- What is left without a place. -/
def dropL {α : Type} (l : List α) (n : Int) : List α := if 0 ≤ n then l.eraseIdx n.toNat else l
def dropB {α : Type} (l : List α) (n : Int) : Bool := decide (0 ≤ n) && decide (n < (l.length : Int))
theorem dropL_no {α : Type} (l : List α) (n : Int) (h : dropB l n = false) : dropL l n = l := by
 unfold dropL dropB at *
 split
 ·rename_i h0
  rw [decide_eq_true h0, Bool.true_and, decide_eq_false_iff_not] at h
  exact List.eraseIdx_of_length_le (by omega)
 ·rfl
def DropPost {α : Type} (f : α → List Value) (sz : Nat) (F : Nat → Prop) (p most : Nat) (b : Bool) (l : List α) (w : World) (e : Ending) (w' : World) : Prop :=
 e = .returned (.bool b) ∧ ListAt f sz (Gr F w w') p most l w' ∧ Kp (WkF F p) w w'
theorem ListAt.still {α : Type} {f : α → List Value} {sz : Nat} {F : Nat → Prop} {p most : Nat} {l : List α} {w w' : World} (h : ListAt f sz F p most l w) (hb : Below w.heap.size w w') : ListAt f sz (Gr F w w') p most l w' ∧ Kp (WkF F p) w w' :=
 ⟨(h.below hb).mono (fun k _ y => .inl y) (Gr.not h.1 h.lt) (Gr.lt h.2.1 hb.size), .ofBelow hb⟩
set_option maxHeartbeats 1000000 in
theorem tdrop_nat {F : Nat → Prop} {q most : Nat} {l : List Ent} {w : World} (n : Int) (h : ListAt eL 10 F q most l w) (hn : l.length ≤ 900) :
  Calls Tryz.prog 66 #[.pointer (some ⟨q, 0, none⟩), .int .i64 n] w (DropPost eL 10 F q most (dropB l n) (dropL l n) w) := by
 obtain ⟨A, c, c0, f1, c1, hrow⟩ := h.open
 have hq := h.lt
 cases hb : dropB l n with
 | false =>
  rw [dropL_no l n hb]
  have HS := Lib.hid (h.still (Below.refl _ w))
  unfold dropB at hb
  clear h hrow
  by_cases h0 : n < 0
  ·have d1 : decide (n < 0) = true := decide_eq_true h0
   clear hb
   go_enter Tryz.func66, Tryz.ntmps66
   go_wp2
   go_ret
   exact ⟨rfl, HS.out⟩
  ·have d1 : decide (n < 0) = false := decide_eq_false h0
   have h1 : (l.length : Int) ≤ n := by
    rw [decide_eq_true (by omega : 0 ≤ n), Bool.true_and, decide_eq_false_iff_not] at hb
    omega
   have d2 : decide ((l.length : Int) ≤ n) = true := decide_eq_true h1
   clear hb
   go_enter Tryz.func66, Tryz.ntmps66
   go_wp2
   go_ret
   exact ⟨rfl, HS.out⟩
 | true =>
  unfold dropB at hb
  rw [Bool.and_eq_true, decide_eq_true_eq, decide_eq_true_eq] at hb
  obtain ⟨h0, h1⟩ := hb
  obtain ⟨i, rfl⟩ : ∃ i : Nat, n = (i : Int) := ⟨n.toNat, by omega⟩
  have hi : i < l.length := by omega
  have hL : dropL l (i : Int) = l.eraseIdx i := by unfold dropL; rw [if_pos h0]; rfl
  rw [hL]
  have C := Lib.hid (edel_any l i w hn hi hrow)
  have e1 : ((i + 1 : Nat) : Int) = (i : Int) + 1 := by omega
  rw [e1] at C
  have HN : Hid ((l.eraseIdx i).length ≤ 900) := by rw [Hid, List.length_eraseIdx, if_pos hi]; omega
  have HP := Lib.hid h.1
  have H := Lib.hid h
  have d1 : decide ((i : Int) < 0) = false := decide_eq_false (by omega)
  have d2 : decide ((l.length : Int) ≤ (i : Int)) = false := decide_eq_false (by omega)
  have hl9 : (i : Int) < 900 := by omega
  generalize l.eraseIdx i = L at *
  clear h hrow hL hi e1
  go_enter Tryz.func66, Tryz.ntmps66
  go_wp2_with (go_at_call 112; refine C.out.mono ?_; rintro e w1 ⟨A1, c1', rfl, hrow1, hk1⟩; have q0 := hk1.cell c0 HP.out; have q1 := hk1.cell c1 HP.out; have qf : w1.frozen? ⟨q, 1, none⟩ = false := (hk1.frozen hq HP.out).trans f1; have hq1 : q < w1.heap.size := Nat.lt_of_lt_of_le hq hk1.size; have HKEY := Lib.hid (list_put' (nq := 0) H.out (hk1.mono (fun k h => .inr h)) q0 q1 qf rfl (fun k h => .inl h) hrow1); clear hrow1 hk1)
  go_ret
  exact ⟨rfl, HKEY.out⟩
end Go.Proofs.YtbapgngngaaojaaGreat
namespace Go.Proofs.YtbapgngngaaojaaGreat
open Go.RowKit Go.Lib
set_option maxRecDepth 100000
def GrowPost (w : World) (e : Ending) (w' : World) : Prop := ∃ A c, e = .returned (.slice A 0 c) ∧ RowAt w' (fun k => w.heap.size ≤ k) 4 (.slice A 0 c) 0 [] ∧ Below w.heap.size w w'
theorem RowAt.fresh (w : World) (cells : Array Value) (t : TypeId) (sz c : Nat) (hc : cells.size = c * sz) (hm : c ≤ maxLen) : RowAt (w.alloc (.cells cells t)) (fun k => w.heap.size ≤ k) sz (.slice (some ⟨w.heap.size, 0, none⟩) 0 c) 0 [] := by
 refine ⟨by simp, .inr ⟨w.heap.size, 0, c, rfl, Nat.le_refl _, by simp, Nat.zero_le _, hm, fun j v hj => by simp at hj, ?_⟩⟩
 have := there_new w cells t
 rw [hc] at this
 exact this
set_option maxHeartbeats 1000000 in
theorem kgrow_nat (n : Nat) (w : World) (hn : n ≤ 1000) :
  Calls Tryz.prog 141 #[.slice none 0 0, .int .i64 n] w (GrowPost w) := by
 obtain ⟨i0, hi0, hz0, hz1, hz2⟩ := info_parts infoM
 have I0 := Lib.hid hi0
 have I1 := Lib.hid hz0
 have I2 := Lib.hid hz1
 have I3 := Lib.hid hz2
 have HN := Lib.hid hn
 have d1 : decide ((n : Int) < 0) = false := decide_eq_false (by omega)
 clear hi0 hz0 hz1 hz2
 by_cases h0 : n = 0
 ·subst h0
  go_enter Tryz.func141, Tryz.ntmps141
  go_wp2
  go_ret
  exact ⟨none, 0, rfl, RowAt.nil _ _ _, Below.refl _ _⟩
 ·have H0 : Hid (0 < n) := by rw [Hid]; omega
  have d2 : decide ((0 : Int) < (n : Int)) = true := decide_eq_true (by omega)
  clear h0
  go_enter Tryz.func141, Tryz.ntmps141
  go_wp2_with (refine wpList_append_run _ (by rfl) _ _ 115 3 (by rfl) (.slice none 0 0) (.int .i64 n) (by rfl) (by rfl) _ _ (run_append_nil_zeros w 115 3 _ 121 i0 _ .i64 .i64 Tryz.underlying115 Tryz.underlying3 I0.out I1.out n H0.out (by rw [I2.out]; omega) (by have := HN.out; omega) (by rw [I3.out]; have := HN.out; omega)) ?_)
  go_ret
  have hge := grownCap_ge w n 0 121
  have hle := grownCap_le_maxLen w n 0 121 (by unfold maxLen; have := HN.out; omega)
  generalize grownCap w n 0 121 = c at *
  refine ⟨some ⟨w.heap.size, 0, none⟩, c, rfl, (RowAt.fresh w _ _ 4 c ?_ hle).drew1, (below1 _ _).drew⟩
  simp [Builtin.zeroCells]
  omega
/-- Two slices of a row, laid behind each other. -/
def CatPost {α : Type} (f : α → List Value) (sz : Nat) (l : List α) (w : World) (e : Ending) (w' : World) : Prop := ∃ A c, e = .returned (.slice A l.length c) ∧ RowAt w' (fun k => w.heap.size ≤ k) sz (.slice A l.length c) l.length (rowL f l) ∧ Below w.heap.size w w'
set_option maxHeartbeats 2000000 in
theorem kconcat_nat (l1 l2 : List Mk) (ga oa gb ob c1 c2 g : Nat) (w : World) (h1 : l1.length ≤ 400) (h2 : l2.length ≤ 400) (r1 : w.rangeAt ga oa (rowL mL l1)) (r2 : w.rangeAt gb ob (rowL mL l2))
  (k0 : w.cell? ⟨g, 0, none⟩ = some (.slice (some ⟨ga, oa, none⟩) l1.length c1)) (k1 : w.cell? ⟨g, 1, none⟩ = some (.slice (some ⟨gb, ob, none⟩) l2.length c2)) :
  Calls Tryz.prog 113 #[.slice (some ⟨g, 0, none⟩) 2 2] w (CatPost mL 4 (l1 ++ l2) w) := by
 obtain ⟨i0, hi0, hz0, hz1, hz2⟩ := info_parts infoM
 have I0 := Lib.hid hi0
 have I1 := Lib.hid hz0
 have I2 := Lib.hid hz1
 have I3 := Lib.hid hz2
 have C1 := Lib.hid (kgrow_nat (l1.length + l2.length) w (by omega))
 have H1 := Lib.hid h1
 have H2 := Lib.hid h2
 have R1 := Lib.hid r1
 have R2 := Lib.hid r2
 have d1 : decide ((l1.length : Int) < 0) = false := decide_eq_false (by omega)
 have d2 : decide (((l1.length + l2.length : Nat) : Int) < 0) = false := decide_eq_false (by omega)
 have hg : g < w.heap.size := World.block_lt_of_cell? w _ k0
 clear hi0 hz0 hz1 hz2 r1 r2
 go_enter Tryz.func113, Tryz.ntmps113
 go_wp2
 refine wp_loop_rounds 3 ?_
 rw [rounds_succ]
 go_wp2
 rw [rounds_succ]
 go_wp2
 rw [rounds_succ]
 go_wp2_with (go_at_call 141; refine C1.out.mono ?_; rintro e w1 ⟨A0, c0, rfl, hrow, hb⟩; have HB1 := Lib.hid hb; have HR1 := Lib.hid hrow; have q0 := keep_cell hb k0; have q1 := keep_cell hb k1; have hg1 : g < w1.heap.size := Nat.lt_of_lt_of_le hg hb.size; clear hb hrow)
 refine wp_loop_rounds 3 ?_
 rw [rounds_succ]
 go_wp2_with (at_builtin; refine wpList_append_row (by rfl) _ _ 115 (by rfl) 121 i0 (.agg #[.int .i64 0, .int .u64 0, .int .i64 0, .int .u64 0]) 4 32 Tryz.underlying115 I0.out I1.out I2.out I3.out rfl (by omega) (fun k => w.heap.size ≤ k) (.slice A0 0 c0) 0 ([]) (by rfl) HR1.out ⟨ga, oa, none⟩ l1.length c1 (rowL mL l1) (by rfl) (by omega) (rowL_len mL 4 mL_len l1) (by intro j u hu; rw [Addr.add_mid]; exact keep_cell HB1.out (R1.out j u hu)) (row_one mL_one l1) (by have := H1.out; have := H2.out; unfold maxLen; omega) (by have := H1.out; have := H2.out; omega) ?_; intro A1' c1' w2 hr2 hk2; have HR2 := Lib.hid hr2; have HK2 := Lib.hid hk2; clear hr2 hk2)
 have HB2 : Hid (Below w.heap.size w w2) := HK2.out.toBelow HB1.out HB1.out.size (fun k h => h)
 have HR3 : Hid (RowAt w2 (fun k => w.heap.size ≤ k) 4 (.slice A1' l1.length c1') l1.length (rowL mL l1)) := by
  have h := HR2.out.mono (ok2 := fun k => w.heap.size ≤ k) (fun k _ y => y.elim id (fun z => Nat.le_trans HB1.out.size z))
  rw [Nat.zero_add, List.nil_append] at h
  exact h
 have q1' := HK2.out.cell q1 (by have := World.block_lt_of_cell? w _ k1; dsimp only at this; omega)
 have q0' := HK2.out.cell q0 (by have := World.block_lt_of_cell? w _ k1; dsimp only at this; omega)
 have hg2 : g < w2.heap.size := Nat.lt_of_lt_of_le hg1 HK2.out.size
 rw [rounds_succ]
 go_wp2_with (at_builtin; refine wpList_append_row (by rfl) _ _ 115 (by rfl) 121 i0 (.agg #[.int .i64 0, .int .u64 0, .int .i64 0, .int .u64 0]) 4 32 Tryz.underlying115 I0.out I1.out I2.out I3.out rfl (by omega) (fun k => w.heap.size ≤ k) (.slice A1' l1.length c1') l1.length (rowL mL l1) (by rfl) HR3.out ⟨gb, ob, none⟩ l2.length c2 (rowL mL l2) (by rfl) (by omega) (rowL_len mL 4 mL_len l2) (by intro j u hu; rw [Addr.add_mid]; exact keep_cell HB2.out (R2.out j u hu)) (row_one mL_one l2) (by have := H1.out; have := H2.out; unfold maxLen; omega) (by have := H1.out; have := H2.out; omega) ?_; intro A2' c2' w3 hr4 hk4; have HR4 := Lib.hid hr4; have HK4 := Lib.hid hk4; clear hr4 hk4)
 rw [rounds_succ]
 go_wp2
 go_ret
 refine ⟨A2', c2', by rw [List.length_append]; rfl, ?_, HK4.out.toBelow HB2.out HB2.out.size (fun k h => h)⟩
 rw [List.length_append, rowL_append]
 exact HR4.out.mono (fun k _ y => y.elim id (fun z => Nat.le_trans HB2.out.size z))
end Go.Proofs.YtbapgngngaaojaaGreat
namespace Go.Proofs.YtbapgngngaaojaaGreat
open Go.RowKit Go.Lib
set_option maxRecDepth 100000
set_option maxHeartbeats 2000000 in
theorem kdrop_nat {F : Nat → Prop} {q most : Nat} {l : List Mk} {w : World} (n : Int) (h : ListAt mL 4 F q most l w) (hn : l.length ≤ 400) :
  Calls Tryz.prog 67 #[.pointer (some ⟨q, 0, none⟩), .int .i64 n] w (DropPost mL 4 F q most (dropB l n) (dropL l n) w) := by
 obtain ⟨A, c, c0, f1, c1, hrow⟩ := h.open
 have hq := h.lt
 cases hb : dropB l n with
 | false =>
  rw [dropL_no l n hb]
  have HS := Lib.hid (h.still (Below.refl _ w))
  unfold dropB at hb
  clear h hrow
  by_cases h0 : n < 0
  ·have d1 : decide (n < 0) = true := decide_eq_true h0
   clear hb
   go_enter Tryz.func67, Tryz.ntmps67
   go_wp2
   go_ret
   exact ⟨rfl, HS.out⟩
  ·have d1 : decide (n < 0) = false := decide_eq_false h0
   have h1 : (l.length : Int) ≤ n := by
    rw [decide_eq_true (by omega : 0 ≤ n), Bool.true_and, decide_eq_false_iff_not] at hb
    omega
   have d2 : decide ((l.length : Int) ≤ n) = true := decide_eq_true h1
   clear hb
   go_enter Tryz.func67, Tryz.ntmps67
   go_wp2
   go_ret
   exact ⟨rfl, HS.out⟩
 | true =>
  unfold dropB at hb
  rw [Bool.and_eq_true, decide_eq_true_eq, decide_eq_true_eq] at hb
  obtain ⟨h0, h1⟩ := hb
  obtain ⟨i, rfl⟩ : ∃ i : Nat, n = (i : Int) := ⟨n.toNat, by omega⟩
  have hi : i < l.length := by omega
  have hL : dropL l (i : Int) = l.eraseIdx i := by unfold dropL; rw [if_pos h0]; rfl
  rw [hL]
  have HN : Hid ((l.eraseIdx i).length ≤ 400) := by rw [Hid, List.length_eraseIdx, if_pos hi]; omega
  have HP := Lib.hid h.1
  have H := Lib.hid h
  have d1 : decide ((i : Int) < 0) = false := decide_eq_false (by omega)
  have d2 : decide ((l.length : Int) ≤ (i : Int)) = false := decide_eq_false (by omega)
  have hl9 : (i : Int) < 400 := by omega
  obtain ⟨g, o, rfl, hc⟩ := row_some hrow (by omega)
  have R1 : Hid (w.rangeAt g o (rowL mL (l.take i))) := by
   have h2 := (hrow.short (k := i) (by omega)).range
   rw [rowL_take mL 4 mL_len] at h2
   exact h2
  have f0 : ¬ c = 0 := by omega
  have f1' : i ≤ c := by omega
  have f2 : i + 1 ≤ c := by omega
  have f3 : (i : Int) ≤ (c : Int) := by omega
  have f4 : (i : Int) + 1 ≤ (l.length : Int) := by omega
  have f5 : (0 : Int) ≤ (i : Int) + 1 := by omega
  have f6 : i + 1 ≤ l.length := by omega
  have f7 : (0 : Int) ≤ (i : Int) := by omega
  by_cases hci : c = i + 1
  ·have R2 : Hid (w.rangeAt g o (rowL mL (l.drop (i + 1)))) := by
    rw [List.drop_eq_nil_of_le (by omega)]
    exact fun j v hj => by simp [rowL] at hj
   have C : Hid (∀ u, Below w.heap.size w u → ∀ h, u.cell? ⟨h, 0, none⟩ = some (.slice (some ⟨g, o, none⟩) i c) → u.cell? ⟨h, 1, none⟩ = some (.slice (some ⟨g, o, none⟩) (l.length - (i + 1)) (c - (i + 1))) → Calls Tryz.prog 113 #[.slice (some ⟨h, 0, none⟩) 2 2] u (CatPost mL 4 (l.eraseIdx i) u)) := fun u hb h k0 k1 => by
    rw [List.eraseIdx_eq_take_drop_succ]
    have e1 : (l.take i).length = i := by rw [List.length_take]; omega
    have e2 : (l.drop (i + 1)).length = l.length - (i + 1) := List.length_drop
    exact kconcat_nat (l.take i) (l.drop (i + 1)) g o g (o) c (c - (i + 1)) h u (by omega) (by omega) (fun j v hj => keep_cell hb (R1.out j v hj)) (fun j v hj => keep_cell hb (R2.out j v hj)) (by rw [e1]; exact k0) (by rw [e2]; exact k1)
   obtain ⟨L, hLe⟩ : ∃ L, l.eraseIdx i = L := ⟨_, rfl⟩
   rw [hLe] at C HN ⊢
   clear hLe hL
   generalize hn' : l.length = n at *
   have HNL := Lib.hid hn'
   clear hn' R1 R2 hrow h
   go_enter Tryz.func67, Tryz.ntmps67
   go_wp2
   have hsi : IntKind.i64.wrap ((i : Int) + 1) = (i : Int) + 1 := IntWalk.i64_in _ (by omega)
   have f8 : (i : Int) + 1 ≤ (n : Int) := by omega
   have f9 : i + 1 ≤ n := by omega
   have f10 : (n : Int) ≤ (c : Int) := by omega
   have f11 : n ≤ c := by omega
   have HB1 : Hid (Below w.heap.size w (w.drew.alloc (.cells #[.slice (some ⟨g, o, none⟩) i c, .slice (some ⟨g, o, none⟩) (n - (i + 1)) (c - (i + 1))] 115))) := (Below.refl _ _).drew.alloc (Nat.le_refl _) _
   go_region_with (go_at_call 113; refine (C.out _ (by first | exact HB1.out | exact (below1 _ _).drew) _ (by first | (simp; done) | (simp; omega)) (by first | (simp; done) | (simp; omega))).mono ?_; rintro e w1 ⟨A1, c1', rfl, hrow1, hb1⟩; have HB2 : Hid (Below w.heap.size w w1) := (by first | exact HB1.out.trans (hb1.mono HB1.out.size) | exact ((below1 _ _).drew).trans (hb1.mono ((below1 _ _).drew).size)); have q0 := keep_cell HB2.out c0; have q1 := keep_cell HB2.out c1; have qf : w1.frozen? ⟨q, 1, none⟩ = false := keep_frozen HB2.out hq f1; have hq1 : q < w1.heap.size := Nat.lt_of_lt_of_le hq HB2.out.size; have HROW := Lib.hid hrow1; clear hb1 hrow1)
   all_goals
    go_wp2
    go_ret
    have hk1 := fun nq => list_put' (nq := nq) H.out (.ofBelow HB2.out) q0 q1 qf rfl (fun k y => .inr (Nat.le_trans (by simp) y)) HROW.out
    first | exact ⟨rfl, hk1 0⟩ | exact ⟨rfl, hk1 _⟩
  ·have R2 : Hid (w.rangeAt g (o + (i + 1) * 4) (rowL mL (l.drop (i + 1)))) := by
    have h2 := (hrow.cut (k := i + 1) (by omega)).range
    rw [rowL_drop mL 4 mL_len] at h2
    exact h2
   have C : Hid (∀ u, Below w.heap.size w u → ∀ h, u.cell? ⟨h, 0, none⟩ = some (.slice (some ⟨g, o, none⟩) i c) → u.cell? ⟨h, 1, none⟩ = some (.slice (some ⟨g, (o + (i + 1) * 4), none⟩) (l.length - (i + 1)) (c - (i + 1))) → Calls Tryz.prog 113 #[.slice (some ⟨h, 0, none⟩) 2 2] u (CatPost mL 4 (l.eraseIdx i) u)) := fun u hb h k0 k1 => by
    rw [List.eraseIdx_eq_take_drop_succ]
    have e1 : (l.take i).length = i := by rw [List.length_take]; omega
    have e2 : (l.drop (i + 1)).length = l.length - (i + 1) := List.length_drop
    exact kconcat_nat (l.take i) (l.drop (i + 1)) g o g ((o + (i + 1) * 4)) c (c - (i + 1)) h u (by omega) (by omega) (fun j v hj => keep_cell hb (R1.out j v hj)) (fun j v hj => keep_cell hb (R2.out j v hj)) (by rw [e1]; exact k0) (by rw [e2]; exact k1)
   obtain ⟨L, hLe⟩ : ∃ L, l.eraseIdx i = L := ⟨_, rfl⟩
   rw [hLe] at C HN ⊢
   clear hLe hL
   generalize hn' : l.length = n at *
   have HNL := Lib.hid hn'
   clear hn' R1 R2 hrow h
   go_enter Tryz.func67, Tryz.ntmps67
   go_wp2
   have hsi : IntKind.i64.wrap ((i : Int) + 1) = (i : Int) + 1 := IntWalk.i64_in _ (by omega)
   have f8 : (i : Int) + 1 ≤ (n : Int) := by omega
   have f9 : i + 1 ≤ n := by omega
   have f10 : (n : Int) ≤ (c : Int) := by omega
   have f11 : n ≤ c := by omega
   have HB1 : Hid (Below w.heap.size w (w.drew.alloc (.cells #[.slice (some ⟨g, o, none⟩) i c, .slice (some ⟨g, (o + (i + 1) * 4), none⟩) (n - (i + 1)) (c - (i + 1))] 115))) := (Below.refl _ _).drew.alloc (Nat.le_refl _) _
   go_region_with (go_at_call 113; refine (C.out _ (by first | exact HB1.out | exact (below1 _ _).drew) _ (by first | (simp; done) | (simp; omega)) (by first | (simp; done) | (simp; omega))).mono ?_; rintro e w1 ⟨A1, c1', rfl, hrow1, hb1⟩; have HB2 : Hid (Below w.heap.size w w1) := (by first | exact HB1.out.trans (hb1.mono HB1.out.size) | exact ((below1 _ _).drew).trans (hb1.mono ((below1 _ _).drew).size)); have q0 := keep_cell HB2.out c0; have q1 := keep_cell HB2.out c1; have qf : w1.frozen? ⟨q, 1, none⟩ = false := keep_frozen HB2.out hq f1; have hq1 : q < w1.heap.size := Nat.lt_of_lt_of_le hq HB2.out.size; have HROW := Lib.hid hrow1; clear hb1 hrow1)
   all_goals
    go_wp2
    go_ret
    have hk1 := fun nq => list_put' (nq := nq) H.out (.ofBelow HB2.out) q0 q1 qf rfl (fun k y => .inr (Nat.le_trans (by simp) y)) HROW.out
    first | exact ⟨rfl, hk1 0⟩ | exact ⟨rfl, hk1 _⟩
section
variable {x m pt pk : Nat} {pv : Value} {Fm Ft Fk : Nat → Prop} {s : St} {w : World}
theorem dropL_mem {α : Type} {l : List α} {n : Int} {y : α} (h : y ∈ dropL l n) : y ∈ l := by
 unfold dropL at h
 split at h
 ·exact List.mem_of_mem_eraseIdx h
 ·exact h
theorem dropL_len {α : Type} (l : List α) (n : Int) : (dropL l n).length ≤ l.length := by
 unfold dropL
 split
 ·rw [List.length_eraseIdx]; split <;> omega
 ·exact Nat.le_refl _
theorem mevict_nat (h : MmuD x m pt pk pv Fm Ft Fk s w) (n : Int) :
  Calls Tryz.prog 25 #[.pointer (some ⟨x, 0, none⟩), .int .i64 n] w fun e w' => e = .returned (.bool (dropB s.es n)) ∧ MmuPost x m pt pk pv Fm Ft Fk { s with es := dropL s.es n } w w' := by
 have C1 : Hid (Calls Tryz.prog 66 #[.pointer (some ⟨pt, 0, none⟩), .int .i64 n] w fun e w' => e = .returned (.bool (dropB s.es n)) ∧ MmuPost x m pt pk pv Fm Ft Fk { s with es := dropL s.es n } w w') :=
  (tdrop_nat n h.tlb (by have := h.ok.el; have := h.ok.m64; omega)).mono fun e w' hp => ⟨hp.1, (h.filled (e := .returned (.int .i64 0)) (Below.refl _ _) (Nat.le_trans (dropL_len _ _) h.ok.el) (fun k hk => h.ok.eok k (dropL_mem hk)) ⟨rfl, hp.2⟩).1⟩
 have c1 := h.c1
 have hx := h.bx
 clear h
 go_enter Tryz.func25, Tryz.ntmps25
 go_wp2_with (go_at_call 66; refine C1.out.mono ?_; rintro e w1 ⟨rfl, hp⟩; have HP := Lib.hid hp; clear hp)
 go_ret
 exact ⟨rfl, HP.out⟩
theorem mlose_nat (h : MmuD x m pt pk pv Fm Ft Fk s w) (n : Int) :
  Calls Tryz.prog 26 #[.pointer (some ⟨x, 0, none⟩), .int .i64 n] w fun e w' => e = .returned (.bool (dropB s.ks n)) ∧ MmuPost x m pt pk pv Fm Ft Fk { s with ks := dropL s.ks n } w w' := by
 have C1 : Hid (Calls Tryz.prog 67 #[.pointer (some ⟨pk, 0, none⟩), .int .i64 n] w fun e w' => e = .returned (.bool (dropB s.ks n)) ∧ MmuPost x m pt pk pv Fm Ft Fk { s with ks := dropL s.ks n } w w') :=
  (kdrop_nat n h.trail (by have := h.ok.kl; have := h.ok.m64; omega)).mono fun e w' hp => ⟨hp.1, (h.walked (e := .returned (.int .i64 0)) (Below.refl _ _) (Nat.le_trans (dropL_len _ _) h.ok.kl) (fun k hk => h.ok.kok k (dropL_mem hk)) ⟨⟨0, rfl⟩, hp.2⟩).1⟩
 have c2 := h.c2
 have hx := h.bx
 clear h
 go_enter Tryz.func26, Tryz.ntmps26
 go_wp2_with (go_at_call 67; refine C1.out.mono ?_; rintro e w1 ⟨rfl, hp⟩; have HP := Lib.hid hp; clear hp)
 go_ret
 exact ⟨rfl, HP.out⟩
end
end Go.Proofs.YtbapgngngaaojaaGreat
