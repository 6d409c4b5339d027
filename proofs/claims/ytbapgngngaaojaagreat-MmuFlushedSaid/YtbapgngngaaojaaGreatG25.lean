/- Plain: how many words there are; an access of either side. The walks of Set, Memory, Entries, Marks, Register. The walk of (*Mmu).Store. The walk of (*Mmu).Load. Plain: words stored, and loaded, one behind the other, are the document's. Plain: a machine stays right. -/
import Derived.Test.YtbapgngngaaojaaGreatG09
import Derived.Test.YtbapgngngaaojaaGreatG24
import Derived.Test.YtbapgngngaaojaaGreatG21
set_option linter.unusedSimpArgs false
set_option linter.unusedVariables false
namespace Go.Proofs.YtbapgngngaaojaaGreat
theorem cntN_same (g h : Nat → Nat) : ∀ k, (∀ j, j < k → g j = h j) → cntN g k = cntN h k
 | 0, _ => rfl
 | k + 1, e => by unfold cntN; rw [cntN_same g h k (fun j hj => e j (by omega)), e k (by omega)]
theorem cntN_one (g h : Nat → Nat) (j0 : Nat) (h1 : g j0 ≠ 0) (h2 : h j0 = 0) (he : ∀ j, j ≠ j0 → g j = h j) : ∀ k, j0 < k → cntN g k = cntN h k + 1
 | 0, hk => by omega
 | k + 1, hk => by
  unfold cntN
  by_cases e : j0 = k
  ·subst e
   rw [cntN_same g h j0 (fun j hj => he j (by omega)), if_neg h1, if_pos h2]
  ·rw [cntN_one g h j0 h1 h2 he k (by omega), he k (fun x => e x.symm)]
   omega
theorem rdM_none {ws : List (Nat × Nat)} {a : Nat} (h : a ∉ ws.map (·.1)) : rdM ws a = 0 := by
 induction ws with
 | nil => rfl
 | cons s r ih =>
  rw [List.map_cons, List.mem_cons] at h
  rw [rdM_cons, if_neg (fun e => h (.inl e.symm))]
  exact ih (fun x => h (.inr x))
/-- The words of a memory are as many as the list is long. -/
theorem words_len (sz : Nat) (hsz : sz % 4096 = 0) : ∀ ws : List (Nat × Nat), WsOk sz ws → wordsM sz (rdM ws) = ws.length
 | [], _ => cntN_zero (g := fun j => rdM [] (8 * j)) (sz / 4096 * 512) (fun _ _ => rfl)
 | t :: r, h => by
  have hn := h.1
  rw [List.map_cons, List.nodup_cons] at hn
  have hr : WsOk sz r := ⟨hn.2, fun y hy => h.2 y (List.mem_cons_of_mem _ hy)⟩
  have ih := words_len sz hsz r hr
  obtain ⟨h1, h2, h3⟩ := h.2 t List.mem_cons_self
  have h8 : t.1 % 8 = 0 ∧ t.1 < sz := by
   unfold mayP at h3
   split at h3
   ·rename_i q
    split at h3
    ·cases h3
    ·exact ⟨q, by omega⟩
   ·cases h3
  unfold wordsM at ih ⊢
  rw [List.length_cons, ← ih]
  refine cntN_one _ _ (t.1 / 8) ?_ ?_ ?_ _ (by omega)
  ·show rdM (t :: r) (8 * (t.1 / 8)) ≠ 0
   rw [show 8 * (t.1 / 8) = t.1 by omega, rdM_cons, if_pos rfl]; exact h1
  ·show rdM r (8 * (t.1 / 8)) = 0
   rw [show 8 * (t.1 / 8) = t.1 by omega]
   exact rdM_none hn.1
  ·intro j hj
   show rdM (t :: r) (8 * j) = rdM r (8 * j)
   rw [rdM_cons, if_neg (by omega)]
theorem writeP_rdM (sz a x : Nat) (ws : List (Nat × Nat)) : writeP sz (rdM ws) a x = rdM (if mayP sz a = 0 then wrM ws a x else ws) := by
 unfold writeP
 split
 ·funext b
  unfold putM
  exact (rdM_wrM ws a x b).symm
 ·rfl
theorem walkM_keeps (s : St) (root asid va : Nat) (fill led keep : Bool) : (walkM s root asid va fill led keep).2.sz = s.sz ∧ (walkM s root asid va fill led keep).2.rd = s.rd ∧ (walkM s root asid va fill led keep).2.most = s.most ∧ (walkM s root asid va fill led keep).2.reg = s.reg := by
 unfold walkM useP keepP
 dsimp only
 split <;> split <;> exact ⟨rfl, rfl, rfl, rfl⟩
theorem leafM_keeps (s : St) (va : Nat) (fill led keep : Bool) : (leafM s va fill led keep).2.sz = s.sz ∧ (leafM s va fill led keep).2.rd = s.rd ∧ (leafM s va fill led keep).2.most = s.most ∧ (leafM s va fill led keep).2.reg = s.reg := by
 unfold leafM
 split
 ·split
  ·exact ⟨rfl, rfl, rfl, rfl⟩
  ·split
   ·exact walkM_keeps _ _ _ _ _ _ _
   ·split <;> exact ⟨rfl, rfl, rfl, rfl⟩
 ·exact ⟨rfl, rfl, rfl, rfl⟩
/-- What an access tells, and leaves, is what the document's does. -/
theorem acc_same (sz most : Nat) (ws : List (Nat × Nat)) (es : List Ent) (ks : List Mk) (root asid : Nat) (kind : Int) (va x : Nat) (fill led keep : Bool) :
  accessM ⟨sz, rdM ws, most, es, ks, some (root, asid)⟩ kind va x fill led keep = ((accR sz most ws es ks root asid kind va x fill led keep).1, ⟨sz, rdM (accR sz most ws es ks root asid kind va x fill led keep).2.1, most, (accR sz most ws es ks root asid kind va x fill led keep).2.2.es, (accR sz most ws es ks root asid kind va x fill led keep).2.2.ks, some (root, asid)⟩) := by
 have hk := leafM_keeps ⟨sz, rdM ws, most, es, ks, some (root, asid)⟩ va fill led keep
 unfold accessM accR accL accF
 generalize leafM ⟨sz, rdM ws, most, es, ks, some (root, asid)⟩ va fill led keep = LM at *
 obtain ⟨l, ⟨z1, z2, z3, z4, z5, z6⟩⟩ := LM
 dsimp only at hk ⊢
 obtain ⟨rfl, rfl, rfl, rfl⟩ := hk
 generalize (if l.f = (0, 0) then letP l.d l.level kind else l.f) = f
 by_cases hf : f = (0, 0)
 ·rw [if_pos hf, if_pos hf]
  by_cases h2 : kind = 2
  ·rw [if_pos h2, if_pos h2, writeP_rdM]
  ·rw [if_neg h2, if_neg h2]
   unfold readP
   split <;> rfl
 ·rw [if_neg hf, if_neg hf]
end Go.Proofs.YtbapgngngaaojaaGreat
namespace Go.Proofs.YtbapgngngaaojaaGreat
open Go.RowKit Go.Lib
set_option maxRecDepth 100000
section
variable {x m pt pk : Nat} {pv : Value} {Fm Ft Fk : Nat → Prop} {s : St} {w : World}
theorem mmemory_nat (h : MmuD x m pt pk pv Fm Ft Fk s w) : Calls Tryz.prog 19 #[.pointer (some ⟨x, 0, none⟩)] w fun e w' => e = .returned (.pointer (some ⟨m, 0, none⟩)) ∧ w' = w := by
 have c0 := h.c0
 clear h
 go_enter Tryz.func19, Tryz.ntmps19
 go_wp2
 go_ret
 exact ⟨rfl, rfl⟩
theorem mentries_nat (h : MmuD x m pt pk pv Fm Ft Fk s w) : Calls Tryz.prog 39 #[.pointer (some ⟨x, 0, none⟩)] w (ClonePost eL s.es w) := by
 have c1 := h.c1
 have C1 : Hid (Calls Tryz.prog 56 #[.pointer (some ⟨pt, 0, none⟩)] w (ClonePost eL s.es w)) := tlbList_nat h.tlb (by have := h.ok.el; have := h.ok.m64; omega)
 clear h
 go_enter Tryz.func39, Tryz.ntmps39
 go_wp2_with (go_at_call 56; refine C1.out.mono ?_; rintro e w1 ⟨A, c, rfl, hr, hb⟩; have HR := Lib.hid hr; have HB := Lib.hid hb; clear hr hb)
 go_ret
 exact ⟨A, c, rfl, HR.out, HB.out⟩
theorem mmarks_nat (h : MmuD x m pt pk pv Fm Ft Fk s w) : Calls Tryz.prog 40 #[.pointer (some ⟨x, 0, none⟩)] w (ClonePost mL s.ks w) := by
 have c2 := h.c2
 have C1 : Hid (Calls Tryz.prog 57 #[.pointer (some ⟨pk, 0, none⟩)] w (ClonePost mL s.ks w)) := trailList_nat h.trail (by have := h.ok.kl; have := h.ok.m64; omega)
 clear h
 go_enter Tryz.func40, Tryz.ntmps40
 go_wp2_with (go_at_call 57; refine C1.out.mono ?_; rintro e w1 ⟨A, c, rfl, hr, hb⟩; have HR := Lib.hid hr; have HB := Lib.hid hb; clear hr hb)
 go_ret
 exact ⟨A, c, rfl, HR.out, HB.out⟩
/-- What the register is asked for. -/
def wordR (s : St) : Nat × Bool := match s.reg with
 | none => (0, false)
 | some (r, a) => (r + a * 281474976710656, true)
theorem mregister_nat (h : MmuD x m pt pk pv Fm Ft Fk s w) : Calls Tryz.prog 43 #[.pointer (some ⟨x, 0, none⟩)] w fun e w' => e = .returned (.tuple #[.int .u64 (wordR s).1, .bool (wordR s).2]) ∧ Below w.heap.size w w' := by
 have C1 : Hid (Calls Tryz.prog 55 #[.pointer (some ⟨x, 0, none⟩)] w (HeldPost s.reg w)) := held_nat h
 unfold wordR
 cases hr : s.reg with
 | none =>
  rw [hr] at C1
  clear h hr
  go_enter Tryz.func43, Tryz.ntmps43
  go_wp2_with (go_at_call 55; refine C1.out.mono ?_; rintro e w1 ⟨rfl, hb⟩; have HB := Lib.hid hb; clear hb)
  go_ret2
  exact ⟨rfl, HB.out.alloc HB.out.size _⟩
 | some p =>
  obtain ⟨r, a⟩ := p
  have hra := h.ok.rok r a hr
  have C2 : Hid (∀ u, Calls Tryz.prog 80 #[.int .u64 r, .int .i64 a] u fun e w' => e = .returned (.tuple #[.int .u64 (r + a * 281474976710656 : Nat), .int .i64 0]) ∧ Below u.heap.size u w') := fun u => base_ok r a u hra.1.2 hra.1.1 hra.2
  rw [hr] at C1
  clear h hr hra
  dsimp only
  generalize (r + a * 281474976710656) = R at *
  go_enter Tryz.func43, Tryz.ntmps43
  go_wp2_with (first | (go_at_call 55; refine C1.out.mono ?_; rintro e w1 ⟨rfl, hb⟩; have HB := Lib.hid hb; clear hb) | (go_at_call 80; refine (C2.out _).mono ?_; rintro e w2 ⟨rfl, hb2⟩; have HB2 := Lib.hid hb2; clear hb2))
  go_ret2
  exact ⟨rfl, (HB.out.alloc HB.out.size _).trans (HB2.out.mono (HB.out.alloc HB.out.size _).size)⟩
theorem MmuD.setR (h : MmuD x m pt pk pv Fm Ft Fk s w) {r a : Nat} (hr : Tb r) (ha : a < 256) : MmuPost x m pt pk pv Fm Ft Fk { s with reg := some (r, a) } w (w.setCell ⟨x, 3, none⟩ (rgV (some (r, a)))) := by
 have hk : Kp (fun k => k = x) w (w.setCell ⟨x, 3, none⟩ (rgV (some (r, a)))) := (Kp.refl (fun k => k = x) w).setCell (p := ⟨x, 3, none⟩) (.inl rfl) _
 have hnm : ∀ k, Fm k → ¬ k = x := fun k y e => h.dx.1 (e ▸ y)
 have hnt : ∀ k, WkF Ft pt k → ¬ k = x := fun k y e => h.dx.2.1 (e ▸ y)
 have hnk : ∀ k, WkF Fk pk k → ¬ k = x := fun k y e => h.dx.2.2 (e ▸ y)
 refine ⟨Fm, Ft, Fk, ⟨?_, ?_, ?_, ?_, ?_, ?_, ?_, h.mem.kept hk hnm, h.tlb.kept hk (hnt _ (.inl rfl)) (fun k y => hnt k (.inr y)), h.trail.kept hk (hnk _ (.inl rfl)) (fun k y => hnk k (.inr y)), h.dx, h.dm, h.dt, fun k y => Nat.lt_of_lt_of_le (h.bm k y) hk.size, ⟨h.ok.szle, h.ok.szal, h.ok.m1, h.ok.m64, h.ok.el, h.ok.kl, h.ok.eok, h.ok.kok, ?_⟩⟩, hk.mono (fun k e => .inl e), fun k y => .inl y⟩
 ·rw [World.cell?_setCell_other _ _ _ _ (by simp)]; exact h.c0
 ·rw [World.cell?_setCell_other _ _ _ _ (by simp)]; exact h.c1
 ·rw [World.cell?_setCell_other _ _ _ _ (by simp)]; exact h.c2
 ·exact World.cell?_setCell_same _ _ _ h.c3
 ·rw [World.frozen?_setCell]; exact h.f3
 ·rw [World.cell?_setCell_other _ _ _ _ (by simp)]; exact h.c4
 ·rw [World.frozen?_setCell]; exact h.f4
 ·intro r' a' e
  injection e with e
  injection e with e1 e2
  subst e1 e2
  exact ⟨hr, ha⟩
/-- A register's word. -/
def setP (s : St) (x : Nat) : Nat × St := if (regV x).2.2 = 0 then (0, { s with reg := some ((regV x).1, (regV x).2.1) }) else ((regV x).2.2, s)
theorem mset_nat (h : MmuD x m pt pk pv Fm Ft Fk s w) (v : Nat) (hv : v < 18446744073709551616) : Calls Tryz.prog 9 #[.pointer (some ⟨x, 0, none⟩), .int .u64 v] w fun e w' => e = .returned (.int .i64 (setP s v).1) ∧ MmuPost x m pt pk pv Fm Ft Fk (setP s v).2 w w' := by
 have C1 : Hid (Calls Tryz.prog 33 #[.int .u64 v] w fun e w' => e = .returned (.tuple #[.int .u64 (regV v).1, .int .i64 (regV v).2.1, .int .i64 (regV v).2.2]) ∧ Below w.heap.size w w') := readBase_any v w hv
 have hcase : ((regV v).2.2 = 0 ∧ Tb (regV v).1 ∧ (regV v).2.1 < 256) ∨ (regV v).2.2 = 10 := by
  unfold regV
  split
  ·rename_i hc
   left
   refine ⟨rfl, ⟨by dsimp only; omega, by dsimp only; omega⟩, by dsimp only; omega⟩
  ·right; rfl
 unfold setP
 generalize regV v = R at *
 obtain ⟨r, a, e0⟩ := R
 dsimp only at C1 hcase ⊢
 have HD := Lib.hid h
 have c3 := h.c3
 have f3 := h.f3
 have hx := h.bx
 clear h
 rcases hcase with ⟨rfl, ht, ha⟩ | rfl
 ·have HT := Lib.hid ht
  have HA := Lib.hid ha
  rw [if_pos rfl]
  clear ht ha
  go_enter Tryz.func9, Tryz.ntmps9
  go_wp2_with (go_at_call 33; refine C1.out.mono ?_; rintro e w1 ⟨rfl, hb⟩; have y3 := keep_cell hb c3; have g3 := (keep_frozen hb hx f3 : w1.frozen? ⟨x, 3, none⟩ = false); have HB := Lib.hid hb; clear hb)
  go_ret
  exact ⟨rfl, MmuPost.pre HB.out ((HD.out.below HB.out).setR HT.out HA.out)⟩
 ·rw [if_neg (by omega)]
  go_enter Tryz.func9, Tryz.ntmps9
  go_wp2_with (go_at_call 33; refine C1.out.mono ?_; rintro e w1 ⟨rfl, hb⟩; have HB := Lib.hid hb; clear hb)
  go_ret
  exact ⟨rfl, MmuPost.ofBelow HD.out HB.out⟩
end
def st0 (sz : Nat) (rd : Nat → Nat) (most : Nat) : St := ⟨sz, rd, most, [], [], none⟩
def MNewPost (m : Nat) (ok : Nat → Prop) (sz : Nat) (rd : Nat → Nat) (most : Nat) (w : World) (e : Ending) (w' : World) : Prop :=
 ∃ x pt pk, e = .returned (.tuple #[.pointer (some ⟨x, 0, none⟩), .int .i64 0]) ∧ w.heap.size ≤ x ∧ w.heap.size ≤ pt ∧ w.heap.size ≤ pk ∧ MmuD x m pt pk (.slice none 0 0) ok (fun _ => False) (fun _ => False) (st0 sz rd most) w' ∧ Below w.heap.size w w'
theorem mnew_nat {ok : Nat → Prop} {m sz : Nat} {rd : Nat → Nat} {w : World} (hm : MemAt w ok m sz rd) (hok : ∀ k, ok k → k < w.heap.size) (h1 : sz ≤ 4294967296) (h2 : sz % 4096 = 0) (most : Nat) (h3 : 1 ≤ most) (h4 : most ≤ 64) :
  Calls Tryz.prog 32 #[.pointer (some ⟨m, 0, none⟩), .int .i64 most] w (MNewPost m ok sz rd most w) := by
 have C1 := Lib.hid (fun w => tlbNew_nat most w h3 h4)
 have C2 := Lib.hid (fun w => trailNew_nat most w h3 h4)
 have HM := Lib.hid hm
 have HO := Lib.hid hok
 clear hm hok
 go_enter Tryz.func32, Tryz.ntmps32
 go_wp2_with (first | (go_at_call 75; refine (C1.out _).mono ?_; rintro e w1 ⟨rfl, hl1, hb1⟩; have HL1 := Lib.hid hl1; have HB1 := Lib.hid hb1; have hz1 : w.heap.size < w1.heap.size := hl1.lt; clear hl1 hb1) | (go_at_call 76; refine (C2.out _).mono ?_; rintro e w2 ⟨rfl, hl2, hb2⟩; have HL2 := Lib.hid hl2; have HB2 := Lib.hid hb2; have hz2 : w1.heap.size < w2.heap.size := hl2.lt; clear hl2 hb2))
 go_ret2
 have hb3 := below1 w2 (.cells #[.pointer (some ⟨m, 0, none⟩), .pointer (some ⟨w.heap.size, 0, none⟩), .pointer (some ⟨w1.heap.size, 0, none⟩), .nilIface, .slice none 0 0] 97)
 have hB : Below w.heap.size w (w2.alloc (.cells #[.pointer (some ⟨m, 0, none⟩), .pointer (some ⟨w.heap.size, 0, none⟩), .pointer (some ⟨w1.heap.size, 0, none⟩), .nilIface, .slice none 0 0] 97)) := (HB1.out.trans (HB2.out.mono HB1.out.size)).alloc (Nat.le_trans HB1.out.size HB2.out.size) _
 refine ⟨w2.heap.size, w.heap.size, w1.heap.size, rfl, by omega, by omega, by omega, ⟨by simp, by simp, by simp, by simp [st0, rgV], by simp, by simp, by simp, HM.out.below hB, (HL1.out.below HB2.out).below hb3, HL2.out.below hb3, ⟨fun y => ?_, fun y => ?_, fun y => ?_⟩, fun k y => ⟨fun z => ?_, fun z => ?_⟩, fun k y z => ?_, fun k y => ?_, ⟨h1, h2, h3, h4, by simp [st0], by simp [st0], by simp [st0], by simp [st0], by simp [st0]⟩⟩, hB⟩
 ·have := HO.out _ y; omega
 ·rcases y with y | y
  ·omega
  ·exact y
 ·rcases y with y | y
  ·omega
  ·exact y
 ·have := HO.out _ y
  rcases z with z | z
  ·omega
  ·exact z
 ·have := HO.out _ y
  rcases z with z | z
  ·omega
  ·exact z
 ·rcases y with y | y
  ·rcases z with z | z
   ·omega
   ·exact z
  ·exact y
 ·have := HO.out _ y
  have := hB.size
  omega
end Go.Proofs.YtbapgngngaaojaaGreat
namespace Go.Proofs.YtbapgngngaaojaaGreat
open Go.RowKit Go.Lib
set_option maxRecDepth 100000
attribute [local go_sem high] eqA_Fault
theorem acc_post {x m pt pk : Nat} {pv : Value} {Fm Ft Fk : Nat → Prop} {s : St} {u w : World} (h : MmuPost x m pt pk pv Fm Ft Fk s u w) (kind : Int) (va wd : Nat) (hv : va < 18446744073709551616) (hwd : wd < 18446744073709551616) (fill led keep : Bool) :
  Calls Tryz.prog 21 #[.pointer (some ⟨x, 0, none⟩), .int .i64 kind, .int .u64 va, .int .u64 wd, .agg #[.bool fill, .bool led, .bool keep]] w (fun e w' => e = .returned (.agg #[.int .i64 (accessM s kind va wd fill led keep).1.1.1, .int .i64 (accessM s kind va wd fill led keep).1.1.2, .int .u64 (accessM s kind va wd fill led keep).1.2]) ∧ MmuPost x m pt pk pv Fm Ft Fk (accessM s kind va wd fill led keep).2 u w' ∧ ∃ F, (∀ k, F k → MmuF x pt pk Fm Ft Fk k ∨ u.heap.size ≤ k ∧ k < w.heap.size) ∧ Kp F w w') := by
 obtain ⟨Fm', Ft', Fk', h1, h2, h3⟩ := h
 refine (access_nat h1 kind va wd hv hwd fill led keep).mono ?_
 rintro e w' ⟨h4, h5⟩
 refine ⟨h4, MmuPost.join h2 h3 h5, MmuF x pt pk Fm' Ft' Fk', fun k y => ?_, ?_⟩
 ·rcases h3 k y with z | z
  ·exact .inl z
  ·exact .inr ⟨z, h1.bF k y⟩
 ·obtain ⟨_, _, _, _, g, _⟩ := h5
  exact g
def addrP (va i : Nat) : Nat := (va + i * 8) % 18446744073709551616
def storeGo (va : Nat) (fill led keep : Bool) : List Nat → Nat → St → (Nat × (Nat × Nat)) × St
 | [], i, s => ((i, (0, 0)), s)
 | wd :: r, i, s =>
  if (accessM s 2 (addrP va i) wd fill led keep).1.1 = (0, 0) then storeGo va fill led keep r (i + 1) (accessM s 2 (addrP va i) wd fill led keep).2
  else ((i, (accessM s 2 (addrP va i) wd fill led keep).1.1), (accessM s 2 (addrP va i) wd fill led keep).2)
def wordsV (l : List Nat) : List Value := l.map (fun n : Nat => Value.int .u64 (n : Int))
def StorePost (x m pt pk : Nat) (pv : Value) (Fm Ft Fk : Nat → Prop) (R : (Nat × (Nat × Nat)) × St) (w : World) (e : Ending) (w' : World) : Prop :=
 e = .returned (.tuple #[.int .i64 R.1.1, .agg #[.int .i64 R.1.2.1, .int .i64 R.1.2.2]]) ∧ MmuPost x m pt pk pv Fm Ft Fk R.2 w w'
set_option maxHeartbeats 1000000 in
theorem store_core {x m pt pk : Nat} {pv : Value} {Fm Ft Fk : Nat → Prop} {s : St} {w : World} (h : MmuD x m pt pk pv Fm Ft Fk s w) (va : Nat) (hv : va < 18446744073709551616) (l : List Nat) (hl : ∀ n ∈ l, n < 18446744073709551616) (hn : l.length < 1000000) (g o c : Nat) (hg : ¬ MmuF x pt pk Fm Ft Fk g) (hgw : g < w.heap.size) (hrow : w.rangeAt g o (wordsV l)) (fill led keep : Bool) :
  Calls Tryz.prog 10 #[.pointer (some ⟨x, 0, none⟩), .int .u64 va, .slice (some ⟨g, o, none⟩) l.length c, .agg #[.bool fill, .bool led, .bool keep]] w (StorePost x m pt pk pv Fm Ft Fk (storeGo va fill led keep l 0 s) w) := by
 obtain ⟨R, hR⟩ : ∃ R, storeGo va fill led keep l 0 s = R := ⟨_, rfl⟩
 rw [hR]
 have HR := Lib.hid hR
 have HD := Lib.hid h
 have HL := Lib.hid hl
 have HROW := Lib.hid hrow
 have hx := h.bx
 clear h hl hrow hR
 go_enter Tryz.func10, Tryz.ntmps10
 go_upto_region 1 with fail
 have HBH' : Hid (Box ((w.alloc (.cells #[.bool fill, .bool led, .bool keep] 26)).alloc (.cells #[.int .i64 0, .int .i64 0] 43)) w.heap.size [.bool fill, .bool led, .bool keep]) :=
  (Box.new w [.bool fill, .bool led, .bool keep] 26).below (below1 _ _)
 have HBF' : Hid (Box ((w.alloc (.cells #[.bool fill, .bool led, .bool keep] 26)).alloc (.cells #[.int .i64 0, .int .i64 0] 43)) (w.heap.size + 1) [.int .i64 0, .int .i64 0]) := by
  have h := Box.new (w.alloc (.cells #[.bool fill, .bool led, .bool keep] 26)) [.int .i64 0, .int .i64 0] 43
  rw [World.size_alloc] at h
  exact h
 generalize hW : World.alloc (World.alloc w _) _ = W
 have hW' : (w.alloc (.cells #[.bool fill, .bool led, .bool keep] 26)).alloc (.cells #[.int .i64 0, .int .i64 0] 43) = W := hW
 rw [hW'] at HBH' HBF'
 have HB0 : Hid (Below w.heap.size w W) := by rw [← hW']; exact (below1 w _).alloc (by simp) _
 have HBH := HBH'
 have HBF := HBF'
 clear hW hW' HBH' HBF'
 go_wp2_with fail
 go_loopw [15] (fun iv wr => ∃ (i : Nat) (si : St), iv = .int .i64 i ∧ i ≤ l.length ∧ Hid (storeGo va fill led keep (l.drop i) i si = R) ∧ Hid (MmuPost x m pt pk pv Fm Ft Fk si W wr)) (fun iv _ => l.length - (RowKit.intOf iv).toNat)
 case atStart =>
  exact ⟨0, s, rfl, by omega, HR, MmuPost.refl (HD.out.below HB0.out)⟩
 case round =>
  obtain ⟨i, si, rfl, hi, HS, HP⟩ := hrel
  have HP0 := HP.out
  obtain ⟨_, _, _, -, hkp, -⟩ := HP0
  have HKP := Lib.hid hkp
  have hgw2 : ∀ k, w.heap.size ≤ k → ¬ MmuF x pt pk Fm Ft Fk k := fun k hk y => by have := HD.out.bF k y; omega
  have HBH1 : Hid (Box wr w.heap.size [.bool fill, .bool led, .bool keep]) := HBH.out.kept hkp (hgw2 _ (Nat.le_refl _))
  have HBF1 : Hid (Box wr (w.heap.size + 1) [.int .i64 0, .int .i64 0]) := HBF.out.kept hkp (hgw2 _ (by omega))
  have h0 := HBH1.out.at 0 _ rfl
  have h1 := HBH1.out.at 1 _ rfl
  have h2 := HBH1.out.at 2 _ rfl
  have k0 := HBF1.out.at 0 _ rfl
  have k1 := HBF1.out.at 1 _ rfl
  have fk := HBF1.out.2.1
  have hz := HBH1.out.2.2
  have kz := HBF1.out.2.2
  clear hkp
  by_cases hlt : i < l.length
  ·have hrw : wr.cell? ⟨g, o + i, none⟩ = some (.int .u64 (l[i] : Nat)) := HKP.out.cell (keep_cell HB0.out (HROW.out i _ (by simp [wordsV, hlt]))) hg
   have hwd : l[i] < 18446744073709551616 := HL.out _ (List.getElem_mem hlt)
   have hdrop : l.drop i = l[i] :: l.drop (i + 1) := List.drop_eq_getElem_cons hlt
   rw [hdrop] at HS
   generalize l[i] = wd at *
   have CA := Lib.hid (acc_post HP.out 2 (addrP va i) wd (by unfold addrP; omega) hwd fill led keep)
   have HS2 : Hid ((if (accessM si 2 (addrP va i) wd fill led keep).1.1 = (0, 0) then storeGo va fill led keep (l.drop (i + 1)) (i + 1) (accessM si 2 (addrP va i) wd fill led keep).2
    else ((i, (accessM si 2 (addrP va i) wd fill led keep).1.1), (accessM si 2 (addrP va i) wd fill led keep).2)) = R) := HS.out
   clear HS hdrop hwd
   generalize accessM si 2 (addrP va i) wd fill led keep = AM at *
   obtain ⟨⟨⟨f1, f2⟩, aw⟩, s2⟩ := AM
   have d1 : decide ((i : Int) < (l.length : Int)) = true := by simp; omega
   have hwrap : IntKind.u64.wrap ((va : Int) + (i : Int) * 8) = ((addrP va i : Nat) : Int) := by
    unfold addrP
    simp [IntKind.wrap, IntKind.signed, IntKind.bits]
   generalize addrP va i = ad at *
   go_wp2_with fail
   clear hwrap
   refine CA.out.mono ?_
   rintro e w1 ⟨rfl, hp, F, hF, hkF⟩
   have HP1 := Lib.hid hp
   have HKF := Lib.hid hkF
   have hFn : ∀ k, w.heap.size ≤ k → k < W.heap.size → ¬ F k := fun k h1 h2 y => by
    rcases hF k y with z | z
    ·have := HD.out.bF k z; omega
    ·omega
   have HFN := Lib.hid hFn
   have HBF2 : Hid (Box w1 (w.heap.size + 1) [.int .i64 0, .int .i64 0]) := HBF1.out.kept hkF (hFn _ (by omega) HBF.out.2.2)
   clear h0 h1 h2 k0 k1 fk hz kz hp hF hkF hFn hrw
   have k0 := HBF2.out.at 0 _ rfl
   have k1 := HBF2.out.at 1 _ rfl
   have fk := HBF2.out.2.1
   have kz := HBF2.out.2.2
   have ga : G2 w W (w.heap.size + 1) := ⟨by omega, HBF.out.2.2⟩
   dsimp only
   generalize hF1 : (f1 : Int) = F1 at *
   generalize hF2 : (f2 : Int) = F2 at *
   have HF1 := Lib.hid hF1
   have HF2 := Lib.hid hF2
   clear hF1 hF2
   generalize hq : (F1 == 0 && (F2 == 0)) = q
   have HQ := Lib.hid hq
   clear hq
   cases q with
   | true =>
    have hff : f1 = 0 ∧ f2 = 0 := by
     have := HQ.out
     rw [← HF1.out, ← HF2.out] at this
     simpa using this
    obtain ⟨rfl, rfl⟩ := hff
    have hq : (F1 == 0 && (F2 == 0)) = true := HQ.out
    have HE : Hid (storeGo va fill led keep (l.drop (i + 1)) (i + 1) s2 = R) := by have := HS2.out; rwa [if_pos rfl] at this
    clear HS2 CA
    go_wp2
    exact ⟨⟨i + 1, s2, by first | rfl | go_num, by omega, HE, HP1.out.below (below1 _ _)⟩, by simp [RowKit.intOf]; omega⟩
   | false =>
    have hne : ¬ (f1, f2) = (0, 0) := by
     intro e
     injection e with e1 e2
     have := HQ.out
     rw [← HF1.out, ← HF2.out, e1, e2] at this
     simp at this
    have HE : Hid (((i, (f1, f2)), s2) = R) := by have := HS2.out; rwa [if_neg hne] at this
    have hq : (F1 == 0 && (F2 == 0)) = false := HQ.out
    clear HS2 hne CA
    go_wp2
    go_region
    go_wp2
    refine bodyPost_ret (v := .tuple #[.int .i64 i, .agg #[.int .i64 F1, .int .i64 F2]]) (by simp [results, Tryz.results10, go_sem, k0, k1, kz]) rfl ?_
    rw [← HE.out]
    refine ⟨by rw [← HF1.out, ← HF2.out], MmuPost.fin HD.out HB0.out HP1.out ?_⟩
    exact ((((Kp.refl (G2 w W) w1).setCell (p := ⟨w.heap.size + 1, 0, none⟩) (.inl ga) _).setCell (p := ⟨w.heap.size + 1, 1, none⟩) (.inl ga) _).alloc _).drew
  ·have d1 : decide ((i : Int) < (l.length : Int)) = false := by simp; omega
   obtain rfl : i = l.length := by omega
   have HE : Hid (((l.length, (0, 0)), si) = R) := by have := HS.out; rw [List.drop_length] at this; exact this
   clear HS
   go_wp2
   refine bodyPost_ret (v := .tuple #[.int .i64 l.length, .agg #[.int .i64 0, .int .i64 0]]) (by simp [results, Tryz.results10, go_sem, k0, k1, kz]) rfl ?_
   rw [← HE.out]
   refine ⟨rfl, MmuPost.fin HD.out HB0.out HP.out ?_⟩
   have ga : G2 w W (w.heap.size + 1) := ⟨by omega, HBF.out.2.2⟩
   exact ((Kp.refl (G2 w W) wr).setCell (p := ⟨w.heap.size + 1, 0, none⟩) (.inl ga) _).setCell (p := ⟨w.heap.size + 1, 1, none⟩) (.inl ga) _
theorem store_nat {x m pt pk : Nat} {pv : Value} {Fm Ft Fk : Nat → Prop} {s : St} {w : World} (h : MmuD x m pt pk pv Fm Ft Fk s w) (va : Nat) (hv : va < 18446744073709551616) (l : List Nat) (hl : ∀ n ∈ l, n < 18446744073709551616) (hn : l.length < 1000000) (v : Value) (ok : Nat → Prop) (hr : RowAt w ok 1 v l.length (wordsV l)) (hok : ∀ k, ok k → ¬ MmuF x pt pk Fm Ft Fk k) (fill led keep : Bool) :
  Calls Tryz.prog 10 #[.pointer (some ⟨x, 0, none⟩), .int .u64 va, v, .agg #[.bool fill, .bool led, .bool keep]] w (StorePost x m pt pk pv Fm Ft Fk (storeGo va fill led keep l 0 s) w) := by
 rcases hr.2 with ⟨rfl, h0⟩ | ⟨g, o, c, rfl, h1, h2, _, _, h5, _⟩
 ·obtain rfl : l = [] := List.eq_nil_of_length_eq_zero h0
  have HD := Lib.hid h
  clear h hr
  go_enter Tryz.func10, Tryz.ntmps10
  go_wp2
  refine wp_loop_rounds 1 ?_
  rw [rounds_succ]
  go_wp2
  refine bodyPost_ret (v := .tuple #[.int .i64 0, .agg #[.int .i64 0, .int .i64 0]]) (by simp [results, Tryz.results10, go_sem]) rfl ⟨rfl, MmuPost.ofBelow HD.out ?_⟩
  exact (below1 w _).alloc (by simp) _
 ·exact store_core h va hv l hl hn g o c (hok g h1) h2 h5 fill led keep
end Go.Proofs.YtbapgngngaaojaaGreat
namespace Go.Proofs.YtbapgngngaaojaaGreat
open Go.RowKit Go.Lib
set_option maxRecDepth 100000
attribute [local go_sem high] eqA_Fault
def loadGo (va : Nat) (fill led keep : Bool) : Nat → Nat → List Nat → St → (List Nat × (Nat × Nat)) × St
 | 0, i, acc, s => ((acc, (0, 0)), s)
 | n + 1, i, acc, s =>
  if (accessM s 1 (addrP va i) 0 fill led keep).1.1 = (0, 0) then loadGo va fill led keep n (i + 1) (acc ++ [(accessM s 1 (addrP va i) 0 fill led keep).1.2]) (accessM s 1 (addrP va i) 0 fill led keep).2
  else ((acc, (accessM s 1 (addrP va i) 0 fill led keep).1.1), (accessM s 1 (addrP va i) 0 fill led keep).2)
def loadN (n : Int) : Nat := (min (max n 0) 512).toNat
/-- The machine and a row of the caller's, apart. -/
def Apart (x m pt pk : Nat) (pv : Value) (Fm Ft Fk : Nat → Prop) (s' : St) (acc : List Nat) (v : Value) (w w' : World) : Prop :=
 ∃ Or Fm' Ft' Fk', MmuD x m pt pk pv Fm' Ft' Fk' s' w' ∧ Kp (MmuF x pt pk Fm Ft Fk) w w' ∧ (∀ k, MmuF x pt pk Fm' Ft' Fk' k → MmuF x pt pk Fm Ft Fk k ∨ w.heap.size ≤ k) ∧ RowAt w' Or 1 v acc.length (wordsV acc) ∧ (∀ k, Or k → w.heap.size ≤ k ∧ ¬ MmuF x pt pk Fm' Ft' Fk' k)
def LoadPost (x m pt pk : Nat) (pv : Value) (Fm Ft Fk : Nat → Prop) (R : (List Nat × (Nat × Nat)) × St) (w : World) (e : Ending) (w' : World) : Prop :=
 ∃ A c, e = .returned (.tuple #[.slice A R.1.1.length c, .agg #[.int .i64 R.1.2.1, .int .i64 R.1.2.2]]) ∧ Apart x m pt pk pv Fm Ft Fk R.2 R.1.1 (.slice A R.1.1.length c) w w'
theorem infoU : (Tryz.prog.info? 23).map (fun i => (i.zero, i.size, i.bytes)) = some (some (.int .u64 0), 1, 8) := by kernel_rfl
theorem wordsV_len (l : List Nat) : (wordsV l).length = l.length := by simp [wordsV]
section
variable {x m pt pk : Nat} {pv : Value} {Fm Ft Fk : Nat → Prop} {s s' : St} {acc : List Nat} {v : Value} {w w' w2 : World}
theorem Apart.post (h : Apart x m pt pk pv Fm Ft Fk s acc v w w') : MmuPost x m pt pk pv Fm Ft Fk s w w' := by
 obtain ⟨Or, Fm', Ft', Fk', h1, h2, h3, _, _⟩ := h
 exact ⟨Fm', Ft', Fk', h1, h2, h3⟩
theorem Apart.start (h : MmuD x m pt pk pv Fm Ft Fk s w) : Apart x m pt pk pv Fm Ft Fk s [] (.slice none 0 0) w w :=
 ⟨fun _ => False, Fm, Ft, Fk, h, Kp.refl _ _, fun k y => .inl y, RowAt.nil _ _ _, fun k y => y.elim⟩
/-- An access leaves the row. -/
theorem Apart.access (h : Apart x m pt pk pv Fm Ft Fk s acc v w w') (kind : Int) (va wd : Nat) (hv : va < 18446744073709551616) (hwd : wd < 18446744073709551616) (fill led keep : Bool) :
  Calls Tryz.prog 21 #[.pointer (some ⟨x, 0, none⟩), .int .i64 kind, .int .u64 va, .int .u64 wd, .agg #[.bool fill, .bool led, .bool keep]] w' (fun e w2 => e = .returned (.agg #[.int .i64 (accessM s kind va wd fill led keep).1.1.1, .int .i64 (accessM s kind va wd fill led keep).1.1.2, .int .u64 (accessM s kind va wd fill led keep).1.2]) ∧ Apart x m pt pk pv Fm Ft Fk (accessM s kind va wd fill led keep).2 acc v w w2) := by
 obtain ⟨Or, Fm', Ft', Fk', h1, h2, h3, h4, h5⟩ := h
 refine (access_nat h1 kind va wd hv hwd fill led keep).mono ?_
 rintro e w2 ⟨h6, Fm2, Ft2, Fk2, g1, g2, g3⟩
 refine ⟨h6, fun k => Or k ∧ k < w'.heap.size, Fm2, Ft2, Fk2, g1, h2.trans g2 h3, fun k y => ?_, (h4.mono (fun k hk y => ⟨y, hk⟩)).kept g2 (fun k y => (h5 k y.1).2), fun k y => ⟨(h5 k y.1).1, fun z => ?_⟩⟩
 ·rcases g3 k y with z | z
  ·exact h3 k z
  ·exact .inr (Nat.le_trans h2.size z)
 ·rcases g3 k z with z | z
  ·exact (h5 k y.1).2 z
  ·have := y.2; omega
theorem Apart.below (h : Apart x m pt pk pv Fm Ft Fk s acc v w w') (hb : Below w'.heap.size w' w2) : Apart x m pt pk pv Fm Ft Fk s acc v w w2 := by
 obtain ⟨Or, Fm', Ft', Fk', h1, h2, h3, h4, h5⟩ := h
 exact ⟨Or, Fm', Ft', Fk', h1.below hb, h2.below hb, h3, h4.below hb, h5⟩
theorem Apart.fin {w0 W : World} {s0 : St} (h0 : MmuD x m pt pk pv Fm Ft Fk s0 w0) (hb : Below w0.heap.size w0 W) (h : Apart x m pt pk pv Fm Ft Fk s acc v W w') (hk : Kp (G2 w0 W) w' w2) : Apart x m pt pk pv Fm Ft Fk s acc v w0 w2 := by
 obtain ⟨Or, Fm', Ft', Fk', h1, h2, h3, h4, h5⟩ := h
 refine ⟨Or, Fm', Ft', Fk', h1.kept hk (fun k y z => ?_), ((Kp.ofBelow hb).trans h2 (fun i y => .inl y)).trans hk (fun i y => .inr y.1), fun k y => (h3 k y).imp id (fun z => Nat.le_trans hb.size z), h4.kept hk (fun k y z => ?_), fun k y => ⟨Nat.le_trans hb.size (h5 k y).1, (h5 k y).2⟩⟩
 ·rcases h3 k y with y | y
  ·have := h0.bF k y; have := z.1; omega
  ·have := z.2; omega
 ·have := (h5 k y).1; have := z.2; omega
/-- .. behind an append. -/
theorem Apart.grown {Or Fm' Ft' Fk' : Nat → Prop} {acc' : List Nat} {v' : Value} (h1 : MmuD x m pt pk pv Fm' Ft' Fk' s w') (h2 : Kp (MmuF x pt pk Fm Ft Fk) w w') (h3 : ∀ k, MmuF x pt pk Fm' Ft' Fk' k → MmuF x pt pk Fm Ft Fk k ∨ w.heap.size ≤ k) (h5 : ∀ k, Or k → w.heap.size ≤ k ∧ ¬ MmuF x pt pk Fm' Ft' Fk' k)
  (hr : RowAt w2 (fun k => Or k ∨ w'.heap.size ≤ k) 1 v' acc'.length (wordsV acc')) (hk : Kp Or w' w2) : Apart x m pt pk pv Fm Ft Fk s acc' v' w w2 := by
 refine ⟨fun k => Or k ∨ w'.heap.size ≤ k, Fm', Ft', Fk', h1.kept hk (fun k y z => (h5 k z).2 y), h2.trans hk (fun k y => .inr (h5 k y).1), h3, hr, fun k y => ?_⟩
 rcases y with y | y
 ·exact h5 k y
 ·exact ⟨Nat.le_trans h2.size y, fun z => by have := h1.bF k z; omega⟩
end
set_option maxHeartbeats 1000000 in
theorem load_nat {x m pt pk : Nat} {pv : Value} {Fm Ft Fk : Nat → Prop} {s : St} {w : World} (h : MmuD x m pt pk pv Fm Ft Fk s w) (va : Nat) (hv : va < 18446744073709551616) (n : Int) (fill led keep : Bool) :
  Calls Tryz.prog 13 #[.pointer (some ⟨x, 0, none⟩), .int .u64 va, .int .i64 n, .agg #[.bool fill, .bool led, .bool keep]] w (LoadPost x m pt pk pv Fm Ft Fk (loadGo va fill led keep (loadN n) 0 [] s) w) := by
 obtain ⟨R, hR⟩ : ∃ R, loadGo va fill led keep (loadN n) 0 [] s = R := ⟨_, rfl⟩
 rw [hR]
 have hN : (loadN n : Int) = min (max n 0) 512 := by unfold loadN; omega
 have hN2 : loadN n ≤ 512 := by omega
 generalize loadN n = N at *
 have HR := Lib.hid hR
 have HD := Lib.hid h
 have hx := h.bx
 have HN := Lib.hid hN
 obtain ⟨i0, hi0, hz0, hz1, hz2⟩ := info_parts infoU
 have I0 := Lib.hid hi0
 have I1 := Lib.hid hz0
 have I2 := Lib.hid hz1
 have I3 := Lib.hid hz2
 clear h hR hN hi0 hz0 hz1 hz2
 go_enter Tryz.func13, Tryz.ntmps13
 go_upto_region 1 with fail
 have HBH' : Hid (Box ((w.alloc (.cells #[.bool fill, .bool led, .bool keep] 26)).alloc (.cells #[.int .i64 0, .int .i64 0] 43)) w.heap.size [.bool fill, .bool led, .bool keep]) :=
  (Box.new w [.bool fill, .bool led, .bool keep] 26).below (below1 _ _)
 have HBF' : Hid (Box ((w.alloc (.cells #[.bool fill, .bool led, .bool keep] 26)).alloc (.cells #[.int .i64 0, .int .i64 0] 43)) (w.heap.size + 1) [.int .i64 0, .int .i64 0]) := by
  have h := Box.new (w.alloc (.cells #[.bool fill, .bool led, .bool keep] 26)) [.int .i64 0, .int .i64 0] 43
  rw [World.size_alloc] at h
  exact h
 generalize hW : World.alloc (World.alloc w _) _ = W
 have hW' : (w.alloc (.cells #[.bool fill, .bool led, .bool keep] 26)).alloc (.cells #[.int .i64 0, .int .i64 0] 43) = W := hW
 rw [hW'] at HBH' HBF'
 have HB0 : Hid (Below w.heap.size w W) := by rw [← hW']; exact (below1 w _).alloc (by simp) _
 have HBH := HBH'
 have HBF := HBF'
 clear hW hW' HBH' HBF'
 go_upto_region 2 with fail
 go_cut [15, 16] (fun s15 s16 wx => s15 = .int .i64 N ∧ s16 = .int .i64 0 ∧ wx = W)
 case first =>
  go_wp2_with fail
  all_goals
   go_meet
   refine ⟨?_, rfl, rfl⟩
   congr 1
   have := HN.out
   omega
 case rest =>
  obtain ⟨rfl, rfl, hwc⟩ := hcut
  rw [hwc]
  clear hwc
  go_wp2_with fail
  go_loopw [10, 16] (fun ov iv wr => ∃ (i : Nat) (si : St) (acc : List Nat) (A : Option Addr) (c : Nat), ov = .slice A acc.length c ∧ iv = .int .i64 i ∧ i ≤ N ∧ acc.length = i ∧ Hid (loadGo va fill led keep (N - i) i acc si = R) ∧ Hid (Apart x m pt pk pv Fm Ft Fk si acc (.slice A acc.length c) W wr)) (fun _ iv _ => N - (RowKit.intOf iv).toNat)
  case atStart =>
   exact ⟨0, s, [], none, 0, rfl, rfl, by omega, rfl, HR, Apart.start (HD.out.below HB0.out)⟩
  case round =>
   obtain ⟨i, si, acc, A, c, rfl, rfl, hi, hacc, HS, HP⟩ := hrel
   have hal : acc.length ≤ 512 := by omega
   have HACC := Lib.hid hacc
   clear hacc
   have hkp : Kp (MmuF x pt pk Fm Ft Fk) W wr := by
    obtain ⟨_, _, _, _, _, h2, _⟩ := HP.out
    exact h2
   have hgw2 : ∀ k, w.heap.size ≤ k → ¬ MmuF x pt pk Fm Ft Fk k := fun k hk y => by have := HD.out.bF k y; omega
   have HBH1 : Hid (Box wr w.heap.size [.bool fill, .bool led, .bool keep]) := HBH.out.kept hkp (hgw2 _ (Nat.le_refl _))
   have HBF1 : Hid (Box wr (w.heap.size + 1) [.int .i64 0, .int .i64 0]) := HBF.out.kept hkp (hgw2 _ (by omega))
   have h0 := HBH1.out.at 0 _ rfl
   have h1 := HBH1.out.at 1 _ rfl
   have h2 := HBH1.out.at 2 _ rfl
   have k0 := HBF1.out.at 0 _ rfl
   have k1 := HBF1.out.at 1 _ rfl
   have fk := HBF1.out.2.1
   have hz := HBH1.out.2.2
   have kz := HBF1.out.2.2
   have ga : G2 w W (w.heap.size + 1) := ⟨by omega, HBF.out.2.2⟩
   clear hkp
   by_cases hlt : i < N
   ·have CA := Lib.hid (Apart.access HP.out 1 (addrP va i) 0 (by unfold addrP; omega) (by omega) fill led keep)
    have HS2 : Hid ((if (accessM si 1 (addrP va i) 0 fill led keep).1.1 = (0, 0) then loadGo va fill led keep (N - (i + 1)) (i + 1) (acc ++ [(accessM si 1 (addrP va i) 0 fill led keep).1.2]) (accessM si 1 (addrP va i) 0 fill led keep).2
     else ((acc, (accessM si 1 (addrP va i) 0 fill led keep).1.1), (accessM si 1 (addrP va i) 0 fill led keep).2)) = R) := by
     have := HS.out
     rw [show N - i = (N - (i + 1)) + 1 by omega] at this
     exact this
    clear HS
    generalize accessM si 1 (addrP va i) 0 fill led keep = AM at *
    obtain ⟨⟨⟨f1, f2⟩, aw⟩, s2⟩ := AM
    have d1 : decide ((i : Int) < (N : Int)) = true := by simp; omega
    have hwrap : IntKind.u64.wrap ((va : Int) + (i : Int) * 8) = ((addrP va i : Nat) : Int) := by
     unfold addrP
     simp [IntKind.wrap, IntKind.signed, IntKind.bits]
    generalize addrP va i = ad at *
    go_wp2_with fail
    clear hwrap
    refine CA.out.mono ?_
    rintro e w1 ⟨rfl, hp⟩
    have HP1 := Lib.hid hp
    have hkp1 : Kp (MmuF x pt pk Fm Ft Fk) W w1 := by
     obtain ⟨_, _, _, _, _, h2, _⟩ := hp
     exact h2
    have HBF2 : Hid (Box w1 (w.heap.size + 1) [.int .i64 0, .int .i64 0]) := HBF.out.kept hkp1 (hgw2 _ (by omega))
    clear h0 h1 h2 k0 k1 fk hz kz hp hkp1
    have k0 := HBF2.out.at 0 _ rfl
    have k1 := HBF2.out.at 1 _ rfl
    have fk := HBF2.out.2.1
    have kz := HBF2.out.2.2
    dsimp only
    generalize hF1 : (f1 : Int) = F1 at *
    generalize hF2 : (f2 : Int) = F2 at *
    have HF1 := Lib.hid hF1
    have HF2 := Lib.hid hF2
    clear hF1 hF2
    generalize hq : (F1 == 0 && (F2 == 0)) = q
    have HQ := Lib.hid hq
    clear hq
    cases q with
    | true =>
     have hff : f1 = 0 ∧ f2 = 0 := by
      have := HQ.out
      rw [← HF1.out, ← HF2.out] at this
      simpa using this
     obtain ⟨rfl, rfl⟩ := hff
     have hq : (F1 == 0 && (F2 == 0)) = true := HQ.out
     have HE : Hid (loadGo va fill led keep (N - (i + 1)) (i + 1) (acc ++ [aw]) s2 = R) := by have := HS2.out; rwa [if_pos rfl] at this
     clear HS2 CA
     obtain ⟨Or, Fm', Ft', Fk', g1, g2, g3, g4, g5⟩ := HP1.out
     have G1 := Lib.hid g1
     have G2x := Lib.hid g2
     have G3 := Lib.hid g3
     have G4 := Lib.hid g4
     have G5 := Lib.hid g5
     have HALL := Lib.hid hal
     clear g1 g2 g3 g4 g5
     have HY : Hid (Below w1.heap.size w1 ((w1.alloc (.cells #[.int .i64 F1, .int .i64 F2, .int .u64 aw] 69)).alloc (.cells #[.int .u64 aw] 23))) := (below1 w1 _).alloc (by simp) _
     go_wp2_with (at_builtin; refine wpList_append_row (by rfl) _ _ 24 (by rfl) 23 i0 (.int .u64 0) 1 8 Tryz.underlying24 I0.out I1.out I2.out I3.out rfl (by omega) Or (.slice A acc.length c) acc.length (wordsV acc) (by rfl) (G4.out.below HY.out) ⟨w1.heap.size + 1, 0, none⟩ 1 1 [.int .u64 aw] (by rfl) (by omega) rfl (by intro j u hu; rw [Addr.add_mid]; have h9 := range_new (w1.alloc (.cells #[.int .i64 F1, .int .i64 F2, .int .u64 aw] 69)) #[.int .u64 aw] 23 j u hu; rw [World.size_alloc] at h9; exact h9) (by intro u hu; rw [List.mem_singleton.1 hu]; rfl) (by have := HALL.out; unfold maxLen; omega) (by have := HALL.out; omega) ?_; intro A' c' w5 hrow hk5; have HR5 := Lib.hid hrow; have HK5 := Lib.hid hk5; clear hrow hk5)
     have e1 : (acc ++ [aw]).length = acc.length + 1 := by simp
     have e2 : wordsV (acc ++ [aw]) = wordsV acc ++ [.int .u64 aw] := by simp [wordsV]
     refine ⟨⟨i + 1, s2, acc ++ [aw], A', c', by rw [e1], by first | rfl | go_num, by omega, by rw [e1, HACC.out], HE, ?_⟩, by simp [RowKit.intOf]; omega⟩
     exact Apart.grown (G1.out.below HY.out) (G2x.out.below HY.out) G3.out G5.out (by rw [e1, e2]; exact HR5.out) HK5.out
    | false =>
     have hne : ¬ (f1, f2) = (0, 0) := by
      intro e
      injection e with e1 e2
      have := HQ.out
      rw [← HF1.out, ← HF2.out, e1, e2] at this
      simp at this
     have HE : Hid (((acc, (f1, f2)), s2) = R) := by have := HS2.out; rwa [if_neg hne] at this
     have hq : (F1 == 0 && (F2 == 0)) = false := HQ.out
     clear HS2 hne CA
     go_wp2
     go_region
     go_wp2
     refine bodyPost_ret (v := .tuple #[.slice A acc.length c, .agg #[.int .i64 F1, .int .i64 F2]]) (by simp [results, Tryz.results13, go_sem, k0, k1, kz]) rfl ?_
     rw [← HE.out]
     refine ⟨A, c, by rw [← HF1.out, ← HF2.out], Apart.fin HD.out HB0.out HP1.out ?_⟩
     exact ((((Kp.refl (G2 w W) w1).setCell (p := ⟨w.heap.size + 1, 0, none⟩) (.inl ga) _).setCell (p := ⟨w.heap.size + 1, 1, none⟩) (.inl ga) _).alloc _).drew
   ·have d1 : decide ((i : Int) < (N : Int)) = false := by simp; omega
    obtain rfl : i = N := by omega
    have HE : Hid (((acc, (0, 0)), si) = R) := by have := HS.out; rw [Nat.sub_self] at this; exact this
    clear HS
    go_wp2
    refine bodyPost_ret (v := .tuple #[.slice A acc.length c, .agg #[.int .i64 0, .int .i64 0]]) (by simp [results, Tryz.results13, go_sem, k0, k1, kz]) rfl ?_
    rw [← HE.out]
    refine ⟨A, c, rfl, Apart.fin HD.out HB0.out HP.out ?_⟩
    exact ((Kp.refl (G2 w W) wr).setCell (p := ⟨w.heap.size + 1, 0, none⟩) (.inl ga) _).setCell (p := ⟨w.heap.size + 1, 1, none⟩) (.inl ga) _
end Go.Proofs.YtbapgngngaaojaaGreat
namespace Go.Proofs.YtbapgngngaaojaaGreat
/-- What changes in the document's machine. -/
structure Ys where
 ws : List (Nat × Nat)
 es : List Ent
 ks : List Mk
/-- As the program's machine. -/
def Ys.st (sz most root asid : Nat) (y : Ys) : St := ⟨sz, rdM y.ws, most, y.es, y.ks, some (root, asid)⟩
/-- An access of the document's machine. -/
def Ys.acc (sz most root asid : Nat) (y : Ys) (kind : Int) (va x : Nat) (fill led keep : Bool) : ((Nat × Nat) × Nat) × Ys :=
 ((accR sz most y.ws y.es y.ks root asid kind va x fill led keep).1, ⟨(accR sz most y.ws y.es y.ks root asid kind va x fill led keep).2.1, (accR sz most y.ws y.es y.ks root asid kind va x fill led keep).2.2.es, (accR sz most y.ws y.es y.ks root asid kind va x fill led keep).2.2.ks⟩)
section
variable (sz most root asid : Nat)
theorem Ys.same (y : Ys) (kind : Int) (va x : Nat) (fill led keep : Bool) : accessM (y.st sz most root asid) kind va x fill led keep = ((y.acc sz most root asid kind va x fill led keep).1, (y.acc sz most root asid kind va x fill led keep).2.st sz most root asid) :=
 acc_same sz most y.ws y.es y.ks root asid kind va x fill led keep
def storeY (va : Nat) (fill led keep : Bool) : List Nat → Nat → Ys → (Nat × (Nat × Nat)) × Ys
 | [], i, y => ((i, (0, 0)), y)
 | wd :: r, i, y =>
  if (y.acc sz most root asid 2 (addrP va i) wd fill led keep).1.1 = (0, 0) then storeY va fill led keep r (i + 1) (y.acc sz most root asid 2 (addrP va i) wd fill led keep).2
  else ((i, (y.acc sz most root asid 2 (addrP va i) wd fill led keep).1.1), (y.acc sz most root asid 2 (addrP va i) wd fill led keep).2)
def loadY (va : Nat) (fill led keep : Bool) : Nat → Nat → List Nat → Ys → (List Nat × (Nat × Nat)) × Ys
 | 0, i, acc, y => ((acc, (0, 0)), y)
 | n + 1, i, acc, y =>
  if (y.acc sz most root asid 1 (addrP va i) 0 fill led keep).1.1 = (0, 0) then loadY va fill led keep n (i + 1) (acc ++ [(y.acc sz most root asid 1 (addrP va i) 0 fill led keep).1.2]) (y.acc sz most root asid 1 (addrP va i) 0 fill led keep).2
  else ((acc, (y.acc sz most root asid 1 (addrP va i) 0 fill led keep).1.1), (y.acc sz most root asid 1 (addrP va i) 0 fill led keep).2)
/-- Words that are stored one behind the other. -/
theorem store_same (va : Nat) (fill led keep : Bool) : ∀ (l : List Nat) (i : Nat) (y : Ys), storeGo va fill led keep l i (y.st sz most root asid) = ((storeY sz most root asid va fill led keep l i y).1, (storeY sz most root asid va fill led keep l i y).2.st sz most root asid)
 | [], i, y => rfl
 | wd :: r, i, y => by
  unfold storeGo storeY
  rw [Ys.same]
  dsimp only
  by_cases h : (y.acc sz most root asid 2 (addrP va i) wd fill led keep).1.1 = (0, 0)
  ·rw [if_pos h, if_pos h]; exact store_same va fill led keep r (i + 1) _
  ·rw [if_neg h, if_neg h]
/-- Words that are loaded one behind the other. -/
theorem load_same (va : Nat) (fill led keep : Bool) : ∀ (n i : Nat) (acc : List Nat) (y : Ys), loadGo va fill led keep n i acc (y.st sz most root asid) = ((loadY sz most root asid va fill led keep n i acc y).1, (loadY sz most root asid va fill led keep n i acc y).2.st sz most root asid)
 | 0, i, acc, y => rfl
 | n + 1, i, acc, y => by
  unfold loadGo loadY
  rw [Ys.same]
  dsimp only
  by_cases h : (y.acc sz most root asid 1 (addrP va i) 0 fill led keep).1.1 = (0, 0)
  ·rw [if_pos h, if_pos h]; exact load_same va fill led keep n (i + 1) _ _
  ·rw [if_neg h, if_neg h]
theorem accF_ws (ws : List (Nat × Nat)) (o lv : Nat) (s1 : St) (kind : Int) (va x : Nat) (f : Nat × Nat) : (accF sz ws o lv s1 kind va x f).2.1 = ws ∨ (mayP sz (o + offP va lv) = 0 ∧ (accF sz ws o lv s1 kind va x f).2.1 = wrM ws (o + offP va lv) x) := by
 unfold accF
 by_cases hf : f = (0, 0)
 ·rw [if_pos hf]
  by_cases hk : kind = 2
  ·rw [if_pos hk]
   by_cases hm : mayP sz (o + offP va lv) = 0
   ·exact .inr ⟨hm, if_pos hm⟩
   ·exact .inl (if_neg hm)
  ·rw [if_neg hk]; exact .inl rfl
 ·rw [if_neg hf]; exact .inl rfl
/-- The document's words stay right. -/
theorem Ys.acc_ws {y : Ys} (h : WsOk sz y.ws) (kind : Int) (va x : Nat) (hx : x < 18446744073709551616) (fill led keep : Bool) : WsOk sz (y.acc sz most root asid kind va x fill led keep).2.ws := by
 show WsOk sz (accR sz most y.ws y.es y.ks root asid kind va x fill led keep).2.1
 unfold accR accL
 rcases accF_ws sz y.ws _ _ _ kind va x _ with e | ⟨hm, e⟩
 ·rw [e]; exact h
 ·rw [e]; exact h.write hm hx
theorem wrM_len (ws : List (Nat × Nat)) (a x : Nat) : (wrM ws a x).length ≤ ws.length + 1 := by
 have ht : ∀ ws : List (Nat × Nat), (wrGo a x true ws).length ≤ ws.length := by
  intro ws
  induction ws with
  | nil => unfold wrGo; exact Nat.le_refl _
  | cons s r ih => unfold wrGo; rw [List.length_append, List.length_cons]; split <;> simp <;> omega
 have hf : ∀ ws : List (Nat × Nat), (wrGo a x false ws).length ≤ ws.length + 1 := by
  intro ws
  induction ws with
  | nil => unfold wrGo; split <;> simp
  | cons s r ih =>
   have h1 := ht r
   unfold wrGo
   by_cases hle : a ≤ s.1
   ·rw [if_pos hle, List.length_append, List.length_append, List.length_cons]
    split <;> split <;> simp <;> omega
   ·rw [if_neg hle, List.length_append, List.length_cons, List.length_cons, List.length_nil]; omega
 exact hf ws
theorem Ys.acc_len (y : Ys) (kind : Int) (va x : Nat) (fill led keep : Bool) : (y.acc sz most root asid kind va x fill led keep).2.ws.length ≤ y.ws.length + 1 := by
 show (accR sz most y.ws y.es y.ks root asid kind va x fill led keep).2.1.length ≤ _
 unfold accR accL
 rcases accF_ws sz y.ws _ _ _ kind va x _ with e | ⟨_, e⟩
 ·rw [e]; exact Nat.le_succ _
 ·rw [e]; exact wrM_len _ _ _
end
end Go.Proofs.YtbapgngngaaojaaGreat
namespace Go.Proofs.YtbapgngngaaojaaGreat
theorem OkSt.setK {s : St} (h : OkSt s) {ks : List Mk} (h1 : ∀ x ∈ ks, okM x) (h2 : ks.length ≤ s.most) : OkSt { s with ks := ks } := ⟨h.szle, h.szal, h.m1, h.m64, h.el, h2, h.eok, h1, h.rok⟩
theorem OkSt.setE {s : St} (h : OkSt s) {es : List Ent} (h1 : ∀ x ∈ es, okE x) (h2 : es.length ≤ s.most) : OkSt { s with es := es } := ⟨h.szle, h.szal, h.m1, h.m64, h2, h.kl, h1, h.kok, h.rok⟩
theorem OkSt.setM {s : St} (h : OkSt s) (rd : Nat → Nat) : OkSt { s with rd := rd } := ⟨h.szle, h.szal, h.m1, h.m64, h.el, h.kl, h.eok, h.kok, h.rok⟩
theorem walkM_okSt {s : St} (h : OkSt s) {root asid : Nat} (hr : s.reg = some (root, asid)) (va : Nat) (fill led keep : Bool) : OkSt (walkM s root asid va fill led keep).2 := by
 have ha := (h.rok root asid hr).2
 unfold walkM
 dsimp only
 have hfo := fromP_ok s.sz s.rd (beginP s root asid va led).1 (beginP s root asid va led).2 va
 generalize fromP s.sz s.rd (beginP s root asid va led).1 (beginP s root asid va led).2 va = F at *
 have hw := walkedP_ok (va := va) ha F.steps s.ks (beginP s root asid va led).1 h.kok h.kl
 generalize walkedP s.most asid va s.ks (beginP s root asid va led).1 F.steps = K at *
 have hk : OkSt (keepP s keep K) := by
  unfold keepP
  split
  ·exact h.setK hw.1 hw.2
  ·exact h
 have hm : (keepP s keep K).most = s.most ∧ (keepP s keep K).es = s.es := by unfold keepP; split <;> exact ⟨rfl, rfl⟩
 unfold useP
 split
 ·rename_i hc
  refine hk.setE ?_ ?_
  ·exact fillP_ok hk.eok (okE_leaf ha (hfo.1.2.1 hc.2.1).1 hc.2.2)
  ·exact fillP_len hk.el
 ·exact hk
theorem leafM_okSt {s : St} (h : OkSt s) (va : Nat) (fill led keep : Bool) : OkSt (leafM s va fill led keep).2 := by
 unfold leafM
 split
 ·split
  ·exact h
  ·rename_i r a hr
   split
   ·exact walkM_okSt h hr va fill led keep
   ·split <;> exact h
 ·exact h
theorem accessM_okSt {s : St} (h : OkSt s) (kind : Int) (va x : Nat) (fill led keep : Bool) : OkSt (accessM s kind va x fill led keep).2 := by
 have hl := leafM_okSt h va fill led keep
 unfold accessM
 generalize leafM s va fill led keep = LM at *
 dsimp only
 by_cases hf : (if LM.1.f = (0, 0) then letP LM.1.d LM.1.level kind else LM.1.f) = (0, 0)
 ·rw [if_pos hf]
  by_cases hk : kind = 2
  ·rw [if_pos hk]; exact hl.setM _
  ·rw [if_neg hk]; exact hl
 ·rw [if_neg hf]; exact hl
/-- The document's machine stays right. -/
theorem Ys.acc_ok {sz most root asid : Nat} {y : Ys} (h : OkSt (y.st sz most root asid)) (kind : Int) (va x : Nat) (fill led keep : Bool) : OkSt ((y.acc sz most root asid kind va x fill led keep).2.st sz most root asid) := by
 have h2 := accessM_okSt h kind va x fill led keep
 rw [Ys.same] at h2
 exact h2
end Go.Proofs.YtbapgngngaaojaaGreat
