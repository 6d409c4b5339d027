/- Plain: how many words there are; an access of either side. Plain: an access of the program's machine is the document's. Plain: a machine stays right. The walks of Set, Memory, Entries, Marks, Register. The law's opened: a machine over a memory with words, and the document's. The walk of (*Mmu).table. Sound: what it answers, in numbers; the way without a register. -/
import Derived.Test.YtbapgngngaaojaaGreatG09
import Derived.Test.YtbapgngngaaojaaGreatG24
import Derived.Test.YtbapgngngaaojaaGreatG21
import Derived.Test.YtbapgngngaaojaaGreatG10
set_option linter.unusedSimpArgs false
set_option linter.unusedVariables false
namespace Go.Proofs.YtbapgngngaaojaaGreat
theorem cntN_same (g h : Nat → Nat) : ∀ k, (∀ j, j < k → g j = h j) → cntN g k = cntN h k
 | 0, _ => rfl
 | k + 1, e => by unfold cntN; rw [cntN_same g h k (fun j hj => e j (by omega)), e k (by omega)]
theorem cntN_one (g h : Nat → Nat) (j0 : Nat) (h1 : g j0 ≠ 0) (h2 : h j0 = 0) (he : ∀ j, j ≠ j0 → g j = h j) : ∀ k, j0 < k → cntN g k = cntN h k + 1
 | 0, hk => by omega
 | k + 1, hk => by
  unfold cntN
  by_cases e : j0 = k
  ·subst e
   rw [cntN_same g h j0 (fun j hj => he j (by omega)), if_neg h1, if_pos h2]
  ·rw [cntN_one g h j0 h1 h2 he k (by omega), he k (fun x => e x.symm)]
   omega
theorem rdM_none {ws : List (Nat × Nat)} {a : Nat} (h : a ∉ ws.map (·.1)) : rdM ws a = 0 := by
 induction ws with
 | nil => rfl
 | cons s r ih =>
  rw [List.map_cons, List.mem_cons] at h
  rw [rdM_cons, if_neg (fun e => h (.inl e.symm))]
  exact ih (fun x => h (.inr x))
/-- The words of a memory are as many as the list is long. -/
theorem words_len (sz : Nat) (hsz : sz % 4096 = 0) : ∀ ws : List (Nat × Nat), WsOk sz ws → wordsM sz (rdM ws) = ws.length
 | [], _ => cntN_zero (g := fun j => rdM [] (8 * j)) (sz / 4096 * 512) (fun _ _ => rfl)
 | t :: r, h => by
  have hn := h.1
  rw [List.map_cons, List.nodup_cons] at hn
  have hr : WsOk sz r := ⟨hn.2, fun y hy => h.2 y (List.mem_cons_of_mem _ hy)⟩
  have ih := words_len sz hsz r hr
  obtain ⟨h1, h2, h3⟩ := h.2 t List.mem_cons_self
  have h8 : t.1 % 8 = 0 ∧ t.1 < sz := by
   unfold mayP at h3
   split at h3
   ·rename_i q
    split at h3
    ·cases h3
    ·exact ⟨q, by omega⟩
   ·cases h3
  unfold wordsM at ih ⊢
  rw [List.length_cons, ← ih]
  refine cntN_one _ _ (t.1 / 8) ?_ ?_ ?_ _ (by omega)
  ·show rdM (t :: r) (8 * (t.1 / 8)) ≠ 0
   rw [show 8 * (t.1 / 8) = t.1 by omega, rdM_cons, if_pos rfl]; exact h1
  ·show rdM r (8 * (t.1 / 8)) = 0
   rw [show 8 * (t.1 / 8) = t.1 by omega]
   exact rdM_none hn.1
  ·intro j hj
   show rdM (t :: r) (8 * j) = rdM r (8 * j)
   rw [rdM_cons, if_neg (by omega)]
theorem writeP_rdM (sz a x : Nat) (ws : List (Nat × Nat)) : writeP sz (rdM ws) a x = rdM (if mayP sz a = 0 then wrM ws a x else ws) := by
 unfold writeP
 split
 ·funext b
  unfold putM
  exact (rdM_wrM ws a x b).symm
 ·rfl
theorem walkM_keeps (s : St) (root asid va : Nat) (fill led keep : Bool) : (walkM s root asid va fill led keep).2.sz = s.sz ∧ (walkM s root asid va fill led keep).2.rd = s.rd ∧ (walkM s root asid va fill led keep).2.most = s.most ∧ (walkM s root asid va fill led keep).2.reg = s.reg := by
 unfold walkM useP keepP
 dsimp only
 split <;> split <;> exact ⟨rfl, rfl, rfl, rfl⟩
theorem leafM_keeps (s : St) (va : Nat) (fill led keep : Bool) : (leafM s va fill led keep).2.sz = s.sz ∧ (leafM s va fill led keep).2.rd = s.rd ∧ (leafM s va fill led keep).2.most = s.most ∧ (leafM s va fill led keep).2.reg = s.reg := by
 unfold leafM
 split
 ·split
  ·exact ⟨rfl, rfl, rfl, rfl⟩
  ·split
   ·exact walkM_keeps _ _ _ _ _ _ _
   ·split <;> exact ⟨rfl, rfl, rfl, rfl⟩
 ·exact ⟨rfl, rfl, rfl, rfl⟩
/-- What an access tells, and leaves, is what the document's does. -/
theorem acc_same (sz most : Nat) (ws : List (Nat × Nat)) (es : List Ent) (ks : List Mk) (root asid : Nat) (kind : Int) (va x : Nat) (fill led keep : Bool) :
  accessM ⟨sz, rdM ws, most, es, ks, some (root, asid)⟩ kind va x fill led keep = ((accR sz most ws es ks root asid kind va x fill led keep).1, ⟨sz, rdM (accR sz most ws es ks root asid kind va x fill led keep).2.1, most, (accR sz most ws es ks root asid kind va x fill led keep).2.2.es, (accR sz most ws es ks root asid kind va x fill led keep).2.2.ks, some (root, asid)⟩) := by
 have hk := leafM_keeps ⟨sz, rdM ws, most, es, ks, some (root, asid)⟩ va fill led keep
 unfold accessM accR accL accF
 generalize leafM ⟨sz, rdM ws, most, es, ks, some (root, asid)⟩ va fill led keep = LM at *
 obtain ⟨l, ⟨z1, z2, z3, z4, z5, z6⟩⟩ := LM
 dsimp only at hk ⊢
 obtain ⟨rfl, rfl, rfl, rfl⟩ := hk
 generalize (if l.f = (0, 0) then letP l.d l.level kind else l.f) = f
 by_cases hf : f = (0, 0)
 ·rw [if_pos hf, if_pos hf]
  by_cases h2 : kind = 2
  ·rw [if_pos h2, if_pos h2, writeP_rdM]
  ·rw [if_neg h2, if_neg h2]
   unfold readP
   split <;> rfl
 ·rw [if_neg hf, if_neg hf]
end Go.Proofs.YtbapgngngaaojaaGreat
namespace Go.Proofs.YtbapgngngaaojaaGreat
/-- What changes in the document's machine. -/
structure Ys where
 ws : List (Nat × Nat)
 es : List Ent
 ks : List Mk
/-- As the program's machine. -/
def Ys.st (sz most root asid : Nat) (y : Ys) : St := ⟨sz, rdM y.ws, most, y.es, y.ks, some (root, asid)⟩
/-- An access of the document's machine. -/
def Ys.acc (sz most root asid : Nat) (y : Ys) (kind : Int) (va x : Nat) (fill led keep : Bool) : ((Nat × Nat) × Nat) × Ys :=
 ((accR sz most y.ws y.es y.ks root asid kind va x fill led keep).1, ⟨(accR sz most y.ws y.es y.ks root asid kind va x fill led keep).2.1, (accR sz most y.ws y.es y.ks root asid kind va x fill led keep).2.2.es, (accR sz most y.ws y.es y.ks root asid kind va x fill led keep).2.2.ks⟩)
section
variable (sz most root asid : Nat)
theorem Ys.same (y : Ys) (kind : Int) (va x : Nat) (fill led keep : Bool) : accessM (y.st sz most root asid) kind va x fill led keep = ((y.acc sz most root asid kind va x fill led keep).1, (y.acc sz most root asid kind va x fill led keep).2.st sz most root asid) :=
 acc_same sz most y.ws y.es y.ks root asid kind va x fill led keep
theorem accF_ws (ws : List (Nat × Nat)) (o lv : Nat) (s1 : St) (kind : Int) (va x : Nat) (f : Nat × Nat) : (accF sz ws o lv s1 kind va x f).2.1 = ws ∨ (mayP sz (o + offP va lv) = 0 ∧ (accF sz ws o lv s1 kind va x f).2.1 = wrM ws (o + offP va lv) x) := by
 unfold accF
 by_cases hf : f = (0, 0)
 ·rw [if_pos hf]
  by_cases hk : kind = 2
  ·rw [if_pos hk]
   by_cases hm : mayP sz (o + offP va lv) = 0
   ·exact .inr ⟨hm, if_pos hm⟩
   ·exact .inl (if_neg hm)
  ·rw [if_neg hk]; exact .inl rfl
 ·rw [if_neg hf]; exact .inl rfl
/-- The document's words stay right. -/
theorem Ys.acc_ws {y : Ys} (h : WsOk sz y.ws) (kind : Int) (va x : Nat) (hx : x < 18446744073709551616) (fill led keep : Bool) : WsOk sz (y.acc sz most root asid kind va x fill led keep).2.ws := by
 show WsOk sz (accR sz most y.ws y.es y.ks root asid kind va x fill led keep).2.1
 unfold accR accL
 rcases accF_ws sz y.ws _ _ _ kind va x _ with e | ⟨hm, e⟩
 ·rw [e]; exact h
 ·rw [e]; exact h.write hm hx
theorem wrM_len (ws : List (Nat × Nat)) (a x : Nat) : (wrM ws a x).length ≤ ws.length + 1 := by
 have ht : ∀ ws : List (Nat × Nat), (wrGo a x true ws).length ≤ ws.length := by
  intro ws
  induction ws with
  | nil => unfold wrGo; exact Nat.le_refl _
  | cons s r ih => unfold wrGo; rw [List.length_append, List.length_cons]; split <;> simp <;> omega
 have hf : ∀ ws : List (Nat × Nat), (wrGo a x false ws).length ≤ ws.length + 1 := by
  intro ws
  induction ws with
  | nil => unfold wrGo; split <;> simp
  | cons s r ih =>
   have h1 := ht r
   unfold wrGo
   by_cases hle : a ≤ s.1
   ·rw [if_pos hle, List.length_append, List.length_append, List.length_cons]
    split <;> split <;> simp <;> omega
   ·rw [if_neg hle, List.length_append, List.length_cons, List.length_cons, List.length_nil]; omega
 exact hf ws
theorem Ys.acc_len (y : Ys) (kind : Int) (va x : Nat) (fill led keep : Bool) : (y.acc sz most root asid kind va x fill led keep).2.ws.length ≤ y.ws.length + 1 := by
 show (accR sz most y.ws y.es y.ks root asid kind va x fill led keep).2.1.length ≤ _
 unfold accR accL
 rcases accF_ws sz y.ws _ _ _ kind va x _ with e | ⟨_, e⟩
 ·rw [e]; exact Nat.le_succ _
 ·rw [e]; exact wrM_len _ _ _
end
end Go.Proofs.YtbapgngngaaojaaGreat
namespace Go.Proofs.YtbapgngngaaojaaGreat
theorem OkSt.setK {s : St} (h : OkSt s) {ks : List Mk} (h1 : ∀ x ∈ ks, okM x) (h2 : ks.length ≤ s.most) : OkSt { s with ks := ks } := ⟨h.szle, h.szal, h.m1, h.m64, h.el, h2, h.eok, h1, h.rok⟩
theorem OkSt.setE {s : St} (h : OkSt s) {es : List Ent} (h1 : ∀ x ∈ es, okE x) (h2 : es.length ≤ s.most) : OkSt { s with es := es } := ⟨h.szle, h.szal, h.m1, h.m64, h2, h.kl, h1, h.kok, h.rok⟩
theorem OkSt.setM {s : St} (h : OkSt s) (rd : Nat → Nat) : OkSt { s with rd := rd } := ⟨h.szle, h.szal, h.m1, h.m64, h.el, h.kl, h.eok, h.kok, h.rok⟩
theorem walkM_okSt {s : St} (h : OkSt s) {root asid : Nat} (hr : s.reg = some (root, asid)) (va : Nat) (fill led keep : Bool) : OkSt (walkM s root asid va fill led keep).2 := by
 have ha := (h.rok root asid hr).2
 unfold walkM
 dsimp only
 have hfo := fromP_ok s.sz s.rd (beginP s root asid va led).1 (beginP s root asid va led).2 va
 generalize fromP s.sz s.rd (beginP s root asid va led).1 (beginP s root asid va led).2 va = F at *
 have hw := walkedP_ok (va := va) ha F.steps s.ks (beginP s root asid va led).1 h.kok h.kl
 generalize walkedP s.most asid va s.ks (beginP s root asid va led).1 F.steps = K at *
 have hk : OkSt (keepP s keep K) := by
  unfold keepP
  split
  ·exact h.setK hw.1 hw.2
  ·exact h
 have hm : (keepP s keep K).most = s.most ∧ (keepP s keep K).es = s.es := by unfold keepP; split <;> exact ⟨rfl, rfl⟩
 unfold useP
 split
 ·rename_i hc
  refine hk.setE ?_ ?_
  ·exact fillP_ok hk.eok (okE_leaf ha (hfo.1.2.1 hc.2.1).1 hc.2.2)
  ·exact fillP_len hk.el
 ·exact hk
theorem leafM_okSt {s : St} (h : OkSt s) (va : Nat) (fill led keep : Bool) : OkSt (leafM s va fill led keep).2 := by
 unfold leafM
 split
 ·split
  ·exact h
  ·rename_i r a hr
   split
   ·exact walkM_okSt h hr va fill led keep
   ·split <;> exact h
 ·exact h
theorem accessM_okSt {s : St} (h : OkSt s) (kind : Int) (va x : Nat) (fill led keep : Bool) : OkSt (accessM s kind va x fill led keep).2 := by
 have hl := leafM_okSt h va fill led keep
 unfold accessM
 generalize leafM s va fill led keep = LM at *
 dsimp only
 by_cases hf : (if LM.1.f = (0, 0) then letP LM.1.d LM.1.level kind else LM.1.f) = (0, 0)
 ·rw [if_pos hf]
  by_cases hk : kind = 2
  ·rw [if_pos hk]; exact hl.setM _
  ·rw [if_neg hk]; exact hl
 ·rw [if_neg hf]; exact hl
/-- The document's machine stays right. -/
theorem Ys.acc_ok {sz most root asid : Nat} {y : Ys} (h : OkSt (y.st sz most root asid)) (kind : Int) (va x : Nat) (fill led keep : Bool) : OkSt ((y.acc sz most root asid kind va x fill led keep).2.st sz most root asid) := by
 have h2 := accessM_okSt h kind va x fill led keep
 rw [Ys.same] at h2
 exact h2
end Go.Proofs.YtbapgngngaaojaaGreat
namespace Go.Proofs.YtbapgngngaaojaaGreat
open Go.RowKit Go.Lib
set_option maxRecDepth 100000
section
variable {x m pt pk : Nat} {pv : Value} {Fm Ft Fk : Nat → Prop} {s : St} {w : World}
theorem mmemory_nat (h : MmuD x m pt pk pv Fm Ft Fk s w) : Calls Tryz.prog 19 #[.pointer (some ⟨x, 0, none⟩)] w fun e w' => e = .returned (.pointer (some ⟨m, 0, none⟩)) ∧ w' = w := by
 have c0 := h.c0
 clear h
 go_enter Tryz.func19, Tryz.ntmps19
 go_wp2
 go_ret
 exact ⟨rfl, rfl⟩
theorem mentries_nat (h : MmuD x m pt pk pv Fm Ft Fk s w) : Calls Tryz.prog 39 #[.pointer (some ⟨x, 0, none⟩)] w (ClonePost eL s.es w) := by
 have c1 := h.c1
 have C1 : Hid (Calls Tryz.prog 56 #[.pointer (some ⟨pt, 0, none⟩)] w (ClonePost eL s.es w)) := tlbList_nat h.tlb (by have := h.ok.el; have := h.ok.m64; omega)
 clear h
 go_enter Tryz.func39, Tryz.ntmps39
 go_wp2_with (go_at_call 56; refine C1.out.mono ?_; rintro e w1 ⟨A, c, rfl, hr, hb⟩; have HR := Lib.hid hr; have HB := Lib.hid hb; clear hr hb)
 go_ret
 exact ⟨A, c, rfl, HR.out, HB.out⟩
theorem mmarks_nat (h : MmuD x m pt pk pv Fm Ft Fk s w) : Calls Tryz.prog 40 #[.pointer (some ⟨x, 0, none⟩)] w (ClonePost mL s.ks w) := by
 have c2 := h.c2
 have C1 : Hid (Calls Tryz.prog 57 #[.pointer (some ⟨pk, 0, none⟩)] w (ClonePost mL s.ks w)) := trailList_nat h.trail (by have := h.ok.kl; have := h.ok.m64; omega)
 clear h
 go_enter Tryz.func40, Tryz.ntmps40
 go_wp2_with (go_at_call 57; refine C1.out.mono ?_; rintro e w1 ⟨A, c, rfl, hr, hb⟩; have HR := Lib.hid hr; have HB := Lib.hid hb; clear hr hb)
 go_ret
 exact ⟨A, c, rfl, HR.out, HB.out⟩
/-- What the register is asked for. -/
def wordR (s : St) : Nat × Bool := match s.reg with
 | none => (0, false)
 | some (r, a) => (r + a * 281474976710656, true)
theorem mregister_nat (h : MmuD x m pt pk pv Fm Ft Fk s w) : Calls Tryz.prog 43 #[.pointer (some ⟨x, 0, none⟩)] w fun e w' => e = .returned (.tuple #[.int .u64 (wordR s).1, .bool (wordR s).2]) ∧ Below w.heap.size w w' := by
 have C1 : Hid (Calls Tryz.prog 55 #[.pointer (some ⟨x, 0, none⟩)] w (HeldPost s.reg w)) := held_nat h
 unfold wordR
 cases hr : s.reg with
 | none =>
  rw [hr] at C1
  clear h hr
  go_enter Tryz.func43, Tryz.ntmps43
  go_wp2_with (go_at_call 55; refine C1.out.mono ?_; rintro e w1 ⟨rfl, hb⟩; have HB := Lib.hid hb; clear hb)
  go_ret2
  exact ⟨rfl, HB.out.alloc HB.out.size _⟩
 | some p =>
  obtain ⟨r, a⟩ := p
  have hra := h.ok.rok r a hr
  have C2 : Hid (∀ u, Calls Tryz.prog 80 #[.int .u64 r, .int .i64 a] u fun e w' => e = .returned (.tuple #[.int .u64 (r + a * 281474976710656 : Nat), .int .i64 0]) ∧ Below u.heap.size u w') := fun u => base_ok r a u hra.1.2 hra.1.1 hra.2
  rw [hr] at C1
  clear h hr hra
  dsimp only
  generalize (r + a * 281474976710656) = R at *
  go_enter Tryz.func43, Tryz.ntmps43
  go_wp2_with (first | (go_at_call 55; refine C1.out.mono ?_; rintro e w1 ⟨rfl, hb⟩; have HB := Lib.hid hb; clear hb) | (go_at_call 80; refine (C2.out _).mono ?_; rintro e w2 ⟨rfl, hb2⟩; have HB2 := Lib.hid hb2; clear hb2))
  go_ret2
  exact ⟨rfl, (HB.out.alloc HB.out.size _).trans (HB2.out.mono (HB.out.alloc HB.out.size _).size)⟩
theorem MmuD.setR (h : MmuD x m pt pk pv Fm Ft Fk s w) {r a : Nat} (hr : Tb r) (ha : a < 256) : MmuPost x m pt pk pv Fm Ft Fk { s with reg := some (r, a) } w (w.setCell ⟨x, 3, none⟩ (rgV (some (r, a)))) := by
 have hk : Kp (fun k => k = x) w (w.setCell ⟨x, 3, none⟩ (rgV (some (r, a)))) := (Kp.refl (fun k => k = x) w).setCell (p := ⟨x, 3, none⟩) (.inl rfl) _
 have hnm : ∀ k, Fm k → ¬ k = x := fun k y e => h.dx.1 (e ▸ y)
 have hnt : ∀ k, WkF Ft pt k → ¬ k = x := fun k y e => h.dx.2.1 (e ▸ y)
 have hnk : ∀ k, WkF Fk pk k → ¬ k = x := fun k y e => h.dx.2.2 (e ▸ y)
 refine ⟨Fm, Ft, Fk, ⟨?_, ?_, ?_, ?_, ?_, ?_, ?_, h.mem.kept hk hnm, h.tlb.kept hk (hnt _ (.inl rfl)) (fun k y => hnt k (.inr y)), h.trail.kept hk (hnk _ (.inl rfl)) (fun k y => hnk k (.inr y)), h.dx, h.dm, h.dt, fun k y => Nat.lt_of_lt_of_le (h.bm k y) hk.size, ⟨h.ok.szle, h.ok.szal, h.ok.m1, h.ok.m64, h.ok.el, h.ok.kl, h.ok.eok, h.ok.kok, ?_⟩⟩, hk.mono (fun k e => .inl e), fun k y => .inl y⟩
 ·rw [World.cell?_setCell_other _ _ _ _ (by simp)]; exact h.c0
 ·rw [World.cell?_setCell_other _ _ _ _ (by simp)]; exact h.c1
 ·rw [World.cell?_setCell_other _ _ _ _ (by simp)]; exact h.c2
 ·exact World.cell?_setCell_same _ _ _ h.c3
 ·rw [World.frozen?_setCell]; exact h.f3
 ·rw [World.cell?_setCell_other _ _ _ _ (by simp)]; exact h.c4
 ·rw [World.frozen?_setCell]; exact h.f4
 ·intro r' a' e
  injection e with e
  injection e with e1 e2
  subst e1 e2
  exact ⟨hr, ha⟩
/-- A register's word. -/
def setP (s : St) (x : Nat) : Nat × St := if (regV x).2.2 = 0 then (0, { s with reg := some ((regV x).1, (regV x).2.1) }) else ((regV x).2.2, s)
theorem mset_nat (h : MmuD x m pt pk pv Fm Ft Fk s w) (v : Nat) (hv : v < 18446744073709551616) : Calls Tryz.prog 9 #[.pointer (some ⟨x, 0, none⟩), .int .u64 v] w fun e w' => e = .returned (.int .i64 (setP s v).1) ∧ MmuPost x m pt pk pv Fm Ft Fk (setP s v).2 w w' := by
 have C1 : Hid (Calls Tryz.prog 33 #[.int .u64 v] w fun e w' => e = .returned (.tuple #[.int .u64 (regV v).1, .int .i64 (regV v).2.1, .int .i64 (regV v).2.2]) ∧ Below w.heap.size w w') := readBase_any v w hv
 have hcase : ((regV v).2.2 = 0 ∧ Tb (regV v).1 ∧ (regV v).2.1 < 256) ∨ (regV v).2.2 = 10 := by
  unfold regV
  split
  ·rename_i hc
   left
   refine ⟨rfl, ⟨by dsimp only; omega, by dsimp only; omega⟩, by dsimp only; omega⟩
  ·right; rfl
 unfold setP
 generalize regV v = R at *
 obtain ⟨r, a, e0⟩ := R
 dsimp only at C1 hcase ⊢
 have HD := Lib.hid h
 have c3 := h.c3
 have f3 := h.f3
 have hx := h.bx
 clear h
 rcases hcase with ⟨rfl, ht, ha⟩ | rfl
 ·have HT := Lib.hid ht
  have HA := Lib.hid ha
  rw [if_pos rfl]
  clear ht ha
  go_enter Tryz.func9, Tryz.ntmps9
  go_wp2_with (go_at_call 33; refine C1.out.mono ?_; rintro e w1 ⟨rfl, hb⟩; have y3 := keep_cell hb c3; have g3 := (keep_frozen hb hx f3 : w1.frozen? ⟨x, 3, none⟩ = false); have HB := Lib.hid hb; clear hb)
  go_ret
  exact ⟨rfl, MmuPost.pre HB.out ((HD.out.below HB.out).setR HT.out HA.out)⟩
 ·rw [if_neg (by omega)]
  go_enter Tryz.func9, Tryz.ntmps9
  go_wp2_with (go_at_call 33; refine C1.out.mono ?_; rintro e w1 ⟨rfl, hb⟩; have HB := Lib.hid hb; clear hb)
  go_ret
  exact ⟨rfl, MmuPost.ofBelow HD.out HB.out⟩
end
def st0 (sz : Nat) (rd : Nat → Nat) (most : Nat) : St := ⟨sz, rd, most, [], [], none⟩
def MNewPost (m : Nat) (ok : Nat → Prop) (sz : Nat) (rd : Nat → Nat) (most : Nat) (w : World) (e : Ending) (w' : World) : Prop :=
 ∃ x pt pk, e = .returned (.tuple #[.pointer (some ⟨x, 0, none⟩), .int .i64 0]) ∧ w.heap.size ≤ x ∧ w.heap.size ≤ pt ∧ w.heap.size ≤ pk ∧ MmuD x m pt pk (.slice none 0 0) ok (fun _ => False) (fun _ => False) (st0 sz rd most) w' ∧ Below w.heap.size w w'
theorem mnew_nat {ok : Nat → Prop} {m sz : Nat} {rd : Nat → Nat} {w : World} (hm : MemAt w ok m sz rd) (hok : ∀ k, ok k → k < w.heap.size) (h1 : sz ≤ 4294967296) (h2 : sz % 4096 = 0) (most : Nat) (h3 : 1 ≤ most) (h4 : most ≤ 64) :
  Calls Tryz.prog 32 #[.pointer (some ⟨m, 0, none⟩), .int .i64 most] w (MNewPost m ok sz rd most w) := by
 have C1 := Lib.hid (fun w => tlbNew_nat most w h3 h4)
 have C2 := Lib.hid (fun w => trailNew_nat most w h3 h4)
 have HM := Lib.hid hm
 have HO := Lib.hid hok
 clear hm hok
 go_enter Tryz.func32, Tryz.ntmps32
 go_wp2_with (first | (go_at_call 75; refine (C1.out _).mono ?_; rintro e w1 ⟨rfl, hl1, hb1⟩; have HL1 := Lib.hid hl1; have HB1 := Lib.hid hb1; have hz1 : w.heap.size < w1.heap.size := hl1.lt; clear hl1 hb1) | (go_at_call 76; refine (C2.out _).mono ?_; rintro e w2 ⟨rfl, hl2, hb2⟩; have HL2 := Lib.hid hl2; have HB2 := Lib.hid hb2; have hz2 : w1.heap.size < w2.heap.size := hl2.lt; clear hl2 hb2))
 go_ret2
 have hb3 := below1 w2 (.cells #[.pointer (some ⟨m, 0, none⟩), .pointer (some ⟨w.heap.size, 0, none⟩), .pointer (some ⟨w1.heap.size, 0, none⟩), .nilIface, .slice none 0 0] 97)
 have hB : Below w.heap.size w (w2.alloc (.cells #[.pointer (some ⟨m, 0, none⟩), .pointer (some ⟨w.heap.size, 0, none⟩), .pointer (some ⟨w1.heap.size, 0, none⟩), .nilIface, .slice none 0 0] 97)) := (HB1.out.trans (HB2.out.mono HB1.out.size)).alloc (Nat.le_trans HB1.out.size HB2.out.size) _
 refine ⟨w2.heap.size, w.heap.size, w1.heap.size, rfl, by omega, by omega, by omega, ⟨by simp, by simp, by simp, by simp [st0, rgV], by simp, by simp, by simp, HM.out.below hB, (HL1.out.below HB2.out).below hb3, HL2.out.below hb3, ⟨fun y => ?_, fun y => ?_, fun y => ?_⟩, fun k y => ⟨fun z => ?_, fun z => ?_⟩, fun k y z => ?_, fun k y => ?_, ⟨h1, h2, h3, h4, by simp [st0], by simp [st0], by simp [st0], by simp [st0], by simp [st0]⟩⟩, hB⟩
 ·have := HO.out _ y; omega
 ·rcases y with y | y
  ·omega
  ·exact y
 ·rcases y with y | y
  ·omega
  ·exact y
 ·have := HO.out _ y
  rcases z with z | z
  ·omega
  ·exact z
 ·have := HO.out _ y
  rcases z with z | z
  ·omega
  ·exact z
 ·rcases y with y | y
  ·rcases z with z | z
   ·omega
   ·exact z
  ·exact y
 ·have := HO.out _ y
  have := hB.size
  omega
end Go.Proofs.YtbapgngngaaojaaGreat
namespace Go.Proofs.YtbapgngngaaojaaGreat
open Go.RowKit Go.Lib
set_option maxRecDepth 100000
/-- The words of a memory, as they are written one by one. -/
def wsI (sz : Nat) (l : List (Nat × Nat)) : List (Nat × Nat) := l.foldl (fun ws s => if mayP sz s.1 = 0 then wrM ws s.1 s.2 else ws) []
theorem wsI_take (sz : Nat) (l : List (Nat × Nat)) (i : Nat) (hi : i < l.length) : wsI sz (l.take (i + 1)) = if mayP sz l[i].1 = 0 then wrM (wsI sz (l.take i)) l[i].1 l[i].2 else wsI sz (l.take i) := by
 unfold wsI
 rw [List.take_add_one, List.getElem?_eq_getElem hi, Option.toList_some, List.foldl_append]
 rfl
theorem wsI_ok (sz : Nat) (l : List (Nat × Nat)) (h : ∀ s ∈ l, s.2 < 18446744073709551616) : WsOk sz (wsI sz l) := by
 unfold wsI
 have key : ∀ (l ws : List (Nat × Nat)), WsOk sz ws → (∀ s ∈ l, s.2 < 18446744073709551616) → WsOk sz (l.foldl (fun ws s => if mayP sz s.1 = 0 then wrM ws s.1 s.2 else ws) ws) := by
  intro l
  induction l with
  | nil => intro ws h _; exact h
  | cons s r ih =>
   intro ws h hl
   rw [List.foldl_cons]
   refine ih _ ?_ (fun t ht => hl t (List.mem_cons_of_mem _ ht))
   split
   ·rename_i hm; exact h.write hm (hl s List.mem_cons_self)
   ·exact h
 exact key l [] (WsOk.nil sz) h
theorem wsI_len (sz : Nat) (l : List (Nat × Nat)) : (wsI sz l).length ≤ l.length := by
 unfold wsI
 have key : ∀ (l ws : List (Nat × Nat)), (l.foldl (fun ws s => if mayP sz s.1 = 0 then wrM ws s.1 s.2 else ws) ws).length ≤ ws.length + l.length := by
  intro l
  induction l with
  | nil => intro ws; exact Nat.le_refl _
  | cons s r ih =>
   intro ws
   rw [List.foldl_cons, List.length_cons]
   refine Nat.le_trans (ih _) ?_
   split
   ·have := wrM_len ws s.1 s.2; omega
   ·omega
 have := key l []
 simpa using this
def noF : Nat → Prop := fun _ => False
/-- A machine, and the document's words, apart from it; all of it new. -/
def Opened (x m pt pk : Nat) (pv : Value) (Fm Ft Fk : Nat → Prop) (s : St) (ws : List (Nat × Nat)) (A : Option Addr) (c : Nat) (w w' : World) : Prop :=
 MmuD x m pt pk pv Fm Ft Fk s w' ∧ (∃ Or, RowAt w' Or 2 (.slice A ws.length c) ws.length (rowL wL ws) ∧ ∀ k, Or k → w.heap.size ≤ k ∧ ¬ MmuF x pt pk Fm Ft Fk k) ∧ (∀ k, MmuF x pt pk Fm Ft Fk k → w.heap.size ≤ k) ∧ Below w.heap.size w w'
def OpenPost (most : Nat) (ws : List (Nat × Nat)) (w : World) (e : Ending) (w' : World) : Prop :=
 ∃ x m pt pk Fm A c, e = .returned (.tuple #[.pointer (some ⟨x, 0, none⟩), xV 1048576 most 0 0 false (.slice A ws.length c) (.slice none 0 0) (.slice none 0 0) (.slice none 0 0), .bool true]) ∧ Opened x m pt pk (.slice none 0 0) Fm noF noF (st0 1048576 (rdM ws) most) ws A c w w'
/-- What stands while the words are written. -/
structure LI (w : World) (g5 g9 m most : Nat) (rd : Nat → Nat) (ws : List (Nat × Nat)) (A : Option Addr) (c : Nat) (Fm Or : Nat → Prop) (u : World) : Prop where
 y : Box u g9 (xC 1048576 most 0 0 false (.slice A ws.length c) (.slice none 0 0) (.slice none 0 0) (.slice none 0 0))
 z : Box u g5 (xC 0 0 0 0 false (.slice none 0 0) (.slice none 0 0) (.slice none 0 0) (.slice none 0 0))
 mem : MemAt u Fm m 1048576 rd
 row : RowAt u Or 2 (.slice A ws.length c) ws.length (rowL wL ws)
 fm : ∀ k, Fm k → w.heap.size ≤ k ∧ k < u.heap.size ∧ k ≠ g5 ∧ k ≠ g9
 or : ∀ k, Or k → w.heap.size ≤ k ∧ k < u.heap.size ∧ ¬ Fm k ∧ k ≠ g5 ∧ k ≠ g9
 b : Below w.heap.size w u
 ge : w.heap.size ≤ g5 ∧ w.heap.size ≤ g9 ∧ g5 ≠ g9
section
variable {w u u' : World} {g5 g9 m most : Nat} {rd rd' : Nat → Nat} {ws ws' : List (Nat × Nat)} {A A' : Option Addr} {c c' : Nat} {Fm Or : Nat → Prop}
theorem LI.below (h : LI w g5 g9 m most rd ws A c Fm Or u) (hb : Below u.heap.size u u') : LI w g5 g9 m most rd ws A c Fm Or u' :=
 ⟨h.y.below hb, h.z.below hb, h.mem.below hb, h.row.below hb, fun k y => ⟨(h.fm k y).1, Nat.lt_of_lt_of_le (h.fm k y).2.1 hb.size, (h.fm k y).2.2⟩, fun k y => ⟨(h.or k y).1, Nat.lt_of_lt_of_le (h.or k y).2.1 hb.size, (h.or k y).2.2⟩, h.b.trans (hb.mono h.b.size), h.ge⟩
theorem LI.wrote {v : Value} {e : Ending} (h : LI w g5 g9 m most rd ws A c Fm Or u) (hp : PutPost Fm m 1048576 rd' v u e u') : LI w g5 g9 m most rd' ws A c (Gr Fm u u') Or u' := by
 obtain ⟨-, hm, hk⟩ := hp
 have hs := hk.size
 have h5 := h.z.2.2
 have h9 := h.y.2.2
 refine ⟨h.y.kept hk (fun y => (h.fm _ y).2.2.2 rfl), h.z.kept hk (fun y => (h.fm _ y).2.2.1 rfl), hm.mono (fun k hk y => y.imp id (fun z => ⟨z, hk⟩)), h.row.kept hk (fun k ho hf => (h.or k ho).2.2.1 hf), ?_, ?_, hk.toBelow h.b h.b.size (fun k y => (h.fm k y).1), h.ge⟩
 ·rintro k (y | y)
  ·have := h.fm k y; exact ⟨this.1, by omega, this.2.2⟩
  ·have := h.b.size; exact ⟨by omega, y.2, by omega, by omega⟩
 ·intro k y
  have := h.or k y
  exact ⟨this.1, by omega, Gr.not this.2.2.1 this.2.1, this.2.2.2⟩
theorem LI.put (h : LI w g5 g9 m most rd ws A c Fm Or u) (hb : Below u.heap.size u u') (hr : RowAt u' (fun k => u.heap.size ≤ k) 2 (.slice A' ws'.length c') ws'.length (rowL wL ws')) :
  LI w g5 g9 m most rd ws' A' c' Fm (fun k => u.heap.size ≤ k ∧ k < u'.heap.size) ((u'.setCell ⟨g9, 0, none⟩ (.int .u64 (1048576 : Nat))).setCell ⟨g9, 1, none⟩ (.slice A' ws'.length c')) := by
 have h2 := h.below hb
 have hs := hb.size
 have hk : Kp (fun k => k = g9) u' ((u'.setCell ⟨g9, 0, none⟩ (.int .u64 (1048576 : Nat))).setCell ⟨g9, 1, none⟩ (.slice A' ws'.length c')) := ((Kp.refl (fun k => k = g9) u').setCell (p := ⟨g9, 0, none⟩) (.inl rfl) _).setCell (p := ⟨g9, 1, none⟩) (.inl rfl) _
 have hz : ((u'.setCell ⟨g9, 0, none⟩ (.int .u64 (1048576 : Nat))).setCell ⟨g9, 1, none⟩ (.slice A' ws'.length c')).heap.size = u'.heap.size := by rw [World.size_setCell, World.size_setCell]
 refine ⟨(h2.y.setAt 0 (by simp [xC]) _).setAt 1 (by simp [xC]) _, h2.z.kept hk h.ge.2.2, h2.mem.kept hk (fun k y => (h2.fm k y).2.2.2), ?_, ?_, ?_, hk.toBelow h2.b h2.b.size (fun k e => by rw [e]; exact h.ge.2.1), h.ge⟩
 ·refine (hr.kept hk (fun k y e => ?_)).mono (fun k hk y => ⟨y, by omega⟩)
  have := h.y.2.2
  omega
 ·rw [hz]; exact h2.fm
 ·intro k y
  have h5 := h.z.2.2
  have h9 := h.y.2.2
  have hb := h.b.size
  refine ⟨by omega, by omega, fun f => ?_, by omega, by omega⟩
  have := h.fm k f
  omega
theorem LI.same (h : LI w g5 g9 m most rd ws A c Fm Or u) (hb : Below u.heap.size u u') :
  LI w g5 g9 m most rd ws A c Fm Or ((u'.setCell ⟨g9, 0, none⟩ (.int .u64 (1048576 : Nat))).setCell ⟨g9, 1, none⟩ (.slice A ws.length c)) := by
 have h2 := h.below hb
 have hk : Kp (fun k => k = g9) u' ((u'.setCell ⟨g9, 0, none⟩ (.int .u64 (1048576 : Nat))).setCell ⟨g9, 1, none⟩ (.slice A ws.length c)) := ((Kp.refl (fun k => k = g9) u').setCell (p := ⟨g9, 0, none⟩) (.inl rfl) _).setCell (p := ⟨g9, 1, none⟩) (.inl rfl) _
 have hz : ((u'.setCell ⟨g9, 0, none⟩ (.int .u64 (1048576 : Nat))).setCell ⟨g9, 1, none⟩ (.slice A ws.length c)).heap.size = u'.heap.size := by rw [World.size_setCell, World.size_setCell]
 refine ⟨(h2.y.setAt 0 (by simp [xC]) _).setAt 1 (by simp [xC]) _, h2.z.kept hk h.ge.2.2, h2.mem.kept hk (fun k y => (h2.fm k y).2.2.2), h2.row.kept hk (fun k y => (h2.or k y).2.2.2.2), ?_, ?_, hk.toBelow h2.b h2.b.size (fun k e => by rw [e]; exact h.ge.2.1), h.ge⟩
 ·rw [hz]; exact h2.fm
 ·rw [hz]; exact h2.or
end
set_option maxHeartbeats 2000000 in
theorem opened_nat (most : Nat) (l : List (Nat × Nat)) (A0 : Option Addr) (c0 : Nat) (w : World) (h1 : 1 ≤ most) (h2 : most ≤ 64) (hn : l.length ≤ 60) (hl : ∀ s ∈ l, s.1 < 18446744073709551616 ∧ s.2 < 18446744073709551616) (hrow : RdRow w (.slice A0 l.length c0) l.length (rowL wL l)) :
  Calls Tryz.prog 8 #[.slice A0 l.length c0, .int .i64 most] w (OpenPost most (wsI 1048576 l) w) := by
 have HROW := Lib.hid hrow
 have HL := Lib.hid hl
 have HM := Lib.hid (show 1 ≤ most ∧ most ≤ 64 from ⟨h1, h2⟩)
 clear hrow hl h1 h2
 have d60 : decide ((60 : Int) < (l.length : Int)) = false := by simp; omega
 have HN := Lib.hid hn
 clear hn
 go_enter Tryz.func8, Tryz.ntmps8
 go_upto_region 1 with fail
 have HB0 : Hid (Below w.heap.size w (w.alloc (.cells #[.int .u64 0, .slice none 0 0, .int .i64 0, .slice none 0 0, .slice none 0 0, .bool false, .int .u64 0, .int .i64 0, .slice none 0 0] 36))) := below1 _ _
 have HZ0 : Hid (Box (w.alloc (.cells #[.int .u64 0, .slice none 0 0, .int .i64 0, .slice none 0 0, .slice none 0 0, .bool false, .int .u64 0, .int .i64 0, .slice none 0 0] 36)) w.heap.size (xC 0 0 0 0 false (.slice none 0 0) (.slice none 0 0) (.slice none 0 0) (.slice none 0 0))) := Box.new w (xC 0 0 0 0 false (.slice none 0 0) (.slice none 0 0) (.slice none 0 0) (.slice none 0 0)) 36
 generalize World.alloc w _ = W0 at *
 go_upto_region 2 with (go_at_call 30; refine (memNew_nat 1048576 W0 (by omega) (by omega) (by omega)).mono ?_; rintro e w1 ⟨m, rfl, hm1, hb1⟩; have HM1 := Lib.hid hm1; have HB1 := Lib.hid hb1; clear hm1 hb1)
 go_upto_region 3 with fail
 have HY : Hid (Box (w1.alloc (.cells #[.int .u64 1048576, .slice none 0 0, .int .i64 most, .slice none 0 0, .slice none 0 0, .bool false, .int .u64 0, .int .i64 0, .slice none 0 0] 36)) w1.heap.size (xC 1048576 most 0 0 false (.slice none 0 0) (.slice none 0 0) (.slice none 0 0) (.slice none 0 0))) := Box.new w1 (xC 1048576 most 0 0 false (.slice none 0 0) (.slice none 0 0) (.slice none 0 0) (.slice none 0 0)) 36
 have HB2 : Hid (Below w1.heap.size w1 (w1.alloc (.cells #[.int .u64 1048576, .slice none 0 0, .int .i64 most, .slice none 0 0, .slice none 0 0, .bool false, .int .u64 0, .int .i64 0, .slice none 0 0] 36))) := below1 _ _
 generalize World.alloc w1 _ = W2 at *
 have HLI : Hid (LI w w.heap.size w1.heap.size m most (rdM (wsI 1048576 (l.take 0))) (wsI 1048576 (l.take 0)) none 0 (fun k => W0.heap.size ≤ k ∧ k < w1.heap.size) noF W2) := by
  have hs0 : w.heap.size < W0.heap.size := HZ0.out.2.2
  have hs1 := HB1.out.size
  have hb02 : Below W0.heap.size W0 W2 := HB1.out.trans (HB2.out.mono HB1.out.size)
  refine ⟨HY.out, HZ0.out.below hb02, ?_, RowAt.nil _ _ _, ?_, fun k y => y.elim, HB0.out.trans (hb02.mono HB0.out.size), ⟨by omega, by omega, by omega⟩⟩
  ·exact (HM1.out.mono (fun k hk y => ⟨y, hk⟩)).below HB2.out
  ·intro k y
   have := HB2.out.size
   exact ⟨by omega, by omega, by omega, by omega⟩
 have hg5 : w.heap.size < w1.heap.size := by have := HZ0.out.2.2; have := HB1.out.size; omega
 clear HB0 HZ0 HM1 HB1 HY HB2
 generalize hg9 : w1.heap.size = g9 at *
 clear hg9
 generalize hgw : w.heap.size = g5 at *
 go_wp2
 go_loopw [35] (fun iv wr => ∃ (i : Nat) (A : Option Addr) (c : Nat) (Fm Or : Nat → Prop), iv = .int .i64 i ∧ i ≤ l.length ∧ Hid (LI w g5 g9 m most (rdM (wsI 1048576 (l.take i))) (wsI 1048576 (l.take i)) A c Fm Or wr)) (fun iv _ => l.length - (RowKit.intOf iv).toNat)
 case atStart => exact ⟨0, none, 0, _, _, rfl, by omega, HLI⟩
 case round =>
  obtain ⟨i, A, c, Fm, Or, rfl, hi, HI⟩ := hrel
  have hn2 : l.length ≤ 60 := HN.out
  by_cases hlt : i < l.length
  ·obtain ⟨g, o, rfl, hr⟩ := HROW.out.get (by omega)
   have hrng : wr.rangeAt g o (rowL wL l) := fun j v hj => keep_cell HI.out.b (hr j v hj)
   have k0 := row_at0 wL_len hrng i hlt _ rfl
   have k1 := row_at wL_len hrng i hlt 1 _ rfl
   have i1 : (0 : Int) ≤ (i : Int) := by omega
   have i2 : (i : Int) < (l.length : Int) := by omega
   have HST := Lib.hid (wsI_take 1048576 l i hlt)
   have hwl : (wsI 1048576 (l.take i)).length ≤ 60 := Nat.le_trans (wsI_len _ _) (by rw [List.length_take]; omega)
   have HWL := Lib.hid hwl
   have hyl := HL.out _ (List.getElem_mem hlt)
   clear hrng hr hwl
   generalize wsI 1048576 (l.take i) = ws at *
   generalize l[i] = y at *
   obtain ⟨ya, yx⟩ := y
   dsimp only at k0 k1 hyl HST
   obtain ⟨hya, hyx⟩ := hyl
   have C1 : Hid (Calls Tryz.prog 29 #[.pointer (some ⟨m, 0, none⟩), .int .u64 ya, .int .u64 yx] (wr.alloc (.cells #[.int .u64 ya, .int .u64 yx] 81)) (PutPost Fm m 1048576 (writeP 1048576 (rdM ws) ya yx) (.int .i64 (mayP 1048576 ya)) (wr.alloc (.cells #[.int .u64 ya, .int .u64 yx] 81)))) :=
    write_nat (HI.out.below (below1 _ _)).mem ya yx (by omega) (by omega) hya hyx
   have C2 := Lib.hid (fun u h => rwrite_nat 1048576 ya yx ws A c u hya (by have := HWL.out; omega) h)
   have HBN : Hid (Box (wr.alloc (.cells #[.int .u64 ya, .int .u64 yx] 81)) wr.heap.size [.int .u64 ya, .int .u64 yx]) := Box.new wr [.int .u64 ya, .int .u64 yx] 81
   have HI2 := Lib.hid (HI.out.below (below1 wr (.cells #[.int .u64 ya, .int .u64 yx] 81)))
   have hnf : ¬ Fm wr.heap.size := fun y => by have := (HI.out.fm _ y).2.1; omega
   have HNF := Lib.hid hnf
   clear hnf HI
   go_upto_region 9 with (go_at_call 29; refine C1.out.mono ?_; rintro e w5 hp; have he := hp.1; have HI5 := Lib.hid (HI2.out.wrote hp); have HBN5 := Lib.hid (HBN.out.kept hp.2.2 HNF.out); clear hp; subst he)
   have b0 := HBN5.out.at 0 _ rfl
   have b1 := HBN5.out.at 1 _ rfl
   have y0 := HI5.out.y.at 0 _ rfl
   have y1 := HI5.out.y.at 1 _ rfl
   have hz9 := HI5.out.y.2.2
   have hfz := HI5.out.y.2.1
   have C3 := Lib.hid (C2.out w5 HI5.out.row.rd)
   have HWP := Lib.hid (writeP_rdM 1048576 ya yx ws)
   rw [HWP.out] at HI5
   clear C1 C2 HBN HI2 HNF HBN5 k0 k1 hya hyx HWP
   by_cases hm : mayP 1048576 ya = 0
   ·rw [if_pos hm] at HST HI5
    rw [hm] at C3
    go_wp2_with (go_at_call 31; refine C3.out.mono ?_; rintro e w6 ⟨hq, hb6⟩; replace hq := hq.resolve_left (fun h => h.1 rfl); obtain ⟨-, A2, c2, rfl, hrow6⟩ := hq; have HB6 := Lib.hid hb6; have HR6 := Lib.hid hrow6; clear hb6 hrow6; have yf0 : w6.cell? ⟨g9, 0, none⟩ = some (.int .u64 1048576) := keep_cell HB6.out y0; have yf1 := keep_cell HB6.out y1; have yz9 : g9 < w6.heap.size := Nat.lt_of_lt_of_le hz9 HB6.out.size; have yff : ∀ j, w6.frozen? ⟨g9, j, none⟩ = false := fun j => (keep_frozen HB6.out hz9 (hfz j)))
    go_roundw
    case rel => exact ⟨i + 1, A2, c2, _, _, by first | rfl | go_num, by omega, by rw [HST.out]; exact HI5.out.put HB6.out HR6.out⟩
    case measure => simp [RowKit.intOf]; omega
   ·rw [if_neg hm] at HST HI5
    go_wp2_with (go_at_call 31; refine C3.out.mono ?_; rintro e w6 ⟨hq, hb6⟩; replace hq := hq.resolve_right (fun h => hm h.1); obtain ⟨-, rfl⟩ := hq; have HB6 := Lib.hid hb6; clear hb6; have yf0 : w6.cell? ⟨g9, 0, none⟩ = some (.int .u64 1048576) := keep_cell HB6.out y0; have yf1 := keep_cell HB6.out y1; have yz9 : g9 < w6.heap.size := Nat.lt_of_lt_of_le hz9 HB6.out.size; have yff : ∀ j, w6.frozen? ⟨g9, j, none⟩ = false := fun j => (keep_frozen HB6.out hz9 (hfz j)))
    go_roundw
    case rel => exact ⟨i + 1, A, c, _, _, by first | rfl | go_num, by omega, by rw [HST.out]; exact HI5.out.same HB6.out⟩
    case measure => simp [RowKit.intOf]; omega
  ·obtain rfl : i = l.length := by omega
   have ht : Hid (l.take l.length = l) := List.take_length
   rw [ht.out] at HI
   clear ht HL HROW HLI
   generalize wsI 1048576 l = ws at *
   have C1 := Lib.hid (mnew_nat HI.out.mem (fun k y => (HI.out.fm k y).2.1) (by omega) (by omega) most HM.out.1 HM.out.2)
   go_upto_region 12 with (go_at_call 32; refine C1.out.mono ?_; rintro e w6 ⟨x, pt, pk, rfl, hx, hpt, hpk, hd, hb⟩; have HB6 := Lib.hid hb; have HX := Lib.hid hx; have HPT := Lib.hid hpt; have HPK := Lib.hid hpk; have HD := Lib.hid hd; clear hb hx hpt hpk hd)
   have BY := HI.out.y.below HB6.out
   have y0 := BY.at 0 _ rfl
   have y1 := BY.at 1 _ rfl
   have y2 := BY.at 2 _ rfl
   have y3 := BY.at 3 _ rfl
   have y4 := BY.at 4 _ rfl
   have y5 := BY.at 5 _ rfl
   have y6 := BY.at 6 _ rfl
   have y7 := BY.at 7 _ rfl
   have y8 := BY.at 8 _ rfl
   have BZ := HI.out.z.below HB6.out
   have z0 := BZ.at 0 _ rfl
   have z1 := BZ.at 1 _ rfl
   have z2 := BZ.at 2 _ rfl
   have z3 := BZ.at 3 _ rfl
   have z4 := BZ.at 4 _ rfl
   have z5 := BZ.at 5 _ rfl
   have z6 := BZ.at 6 _ rfl
   have z7 := BZ.at 7 _ rfl
   have z8 := BZ.at 8 _ rfl
   have fz := BZ.2.1
   have zz := BZ.2.2
   have hne : ¬ g5 = g9 := by omega
   have hne2 : ¬ g9 = g5 := by omega
   clear C1 BY BZ
   go_region
   all_goals
    go_wp2_with fail
    refine bodyPost_ret (v := .tuple #[.pointer (some ⟨x, 0, none⟩), xV 1048576 most 0 0 false (.slice A ws.length c) (.slice none 0 0) (.slice none 0 0) (.slice none 0 0), .bool true]) (by simp [results, Tryz.results8, go_sem, zz, z0, z1, z2, z3, z4, z5, z6, z7, z8, xV]) rfl ?_
    rw [set9_eq]
    have hfin : ∀ n, Kp (fun k => k = g5) w6 (((World.setCells w6 g5 0 (xC 1048576 most 0 0 false (.slice A ws.length c) (.slice none 0 0) (.slice none 0 0) (.slice none 0 0)))).drewN n) := fun n => ((Kp.refl (fun k => k = g5) w6).setCells (.inl rfl) 0 _).drewN n
    have hfin2 := hfin 1
    have hI := HI.out
    have hd := HD.out
    have hx := HX.out
    have hpt := HPT.out
    have hpk := HPK.out
    have h5 := hI.z.2.2
    have hF : ∀ k, MmuF x pt pk Fm noF noF k → k = x ∨ Fm k ∨ k = pt ∨ k = pk := fun k y => by
     rcases y with y | y | y | y
     ·exact .inl y
     ·exact .inr (.inl y)
     ·exact .inr (.inr (.inl (y.elim id (fun h => h.elim))))
     ·exact .inr (.inr (.inr (y.elim id (fun h => h.elim))))
    have hn5 : ∀ k, MmuF x pt pk Fm noF noF k → ¬ k = g5 := fun k y e => by
     rcases hF k y with h | h | h | h
     ·omega
     ·exact (hI.fm k h).2.2.1 e
     ·omega
     ·omega
    have hs := HB6.out.size
    have hbs := hI.b.size
    rw [hgw] at hbs
    refine ⟨x, m, pt, pk, Fm, A, c, rfl, hd.kept hfin2 hn5, ⟨Or, ((hI.row.below HB6.out).kept hfin2 (fun k y => (hI.or k y).2.2.2.1)), fun k y => ?_⟩, fun k y => ?_, ?_⟩
    ·have ho := hI.or k y
     refine ⟨ho.1, fun f => ?_⟩
     rcases hF k f with h | h | h | h
     ·omega
     ·exact ho.2.2.1 h
     ·omega
     ·omega
    ·rw [hgw]
     rcases hF k y with h | h | h | h
     ·omega
     ·have := (hI.fm k h).1; omega
     ·omega
     ·omega
    ·have hb := hI.b.trans (HB6.out.mono hI.b.size)
     exact hfin2.toBelow hb hb.size (fun k e => by omega)
theorem opened_long (most n : Nat) (A0 : Option Addr) (c0 : Nat) (w : World) (hn : 60 < n) :
  Calls Tryz.prog 8 #[.slice A0 n c0, .int .i64 most] w fun e w' => e = .returned (.tuple #[.pointer none, xV 1048576 most 0 0 false (.slice none 0 0) (.slice none 0 0) (.slice none 0 0) (.slice none 0 0), .bool false]) ∧ Below w.heap.size w w' := by
 have d60 : decide ((60 : Int) < (n : Int)) = true := by simp; omega
 have HN := Lib.hid hn
 clear hn
 go_enter Tryz.func8, Tryz.ntmps8
 go_upto_region 1 with fail
 have HB0 : Hid (Below w.heap.size w (w.alloc (.cells #[.int .u64 0, .slice none 0 0, .int .i64 0, .slice none 0 0, .slice none 0 0, .bool false, .int .u64 0, .int .i64 0, .slice none 0 0] 36))) := below1 _ _
 have HZ0 : Hid (Box (w.alloc (.cells #[.int .u64 0, .slice none 0 0, .int .i64 0, .slice none 0 0, .slice none 0 0, .bool false, .int .u64 0, .int .i64 0, .slice none 0 0] 36)) w.heap.size (xC 0 0 0 0 false (.slice none 0 0) (.slice none 0 0) (.slice none 0 0) (.slice none 0 0))) := Box.new w (xC 0 0 0 0 false (.slice none 0 0) (.slice none 0 0) (.slice none 0 0) (.slice none 0 0)) 36
 generalize World.alloc w _ = W0 at *
 go_upto_region 2 with (go_at_call 30; refine (memNew_nat 1048576 W0 (by omega) (by omega) (by omega)).mono ?_; rintro e w1 ⟨m, rfl, hm1, hb1⟩; have HM1 := Lib.hid hm1; have HB1 := Lib.hid hb1; clear hm1 hb1)
 go_upto_region 3 with fail
 have HY : Hid (Box (w1.alloc (.cells #[.int .u64 1048576, .slice none 0 0, .int .i64 most, .slice none 0 0, .slice none 0 0, .bool false, .int .u64 0, .int .i64 0, .slice none 0 0] 36)) w1.heap.size (xC 1048576 most 0 0 false (.slice none 0 0) (.slice none 0 0) (.slice none 0 0) (.slice none 0 0))) := Box.new w1 (xC 1048576 most 0 0 false (.slice none 0 0) (.slice none 0 0) (.slice none 0 0) (.slice none 0 0)) 36
 have HB2 : Hid (Below w1.heap.size w1 (w1.alloc (.cells #[.int .u64 1048576, .slice none 0 0, .int .i64 most, .slice none 0 0, .slice none 0 0, .bool false, .int .u64 0, .int .i64 0, .slice none 0 0] 36))) := below1 _ _
 generalize World.alloc w1 _ = W2 at *
 have hb02 : Below W0.heap.size W0 W2 := HB1.out.trans (HB2.out.mono HB1.out.size)
 have HBW : Hid (Below w.heap.size w W2) := HB0.out.trans (hb02.mono HB0.out.size)
 have BY := HY.out
 have y0 := BY.at 0 _ rfl
 have y1 := BY.at 1 _ rfl
 have y2 := BY.at 2 _ rfl
 have y3 := BY.at 3 _ rfl
 have y4 := BY.at 4 _ rfl
 have y5 := BY.at 5 _ rfl
 have y6 := BY.at 6 _ rfl
 have y7 := BY.at 7 _ rfl
 have y8 := BY.at 8 _ rfl
 have BZ := HZ0.out.below hb02
 have z0 := BZ.at 0 _ rfl
 have z1 := BZ.at 1 _ rfl
 have z2 := BZ.at 2 _ rfl
 have z3 := BZ.at 3 _ rfl
 have z4 := BZ.at 4 _ rfl
 have z5 := BZ.at 5 _ rfl
 have z6 := BZ.at 6 _ rfl
 have z7 := BZ.at 7 _ rfl
 have z8 := BZ.at 8 _ rfl
 have fz := BZ.2.1
 have zz := BZ.2.2
 have hg5 : w.heap.size < w1.heap.size := by have := HZ0.out.2.2; have := HB1.out.size; omega
 clear BY BZ HB0 HZ0 HM1 HB1 HY HB2 hb02
 generalize hg9 : w1.heap.size = g9 at *
 clear hg9
 generalize hgw : w.heap.size = g5 at *
 have hne : ¬ g5 = g9 := by omega
 have hne2 : ¬ g9 = g5 := by omega
 go_wp2_with fail
 go_region
 all_goals
  go_wp2_with fail
  refine bodyPost_ret (v := .tuple #[.pointer none, xV 1048576 most 0 0 false (.slice none 0 0) (.slice none 0 0) (.slice none 0 0) (.slice none 0 0), .bool false]) (by simp [results, Tryz.results8, go_sem, zz, z0, z1, z2, z3, z4, z5, z6, z7, z8, xV]) rfl ?_
  rw [set9_eq]
  have hfin : ∀ n, Kp (fun k => k = g5) W2 (((World.setCells W2 g5 0 (xC 1048576 most 0 0 false (.slice none 0 0) (.slice none 0 0) (.slice none 0 0) (.slice none 0 0)))).drewN n) := fun n => ((Kp.refl (fun k => k = g5) W2).setCells (.inl rfl) 0 _).drewN n
  have hfin2 := hfin 1
  rw [hgw]
  refine ⟨rfl, hfin2.toBelow HBW.out ?_ (fun k e => by omega)⟩
  omega
end Go.Proofs.YtbapgngngaaojaaGreat
namespace Go.Proofs.YtbapgngngaaojaaGreat
open Go.RowKit Go.Lib
set_option maxRecDepth 100000
def tableGo (st : List (Nat × Nat)) : Nat → Nat → Nat → Nat × Bool
 | 0, _, at_ => (at_, true)
 | n + 1, i, at_ => match st[i]? with
  | none => (0, false)
  | some s => match decP i s.2 with
   | none => (0, false)
   | some d => if d.kind = 1 then tableGo st n (i + 1) d.out else (0, false)
/-- The table that a root leads to at a level. -/
def tableM (s : St) (root va level : Nat) : Nat × Bool := tableGo (fromP s.sz s.rd 0 root va).steps level 0 root
set_option maxHeartbeats 1000000 in
theorem mtable_nat {x m pt pk : Nat} {pv : Value} {Fm Ft Fk : Nat → Prop} {s : St} {w : World} (h : MmuD x m pt pk pv Fm Ft Fk s w) (root a va level : Nat) (hr : Tb root) (hl : level ≤ 3) :
  Calls Tryz.prog 58 #[.pointer (some ⟨x, 0, none⟩), .agg #[.int .u64 root, .int .i64 a], .int .u64 va, .int .i64 level] w fun e w' => e = .returned (.tuple #[.int .u64 (tableM s root va level).1, .bool (tableM s root va level).2]) ∧ Below w.heap.size w w' := by
 have hsz : s.sz < 9223372036854775808 := by have := h.ok.szle; omega
 have C3 : Hid (∀ u, Below w.heap.size w u → Calls Tryz.prog 101 #[.pointer (some ⟨m, 0, none⟩), .int .i64 0, .int .u64 root, .int .u64 va] u (TracePost (fromP s.sz s.rd 0 root va).steps u)) := fun u hb =>
  trace_nat (h.mem.below hb) (fun k hk => Nat.lt_of_lt_of_le (h.bm k hk) hb.size) hsz 0 root va (by omega) hr
 have hfo := fromP_ok s.sz s.rd 0 root va
 have hst : ∀ y ∈ (fromP s.sz s.rd 0 root va).steps, y.2 < 18446744073709551616 := fun y hy => by rw [hfo.1.1 y hy]; exact h.mem.word _
 have hs4 := hfo.2.1
 obtain ⟨R, hR⟩ : ∃ R, tableM s root va level = R := ⟨_, rfl⟩
 rw [hR]
 unfold tableM at hR
 generalize (fromP s.sz s.rd 0 root va).steps = st at *
 have HR := Lib.hid hR
 have HST := Lib.hid hst
 have HS4 := Lib.hid hs4
 have c0 := h.c0
 have hx := h.bx
 clear h hfo hst hs4 hR hsz hr
 go_enter Tryz.func58, Tryz.ntmps58
 go_upto_region 1 with fail
 have HBR : Hid (Box (w.alloc (.cells #[.int .u64 root, .int .i64 a] 92)) w.heap.size [.int .u64 root, .int .i64 a]) := Box.new w [.int .u64 root, .int .i64 a] 92
 have HB0 : Hid (Below w.heap.size w (w.alloc (.cells #[.int .u64 root, .int .i64 a] 92))) := below1 _ _
 generalize World.alloc w _ = W at *
 have r0 := HBR.out.at 0 _ rfl
 have x0 := keep_cell HB0.out c0
 have hz := HBR.out.2.2
 have hzx : x < W.heap.size := by have := HB0.out.size; omega
 go_upto_region 2 with fail
 go_cut [11] (fun s11 wx => ∃ A c, s11 = .slice A st.length c ∧ Hid (RdRow wx (.slice A st.length c) st.length (stepCells st)) ∧ Hid (Below W.heap.size W wx))
 case first =>
  go_region_with (first | (go_at_call 101; refine (C3.out _ HB0.out.drew).mono ?_; rintro e w5 ⟨A, c, rfl, hrow, hb5⟩; have HB5 : Hid (Below W.heap.size W w5) := ((Below.refl W.heap.size W).drew).trans hb5; have HROW := Lib.hid hrow; clear hrow hb5))
  all_goals
   go_wp2_with fail
   go_meet
   exact ⟨A, c, rfl, HROW.out.rd, HB5⟩
 case rest =>
  obtain ⟨A, c, rfl, HROW, HBC⟩ := hcut
  have HWC : Hid (Below w.heap.size w wc) := HB0.out.trans (HBC.out.mono HB0.out.size)
  clear r0 x0 hz hzx
  go_wp2_with fail
  go_loopw [10, 26] (fun av iv wr => ∃ (i at_ : Nat), iv = .int .i64 i ∧ av = .int .u64 at_ ∧ i ≤ level ∧ Hid (tableGo st (level - i) i at_ = R) ∧ Hid (Below wc.heap.size wc wr)) (fun _ iv _ => level - (RowKit.intOf iv).toNat)
  case atStart =>
   exact ⟨0, root, rfl, rfl, by omega, HR, Below.refl _ _⟩
  case round =>
   obtain ⟨i, at_, rfl, rfl, hi, HS, HB⟩ := hrel
   by_cases hlt : i < level
   ·have d1 : decide ((i : Int) < (level : Int)) = true := by simp; omega
    have HS1 : Hid ((match st[i]? with
     | none => (0, false)
     | some s => match decP i s.2 with
      | none => (0, false)
      | some d => if d.kind = 1 then tableGo st (level - (i + 1)) (i + 1) d.out else (0, false)) = R) := by
     have := HS.out
     rw [show level - i = (level - (i + 1)) + 1 by omega] at this
     exact this
    clear HS
    by_cases hls : i < st.length
    ·rw [List.getElem?_eq_getElem hls] at HS1
     have hcs := stepCells_at st i hls
     obtain ⟨A', c', hsl, hrr⟩ := HROW.out
     obtain ⟨rfl, -, rfl⟩ := Value.slice.inj hsl
     obtain ⟨g, o, rfl, hrg⟩ := hrr (by omega)
     have k1 : wr.cell? ⟨g, o + i * 2 + 1, none⟩ = some (.int .u64 st[i].2) := keep_cell HB.out (by have := hrg _ _ hcs.2; rwa [← Nat.add_assoc] at this)
     have hxw := HST.out st[i] (List.getElem_mem hls)
     have d2 : decide ((st.length : Int) ≤ (i : Int)) = false := by simp; omega
     clear hcs hrr hrg hsl
     generalize st[i] = y at *
     obtain ⟨sa, sw⟩ := y
     dsimp only at k1 hxw HS1
     have C2 := Lib.hid (fun w => decode_any i sw w (by omega) hxw)
     cases hd : decP i sw with
     | none =>
      rw [hd] at HS1
      have HS2 : Hid ((0, false) = R) := HS1.out
      rw [decV_none hd] at C2
      clear hd HS1
      go_wp2_with fail
      refine (C2.out _).mono ?_
      rintro e w2 ⟨rfl, hb2⟩
      have HB2 : Hid (Below wc.heap.size wc w2) := HB.out.trans (hb2.mono HB.out.size)
      clear hb2
      dsimp only [dV, zeroD]
      go_wp2
      go_ret2
      exact ⟨by rw [← HS2.out]; rfl, (HWC.out.trans (HB2.out.mono HWC.out.size)).alloc (Nat.le_trans HWC.out.size HB2.out.size) _⟩
     | some d =>
      rw [hd] at HS1
      rw [decV_some hd] at C2
      have HDC := Lib.hid (decP_some hd)
      clear hd
      obtain ⟨K, out, b1, b2, b3, b4, attr⟩ := d
      dsimp only at HS1
      by_cases hK : K = 1
      ·subst hK
       rw [if_pos rfl] at HS1
       go_wp2_with fail
       refine (C2.out _).mono ?_
       rintro e w2 ⟨rfl, hb2⟩
       have HB2 : Hid (Below wc.heap.size wc w2) := HB.out.trans (hb2.mono HB.out.size)
       clear hb2
       dsimp only [dV]
       go_wp2
       exact ⟨⟨i + 1, out, by first | rfl | go_num, rfl, by omega, HS1, HB2.out.alloc HB2.out.size _⟩, by simp [RowKit.intOf]; omega⟩
      ·rw [if_neg hK] at HS1
       have hk1 : ((K : Int) != 1) = true := by rw [bne_iff_ne]; omega
       go_wp2_with fail
       refine (C2.out _).mono ?_
       rintro e w2 ⟨rfl, hb2⟩
       have HB2 : Hid (Below wc.heap.size wc w2) := HB.out.trans (hb2.mono HB.out.size)
       clear hb2
       dsimp only [dV]
       go_wp2
       go_ret2
       exact ⟨by rw [← HS1.out]; rfl, (HWC.out.trans (HB2.out.mono HWC.out.size)).alloc (Nat.le_trans HWC.out.size HB2.out.size) _⟩
    ·have d2 : decide ((st.length : Int) ≤ (i : Int)) = true := by simp; omega
     rw [List.getElem?_eq_none (by omega)] at HS1
     have HS2 : Hid ((0, false) = R) := HS1.out
     clear HS1
     go_wp2
     go_ret2
     exact ⟨by rw [← HS2.out]; rfl, HWC.out.trans (HB.out.mono HWC.out.size)⟩
   ·have d1 : decide ((i : Int) < (level : Int)) = false := by simp; omega
    obtain rfl : i = level := by omega
    have HE : Hid ((at_, true) = R) := by have := HS.out; rw [Nat.sub_self] at this; exact this
    clear HS
    go_wp2
    go_ret2
    exact ⟨by rw [← HE.out]; rfl, HWC.out.trans (HB.out.mono HWC.out.size)⟩
end Go.Proofs.YtbapgngngaaojaaGreat
namespace Go.Proofs.YtbapgngngaaojaaGreat
open Go.RowKit Go.Lib
set_option maxRecDepth 100000
def badE (s : St) (r a : Nat) (e : Ent) : Bool := decide (e.asid = a) && (decide ((fromP s.sz s.rd 0 r e.va).f ≠ (0, 0)) || decide (¬ ((fromP s.sz s.rd 0 r e.va).level = e.level ∧ (fromP s.sz s.rd 0 r e.va).d = e.d)))
def badK (s : St) (r a : Nat) (k : Mk) : Bool := decide (k.asid = a) && (!(tableM s r k.va k.level).2 || decide ((tableM s r k.va k.level).1 ≠ k.table))
def soundM (s : St) : Bool := match s.reg with
 | none => true
 | some (r, a) => !(s.es.any (badE s r a)) && !(s.ks.any (badK s r a))
theorem sound_none {x m pt pk : Nat} {pv : Value} {Fm Ft Fk : Nat → Prop} {s : St} {w : World} (h : MmuD x m pt pk pv Fm Ft Fk s w) (hr : s.reg = none) :
  Calls Tryz.prog 17 #[.pointer (some ⟨x, 0, none⟩)] w fun e w' => e = .returned (.bool (soundM s)) ∧ Below w.heap.size w w' := by
 have C1 : Hid (Calls Tryz.prog 55 #[.pointer (some ⟨x, 0, none⟩)] w (HeldPost s.reg w)) := held_nat h
 have e : soundM s = true := by unfold soundM; rw [hr]
 rw [hr] at C1
 rw [e]
 clear h hr e
 go_enter Tryz.func17, Tryz.ntmps17
 go_wp2_with (go_at_call 55; refine C1.out.mono ?_; rintro e w1 ⟨rfl, hb⟩; have HB := Lib.hid hb; clear hb)
 go_ret
 exact ⟨rfl, HB.out.alloc HB.out.size _⟩
end Go.Proofs.YtbapgngngaaojaaGreat
