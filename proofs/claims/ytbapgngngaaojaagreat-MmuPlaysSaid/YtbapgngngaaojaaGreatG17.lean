/- The walks of held and begin. -/
import Derived.Test.YtbapgngngaaojaaGreatG16
set_option linter.unusedSimpArgs false
set_option linter.unusedVariables false
namespace Go.Proofs.YtbapgngngaaojaaGreat
open Go.RowKit Go.Lib
set_option maxRecDepth 100000
theorem MmuPost.fin {x m pt pk : Nat} {pv : Value} {Fm Ft Fk : Nat → Prop} {s s' : St} {w0 w w' w2 : World} (h0 : MmuD x m pt pk pv Fm Ft Fk s w0) (hb : Below w0.heap.size w0 w) (h : MmuPost x m pt pk pv Fm Ft Fk s' w w') (hk : Kp (G2 w0 w) w' w2) : MmuPost x m pt pk pv Fm Ft Fk s' w0 w2 := by
 obtain ⟨Fm', Ft', Fk', h1, h2, h3⟩ := h
 refine ⟨Fm', Ft', Fk', h1.kept hk (fun k y z => ?_), ((Kp.ofBelow hb).trans h2 (fun i y => .inl y)).trans hk (fun i y => .inr y.1), fun k y => (h3 k y).imp id (fun z => Nat.le_trans hb.size z)⟩
 rcases h3 k y with y | y
 ·have := h0.bF k y; have := z.1; omega
 ·have := z.2; omega
@[go_sem] theorem assert_reg (v : Value) (w : World) : (Instr.typeAssert (.iface 92 v) 20 92 true).run Tryz.prog w = .ok (.tuple #[v, .bool true]) w := by kernel_rfl
@[go_sem] theorem assert_none (w : World) : (Instr.typeAssert .nilIface 20 92 true).run Tryz.prog w = .ok (.tuple #[.agg #[.int .u64 0, .int .i64 0], .bool false]) w := by kernel_rfl
def HeldPost (r : Option (Nat × Nat)) (w : World) (e : Ending) (w' : World) : Prop :=
 e = .returned (.tuple #[.agg #[.int .u64 ((r.getD (0, 0)).1 : Nat), .int .i64 ((r.getD (0, 0)).2 : Nat)], .bool r.isSome]) ∧ Below w.heap.size w w'
theorem held_nat {x m pt pk : Nat} {pv : Value} {Fm Ft Fk : Nat → Prop} {s : St} {w : World} (h : MmuD x m pt pk pv Fm Ft Fk s w) :
  Calls Tryz.prog 55 #[.pointer (some ⟨x, 0, none⟩)] w (HeldPost s.reg w) := by
 have c3 := h.c3
 have hx := h.bx
 clear h
 generalize s.reg = r at *
 have hne : (w.heap.size + 1 : Nat) ≠ x := by omega
 cases r with
 | none =>
  dsimp only [rgV] at c3
  go_enter Tryz.func55, Tryz.ntmps55
  go_wp2
  refine bodyPost_ret (v := .tuple #[.agg #[.int .u64 0, .int .i64 0], .bool false]) (by simp [results, Tryz.results55, go_sem]) rfl ⟨rfl, ?_⟩
  exact (below1 w _).alloc (by simp) _
 | some r =>
  obtain ⟨r, a⟩ := r
  dsimp only [rgV] at c3
  go_enter Tryz.func55, Tryz.ntmps55
  go_wp2
  refine bodyPost_ret (v := .tuple #[.agg #[.int .u64 r, .int .i64 a], .bool true]) (by simp [results, Tryz.results55, go_sem]) rfl ⟨rfl, ?_⟩
  exact (below1 w _).alloc (by simp) _
def beginP (s : St) (root asid va : Nat) (led : Bool) : Nat × Nat := if 0 < (bestP s.ks asid va).level ∧ led = true then ((bestP s.ks asid va).level, (bestP s.ks asid va).table) else (0, root)
theorem bestP_mem (l : List Mk) (asid : Int) (va : Nat) : bestP l asid va = zeroM ∨ bestP l asid va ∈ l := by
 unfold bestP
 have key : ∀ (l : List Mk) (b : Mk), l.foldl (bestStep (leadM asid va)) b = b ∨ l.foldl (bestStep (leadM asid va)) b ∈ l := by
  intro l
  induction l with
  | nil => intro b; exact .inl rfl
  | cons k l ih =>
   intro b
   rw [List.foldl_cons]
   rcases ih (bestStep (leadM asid va) b k) with h | h
   ·rw [h]
    unfold bestStep
    split
    ·exact .inr (by simp)
    ·exact .inl rfl
   ·exact .inr (List.mem_cons_of_mem _ h)
 exact key l zeroM
theorem beginP_ok {s : St} (h : OkSt s) {root : Nat} (hr : Tb root) (asid va : Nat) (led : Bool) : (beginP s root asid va led).1 ≤ 3 ∧ Tb (beginP s root asid va led).2 := by
 unfold beginP
 split
 ·rename_i hc
  rcases bestP_mem s.ks asid va with e | e
  ·rw [e] at hc; exact absurd hc.1 (by simp [zeroM])
  ·have := h.kok _ e
   exact ⟨this.2.2.1, this.2.2.2.2.2.1, this.2.2.2.2.2.2⟩
 ·exact ⟨by omega, hr⟩
def hV (h : Bool × Bool × Bool) : Value := .agg #[.bool h.1, .bool h.2.1, .bool h.2.2]
def regA (root asid : Nat) : Value := .agg #[.int .u64 root, .int .i64 asid]
theorem realloc_cell {w : World} {X Y : Obj} {b o : Nat} {v : Value} (h : (w.alloc X).cell? ⟨b, o, none⟩ = some v) (hb : b < w.heap.size) : (w.alloc Y).cell? ⟨b, o, none⟩ = some v := by
 have h1 := (below1 w X).cell (p := ⟨b, o, none⟩) hb
 have h2 := (below1 w Y).cell (p := ⟨b, o, none⟩) hb
 rw [h2, ← h1]; exact h
theorem realloc_ctx {W w : World} {X Y : Obj} (h : CtxB W (w.alloc X)) (hz : W.heap.size ≤ w.heap.size) : CtxB W (w.alloc Y) :=
 ⟨h.os, h.tape, h.output, by simp; omega, fun k hk => by
  have h3 := h.block k hk
  have h1 := (below1 w X).block k (by omega)
  have h2 := (below1 w Y).block k (by omega)
  rw [h2, ← h1]; exact h3⟩
set_option maxHeartbeats 6000000 in
theorem begin_nat {x m pt pk : Nat} {pv : Value} {Fm Ft Fk : Nat → Prop} {s : St} {w : World} (h : MmuD x m pt pk pv Fm Ft Fk s w) (root asid va : Nat) (hv : va < 18446744073709551616) (b1 led b3 : Bool) :
  Calls Tryz.prog 108 #[.pointer (some ⟨x, 0, none⟩), .agg #[.int .u64 root, .int .i64 asid], .int .u64 va, .agg #[.bool b1, .bool led, .bool b3]] w fun e w' => e = .returned (.tuple #[.int .i64 (beginP s root asid va led).1, .int .u64 (beginP s root asid va led).2]) ∧ Below w.heap.size w w' := by
 have C1 : Hid (∀ w', Below w.heap.size w w' → Calls Tryz.prog 136 #[.pointer (some ⟨pk, 0, none⟩), .int .i64 asid, .int .u64 va] w' (BestPost (bestP s.ks asid va) w')) := fun w' hb =>
  best_nat (h.trail.below hb) (by have := h.ok.kl; have := h.ok.m64; omega) (fun k hk => ⟨(h.ok.kok k hk).2.1, (h.ok.kok k hk).2.2.1⟩) asid va hv
 have c2 := h.c2
 have hx := h.bx
 unfold beginP
 generalize bestP s.ks asid va = b at *
 clear h
 obtain ⟨ba, bv, bl, bt⟩ := b
 dsimp only
 have C2 : Hid (∀ w', Below w.heap.size w w' → Calls Tryz.prog 136 #[.pointer (some ⟨pk, 0, none⟩), .int .i64 asid, .int .u64 va] w' fun e w'' => e = .returned (.tuple #[.agg #[.int .i64 ba, .int .u64 bv, .int .i64 bl, .int .u64 bt], .bool (decide (0 < bl))]) ∧ Below w'.heap.size w' w'') := C1.out
 clear C1
 generalize hRR : (if 0 < bl ∧ led = true then (bl, bt) else (0, root)) = RR
 have HRR := Lib.hid hRR
 clear hRR
 generalize hq : decide (0 < bl) = q at *
 have HQ := Lib.hid hq
 clear hq
 go_enter Tryz.func108, Tryz.ntmps108
 go_wp2
 generalize hW : World.alloc (World.alloc _ _) _ = W
 have r0 : W.cell? ⟨w.heap.size, 0, none⟩ = some (.int .u64 root) := by rw [← hW]; simp
 have r1 : W.cell? ⟨w.heap.size, 1, none⟩ = some (.int .i64 asid) := by rw [← hW]; simp
 have q0 : W.cell? ⟨w.heap.size + 1, 0, none⟩ = some (.bool b1) := by rw [← hW]; simp
 have q1 : W.cell? ⟨w.heap.size + 1, 1, none⟩ = some (.bool led) := by rw [← hW]; simp
 have q2 : W.cell? ⟨w.heap.size + 1, 2, none⟩ = some (.bool b3) := by rw [← hW]; simp
 have x2 : W.cell? ⟨x, 2, none⟩ = some (.pointer (some ⟨pk, 0, none⟩)) := by rw [← hW]; exact keep_cell ((below1 w _).alloc (by simp) _) c2
 have HB0 : Hid (Below w.heap.size w W) := by rw [← hW]; exact (below1 w _).alloc (by simp) _
 have hC : CtxB W W := Below.refl _ _
 have hzW : W.heap.size = w.heap.size + 2 := by rw [← hW]; simp
 have HZW := Lib.hid hzW
 have hzW2 : w.heap.size + 1 < W.heap.size := by omega
 have hzW1 : w.heap.size < W.heap.size := by omega
 have hzW0 : x < W.heap.size := by omega
 clear hW c2 hzW
 go_region_with (first | (go_at_call 136; refine (C2.out _ (by first | exact (HB0.out.alloc HB0.out.size _).drew | exact HB0.out.drew)).mono ?_; rintro e w5 ⟨rfl, hb5⟩; have hB5 : Hid (Below w.heap.size w w5) := (by first | exact ((HB0.out.alloc HB0.out.size _).drew).trans (hb5.mono ((HB0.out.alloc HB0.out.size _).drew).size) | exact HB0.out.drew.trans (hb5.mono HB0.out.drew.size)); have hBW : Hid (Below W.heap.size W w5) := (by first | exact ((below1 W _).drew).trans (hb5.mono ((below1 W _).drew).size) | exact ((Below.refl W.heap.size W).drew).trans (hb5.mono (Below.refl W.heap.size W).drew.size)); (try (have t0 : w5.cell? ⟨W.heap.size, 0, none⟩ = some (.int .i64 0) := keep_cell hb5 (by simp); have t1 : w5.cell? ⟨W.heap.size, 1, none⟩ = some (.int .u64 0) := keep_cell hb5 (by simp); have t2 : w5.cell? ⟨W.heap.size, 2, none⟩ = some (.int .i64 0) := keep_cell hb5 (by simp); have t3 : w5.cell? ⟨W.heap.size, 3, none⟩ = some (.int .u64 0) := keep_cell hb5 (by simp); have tf : ∀ j, w5.frozen? ⟨W.heap.size, j, none⟩ = false := (fun j => keep_frozen hb5 (by simp) (by simp)); have tz : W.heap.size < w5.heap.size := (by have := hb5.size; simp at this; omega))); clear hb5))
 all_goals
  have v0 := keep_cell hBW.out r0
  have v1 := keep_cell hBW.out q1
  have hy : w.heap.size + 1 < w5.heap.size := by have := hBW.out.size; omega
  have hy1 : w.heap.size < w5.heap.size := by omega
  have hy2 : ¬ W.heap.size = w.heap.size := by omega
  have hy3 : ¬ W.heap.size = w.heap.size + 1 := by omega
  cases q with
  | true =>
   have hbl : Hid (0 < bl) := (of_decide_eq_true HQ.out : 0 < bl)
   cases led with
   | true =>
    go_wp2
    go_quiet (fail)
    go_wp2
    go_ret2
    refine ⟨by first | (rw [← HRR.out, if_pos (show 0 < bl ∧ true = true from ⟨hbl.out, rfl⟩)]; rfl) | (have := HRR.out; simp [hbl.out] at this; rw [← this]; rfl) | (have h9 : RR = (bl, bt) := (by rw [← HRR.out]; simp [hbl.out]); rw [h9]; rfl), ?_⟩
    first | exact below_drewN (hB5.out.alloc hB5.out.size _) _ | exact below_drewN (below_setCells hB5.out HB0.out.size 0 [.int .i64 ba, .int .u64 bv, .int .i64 bl, .int .u64 bt]) _
   | false =>
    go_wp2
    go_quiet (fail)
    go_wp2
    go_ret2
    refine ⟨by rw [← HRR.out, if_neg (by simp)]; rfl, ?_⟩
    first | exact below_drewN (hB5.out.alloc hB5.out.size _) _ | exact below_drewN (below_setCells hB5.out HB0.out.size 0 [.int .i64 ba, .int .u64 bv, .int .i64 bl, .int .u64 bt]) _
  | false =>
   have hbl : Hid (¬ 0 < bl) := (of_decide_eq_false HQ.out : ¬ 0 < bl)
   go_wp2
   go_quiet (fail)
   go_wp2
   go_ret2
   refine ⟨by rw [← HRR.out, if_neg (fun h => hbl.out h.1)]; rfl, ?_⟩
   first | exact below_drewN (hB5.out.alloc hB5.out.size _) _ | exact below_drewN (below_setCells hB5.out HB0.out.size 0 [.int .i64 ba, .int .u64 bv, .int .i64 bl, .int .u64 bt]) _
end Go.Proofs.YtbapgngngaaojaaGreat
