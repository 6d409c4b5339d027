/- The walk of the ninth reference's walk: walkM. -/
import Derived.Test.YtbapgngngaaojaaGreatG18
import Derived.Test.YtbapgngngaaojaaGreatG21
import Derived.StillTailTactics
set_option linter.unusedSimpArgs false
set_option linter.unusedVariables false
namespace Go.Proofs.YtbapgngngaaojaaGreat
open Go.RowKit Go.Lib
set_option maxRecDepth 100000
def xC (sz most root asid : Nat) (on : Bool) (vw ve vk vp : Value) : List Value := [.int .u64 sz, vw, .int .i64 most, ve, vk, .bool on, .int .u64 root, .int .i64 asid, vp]
def xV (sz most root asid : Nat) (on : Bool) (vw ve vk vp : Value) : Value := .agg #[.int .u64 sz, vw, .int .i64 most, ve, vk, .bool on, .int .u64 root, .int .i64 asid, vp]
theorem cell_far {u : World} {b o b2 o2 : Nat} {v v2 : Value} (h : u.cell? ⟨b, o, none⟩ = some v) (hne : b2 ≠ b ∨ o2 ≠ o) : (u.setCell ⟨b2, o2, none⟩ v2).cell? ⟨b, o, none⟩ = some v := by
 rw [World.cell?_setCell_other _ _ _ _ (fun e => by injection e with e1 e2 _; omega)]
 exact h
theorem set9_eq (w : World) (b : Nat) (v0 v1 v2 v3 v4 v5 v6 v7 v8 : Value) :
  ((((((((w.setCell ⟨b, 0, none⟩ v0).setCell ⟨b, 1, none⟩ v1).setCell ⟨b, 2, none⟩ v2).setCell ⟨b, 3, none⟩ v3).setCell ⟨b, 4, none⟩ v4).setCell ⟨b, 5, none⟩ v5).setCell ⟨b, 6, none⟩ v6).setCell ⟨b, 7, none⟩ v7).setCell ⟨b, 8, none⟩ v8 = w.setCells b 0 [v0, v1, v2, v3, v4, v5, v6, v7, v8] := rfl
theorem fromP_f (sz : Nat) (rd : Nat → Nat) (level table va : Nat) : (fromP sz rd level table va).f.1 = 0 → (fromP sz rd level table va).f = (0, 0) := by
 have hg : ∀ n level table, (goP sz rd va n level table).f.1 = 0 → (goP sz rd va n level table).f = (0, 0) := by
  intro n
  induction n with
  | zero => intro level table h; cases h
  | succ n ih =>
   intro level table h
   obtain ⟨d, f, st, he, -, hc⟩ := entryP_cases sz rd level (table + indexP va level * 8)
   rw [goP_next he] at h ⊢
   by_cases hf : f = (0, 0)
   ·rw [if_pos hf] at h ⊢
    by_cases hk : d.kind = 1
    ·rw [if_pos hk] at h ⊢; exact ih _ _ h
    ·rw [if_neg hk]
   ·rw [if_neg hf] at h ⊢
    rcases hc with h2 | h2 | h2 | h2
    ·exact absurd h2.1 hf
    ·exact absurd h2.1 hf
    ·rw [h2] at h; cases h
    ·rw [h2] at h; cases h
 unfold fromP
 split
 ·exact hg _ _ _
 ·intro h; cases h
def RWalkPost (ok : Nat → Prop) (sz most root asid : Nat) (vw vp : Value) (R : Lf × St) (w : World) (e : Ending) (w' : World) : Prop :=
 ∃ A3 c3 A4 c4 A5 c5, e = .returned (.tuple #[xV sz most root asid true vw (.slice A3 R.2.es.length c3) (.slice A4 R.2.ks.length c4) vp, lV R.1.level R.1.d R.1.f (.slice A5 R.1.steps.length c5)]) ∧ RowAt w' (fun k => ok k ∨ w.heap.size ≤ k) 10 (.slice A3 R.2.es.length c3) R.2.es.length (rowL eL R.2.es) ∧ RowAt w' (fun k => ok k ∨ w.heap.size ≤ k) 4 (.slice A4 R.2.ks.length c4) R.2.ks.length (rowL mL R.2.ks) ∧ Below w.heap.size w w'
set_option maxHeartbeats 10000000 in
theorem rxwalk_nat {ok : Nat → Prop} (sz most root asid va : Nat) (ws : List (Nat × Nat)) (es : List Ent) (ks : List Mk) (fill led keep : Bool) (A1 A2 A3 A4 : Option Addr) (n4 c1 c2 c3 c4 : Nat) (w : World) (hs : OkSt ⟨sz, rdM ws, most, es, ks, some (root, asid)⟩) (hv : va < 18446744073709551616) (hn : ws.length ≤ 1000000) (hws : ∀ a, rdM ws a < 18446744073709551616) (hok : ∀ k, ok k → k < w.heap.size)
  (h1 : RowAt w ok 2 (.slice A1 ws.length c1) ws.length (rowL wL ws)) (h2 : RowAt w ok 10 (.slice A2 es.length c2) es.length (rowL eL es)) (h3 : RowAt w ok 4 (.slice A3 ks.length c3) ks.length (rowL mL ks)) :
  Calls Tryz.prog 35 #[xV sz most root asid true (.slice A1 ws.length c1) (.slice A2 es.length c2) (.slice A3 ks.length c3) (.slice A4 n4 c4), .int .u64 va, .agg #[.bool fill, .bool led, .bool keep]] w (RWalkPost ok sz most root asid (.slice A1 ws.length c1) (.slice A4 n4 c4) (walkM ⟨sz, rdM ws, most, es, ks, some (root, asid)⟩ root asid va fill led keep) w) := by
 obtain ⟨s1, s2, s3, s4, s5, s6, s7, s8, s9⟩ := hs
 dsimp only at s1 s2 s3 s4 s5 s6 s7 s8 s9
 have C1 : Hid (∀ w', Below w.heap.size w w' → Calls Tryz.prog 82 #[.slice A3 ks.length c3, .int .i64 asid, .int .u64 va] w' fun e w'' => e = .returned (mV (bestP ks asid va)) ∧ Below w'.heap.size w' w'') := fun w' hb => rbest_nat ks asid va A3 c3 w' (by omega) (fun x hx => ⟨(s8 x hx).2.1, (s8 x hx).2.2.1⟩) hv (h3.rd.below hb)
 have hbk := beginP_ok (s := ⟨sz, rdM ws, most, es, ks, some (root, asid)⟩) ⟨s1, s2, s3, s4, s5, s6, s7, s8, s9⟩ (s9 root asid rfl).1 asid va led
 have ha := (s9 root asid rfl).2
 have hbd : beginP ⟨sz, rdM ws, most, es, ks, some (root, asid)⟩ root asid va led = if (led && decide (0 < (bestP ks asid va).level)) = true then ((bestP ks asid va).level, (bestP ks asid va).table) else (0, root) := by
  unfold beginP
  dsimp only
  cases led <;> simp
 obtain ⟨hw1, hw2⟩ : (walkM ⟨sz, rdM ws, most, es, ks, some (root, asid)⟩ root asid va fill led keep).1 = fromP sz (rdM ws) (beginP ⟨sz, rdM ws, most, es, ks, some (root, asid)⟩ root asid va led).1 (beginP ⟨sz, rdM ws, most, es, ks, some (root, asid)⟩ root asid va led).2 va ∧ (walkM ⟨sz, rdM ws, most, es, ks, some (root, asid)⟩ root asid va fill led keep).2 = useP (keepP ⟨sz, rdM ws, most, es, ks, some (root, asid)⟩ keep (walkedP most asid va ks (beginP ⟨sz, rdM ws, most, es, ks, some (root, asid)⟩ root asid va led).1 (walkM ⟨sz, rdM ws, most, es, ks, some (root, asid)⟩ root asid va fill led keep).1.steps)) asid va fill (walkM ⟨sz, rdM ws, most, es, ks, some (root, asid)⟩ root asid va fill led keep).1 := ⟨rfl, rfl⟩
 generalize beginP ⟨sz, rdM ws, most, es, ks, some (root, asid)⟩ root asid va led = b at *
 obtain ⟨b1, b2⟩ := b
 obtain ⟨hb3, hbt⟩ := hbk
 dsimp only at hb3 hbt hw1 hw2
 have hfo := fromP_ok sz (rdM ws) b1 b2 va
 have hff := fromP_f sz (rdM ws) b1 b2 va
 have C2 : Hid (∀ w', Below w.heap.size w w' → Calls Tryz.prog 83 #[.agg #[.int .u64 sz, .slice A1 ws.length c1], .int .i64 b1, .int .u64 b2, .int .u64 va] w' (RFromPost (fromP sz (rdM ws) b1 b2 va) w')) := fun w' hb => rfrom_nat sz b1 b2 va ws A1 c1 w' hb3 hbt hv hn hws (by omega) (h1.rd.below hb)
 generalize fromP sz (rdM ws) b1 b2 va = R at *
 generalize hWM : walkM ⟨sz, rdM ws, most, es, ks, some (root, asid)⟩ root asid va fill led keep = WM at *
 obtain ⟨R', S'⟩ := WM
 dsimp only at hw1 hw2
 subst hw1
 obtain ⟨Rl, Rd, ⟨f1, f2⟩, Rs⟩ := R'
 have hRl : Rl ≤ 3 := by
  by_cases hf : ((f1, f2) : Nat × Nat) = (0, 0)
  ·have h := rightL_kind (hfo.1.2.1 hf).1; exact h.2.2.1
  ·have h := (hfo.1.2.2 hf).1; dsimp only at h; omega
 have hst : ∀ s ∈ Rs, s.2 < 18446744073709551616 := fun s hs => by rw [hfo.1.1 s hs]; exact hws _
 have hsn : Rs.length ≤ 8 := by have := hfo.2.1; dsimp only at this; omega
 have C3 : Hid (∀ w' A5 c5, Below w.heap.size w w' → RdRow w' (.slice A5 Rs.length c5) Rs.length (stepCells Rs) → Calls Tryz.prog 84 #[.slice A3 ks.length c3, .int .i64 most, .int .i64 asid, .int .u64 va, .int .i64 b1, .slice A5 Rs.length c5] w' (RWalkedPost ok (walkedP most asid va ks b1 Rs) w')) := fun w' A5 c5 hb h5 => rwalked_nat most asid va b1 ks Rs A3 A5 c3 c5 w' (by omega) s6 ha hv hb3 hst hsn (h3.below hb) h5
 have C4 : Hid (∀ w', Calls Tryz.prog 86 #[.int .u64 va, .int .i64 Rl] w' fun e w'' => e = .returned (.int .u64 (baseP va Rl)) ∧ Below w'.heap.size w' w'') := fun w' => rbase_nat va Rl w' hRl hv
 have C5 : Hid (∀ w', Below w.heap.size w w' → Calls Tryz.prog 85 #[.slice A2 es.length c2, .int .i64 most, eV ⟨asid, baseP va Rl, Rl, Rd⟩] w' (RListPost eL 10 ok (fillP most es ⟨asid, baseP va Rl, Rl, Rd⟩) w')) := fun w' hb => rfill_nat most es ⟨asid, baseP va Rl, Rl, Rd⟩ A2 c2 w' (by omega) (h2.below hb)
 obtain ⟨Ks, hKs⟩ : ∃ Ks, (if keep = true then walkedP most asid va ks b1 Rs else ks) = Ks := ⟨_, rfl⟩
 obtain ⟨Es, hEs⟩ : ∃ Es, (if (fill && (decide (f1 = 0) && Rd.used)) = true then fillP most es ⟨asid, baseP va Rl, Rl, Rd⟩ else es) = Es := ⟨_, rfl⟩
 have hS1 : S'.ks = Ks ∧ S'.es = Es := by
  have hff2 : f1 = 0 → f2 = 0 := fun h => (Prod.mk.inj (hff h)).2
  rw [hw2, ← hKs, ← hEs]
  unfold useP keepP
  dsimp only
  cases keep <;> cases fill <;> by_cases hf : f1 = 0 <;> cases hu : Rd.used <;> simp_all
 obtain ⟨Z, hZ⟩ : ∃ Z, bestP ks asid va = Z := ⟨_, rfl⟩
 rw [hZ] at C1 hbd
 have HS1 := Lib.hid hS1
 have HKs := Lib.hid hKs
 have HEs := Lib.hid hEs
 have HBD := Lib.hid hbd
 have HOKL := Lib.hid hok
 have H1 := Lib.hid h1
 have H2 := Lib.hid h2
 have H3 := Lib.hid h3
 clear hff hok hS1 hKs hEs hbd h1 h2 h3 hWM hw2 hfo hst hsn hRl hb3 hbt hws hn hv s1 s2 s3 s4 s5 s6 s7 s8 s9 hZ ha
 obtain ⟨za, zv, zl, zt⟩ := Z
 obtain ⟨k0, o0, u1, u2, u3, u4, at0⟩ := Rd
 dsimp only [mV, eV] at C1 C5
 unfold xV
 go_enter Tryz.func35, Tryz.ntmps35
 go_upto_region 2 with fail
 generalize hW : World.alloc (World.alloc (World.alloc (World.alloc w _) _) _) _ = W
 have HXB : Hid (Box W w.heap.size (xC sz most root asid true (.slice A1 ws.length c1) (.slice A2 es.length c2) (.slice A3 ks.length c3) (.slice A4 n4 c4))) := by
  rw [← hW]
  exact (((Box.new w (xC sz most root asid true (.slice A1 ws.length c1) (.slice A2 es.length c2) (.slice A3 ks.length c3) (.slice A4 n4 c4)) 36).below (below1 _ _)).below (below1 _ _)).below (below1 _ _)
 have HHB : Hid (Box W (w.heap.size + 1) [.bool fill, .bool led, .bool keep]) := by
  rw [← hW]
  exact ((Box.new' (w.alloc (.cells (xC sz most root asid true (.slice A1 ws.length c1) (.slice A2 es.length c2) (.slice A3 ks.length c3) (.slice A4 n4 c4)).toArray 36)) _ (by simp) [.bool fill, .bool led, .bool keep] 41).below (below1 _ _)).below (below1 _ _)
 have H6B : Hid (Box W (w.heap.size + 2) (xC 0 0 0 0 false (.slice none 0 0) (.slice none 0 0) (.slice none 0 0) (.slice none 0 0))) := by
  rw [← hW]
  exact (Box.new' ((w.alloc (.cells (xC sz most root asid true (.slice A1 ws.length c1) (.slice A2 es.length c2) (.slice A3 ks.length c3) (.slice A4 n4 c4)).toArray 36)).alloc (.cells #[.bool fill, .bool led, .bool keep] 41)) _ (by simp) (xC 0 0 0 0 false (.slice none 0 0) (.slice none 0 0) (.slice none 0 0) (.slice none 0 0)) 36).below (below1 _ _)
 have H7B : Hid (Box W (w.heap.size + 3) (lC 0 zeroD (0, 0) (.slice none 0 0))) := by
  rw [← hW]
  exact Box.new' (((w.alloc (.cells (xC sz most root asid true (.slice A1 ws.length c1) (.slice A2 es.length c2) (.slice A3 ks.length c3) (.slice A4 n4 c4)).toArray 36)).alloc (.cells #[.bool fill, .bool led, .bool keep] 41)).alloc (.cells (xC 0 0 0 0 false (.slice none 0 0) (.slice none 0 0) (.slice none 0 0) (.slice none 0 0)).toArray 36)) _ (by simp) (lC 0 zeroD (0, 0) (.slice none 0 0)) 106
 have HB0 : Hid (Below w.heap.size w W) := by rw [← hW]; exact (((below1 w _).alloc (by simp) _).alloc (by simp; omega) _).alloc (by simp; omega) _
 clear hW
 have x4 := HXB.out.at 4 _ rfl
 have x6 := HXB.out.at 6 _ rfl
 have x7 := HXB.out.at 7 _ rfl
 go_upto_region 4 with (go_at_call 82; refine (C1.out _ HB0.out).mono ?_; rintro e w1 ⟨rfl, hb1⟩; have HBW1 := Lib.hid hb1; clear hb1)
 have HZB : Hid (Box (w1.alloc (.cells #[.int .i64 za, .int .u64 zv, .int .i64 zl, .int .u64 zt] 122)) w1.heap.size [.int .i64 za, .int .u64 zv, .int .i64 zl, .int .u64 zt]) := Box.new w1 [.int .i64 za, .int .u64 zv, .int .i64 zl, .int .u64 zt] 122
 have HBX : Hid (Below W.heap.size W (w1.alloc (.cells #[.int .i64 za, .int .u64 zv, .int .i64 zl, .int .u64 zt] 122))) := HBW1.out.alloc HBW1.out.size _
 generalize World.alloc w1 _ = W2 at *
 have HB2 : Hid (Below w.heap.size w W2) := HB0.out.trans (HBX.out.mono HB0.out.size)
 replace HXB := Lib.hid (HXB.out.below HBX.out)
 replace HHB := Lib.hid (HHB.out.below HBX.out)
 replace H6B := Lib.hid (H6B.out.below HBX.out)
 replace H7B := Lib.hid (H7B.out.below HBX.out)
 clear x4 x6 x7 HBW1 HBX HB0
 have h1 := HHB.out.at 1 _ rfl
 have z2 := HZB.out.at 2 _ rfl
 have z3 := HZB.out.at 3 _ rfl
 obtain ⟨q, hq⟩ : ∃ q, decide (0 < zl) = q := ⟨_, rfl⟩
 have hq' : decide ((0 : Int) < (zl : Int)) = q := by rw [← hq, decide_eq_decide]; omega
 try dsimp only at HBD
 rw [hq] at HBD
 go_cut [26] (fun s26 wx => s26 = .bool (led && q) ∧ wx = W2)
 case first =>
  cases led with
  | true =>
   go_wp2_with fail
   go_meet
   exact ⟨by simp, rfl⟩
  | false =>
   go_wp2_with fail
   go_meet
   exact ⟨rfl, rfl⟩
 case rest =>
  obtain ⟨rfl, rfl⟩ := hcut
  clear hq hq' h1 z2 z3
  generalize (led && q) = lq at *
  have z2 := HZB.out.at 2 _ rfl
  have z3 := HZB.out.at 3 _ rfl
  go_upto_if 26 with fail
  go_cut [8, 9] (fun s8 s9 wx => s8 = .int .i64 b1 ∧ s9 = .int .u64 b2 ∧ wx = wc)
  case first =>
   cases lq with
   | true =>
    have h := HBD.out
    rw [if_pos rfl] at h
    obtain ⟨e1, e2⟩ := Prod.mk.inj h
    subst e1 e2
    clear h
    go_wp2_with fail
    go_meet
    exact ⟨rfl, rfl, rfl⟩
   | false =>
    have h := HBD.out
    rw [if_neg (by simp)] at h
    obtain ⟨e1, e2⟩ := Prod.mk.inj h
    subst e1 e2
    clear h
    go_wp2_with fail
    go_meet
    exact ⟨rfl, rfl, rfl⟩
  case rest =>
   obtain ⟨rfl, rfl, rfl⟩ := hcut
   clear z2 z3 HZB HBD
   have x0 := HXB.out.at 0 _ rfl
   have x1 := HXB.out.at 1 _ rfl
   go_upto_region 8 with (go_at_call 83; refine (C2.out _ HB2.out).mono ?_; rintro e w3 ⟨A5, c5, rfl, hrow5, hb5⟩; dsimp only [lV]; have HBW3 := Lib.hid hb5; have HST5 := Lib.hid hrow5.rd; clear hb5 hrow5)
   have HLB : Hid (Box (w3.alloc (.cells #[.int .i64 Rl, .int .i64 k0, .int .u64 o0, .bool u1, .bool u2, .bool u3, .bool u4, .int .i64 at0, .int .i64 f1, .int .i64 f2, .slice A5 Rs.length c5] 106)) w3.heap.size (lC Rl ⟨k0, o0, u1, u2, u3, u4, at0⟩ (f1, f2) (.slice A5 Rs.length c5))) := Box.new w3 (lC Rl ⟨k0, o0, u1, u2, u3, u4, at0⟩ (f1, f2) (.slice A5 Rs.length c5)) 106
   have HBX4 : Hid (Below wc.heap.size wc (w3.alloc (.cells #[.int .i64 Rl, .int .i64 k0, .int .u64 o0, .bool u1, .bool u2, .bool u3, .bool u4, .int .i64 at0, .int .i64 f1, .int .i64 f2, .slice A5 Rs.length c5] 106))) := HBW3.out.alloc HBW3.out.size _
   have HST4 : Hid (RdRow (w3.alloc (.cells #[.int .i64 Rl, .int .i64 k0, .int .u64 o0, .bool u1, .bool u2, .bool u3, .bool u4, .int .i64 at0, .int .i64 f1, .int .i64 f2, .slice A5 Rs.length c5] 106)) (.slice A5 Rs.length c5) Rs.length (stepCells Rs)) := HST5.out.below (below1 _ _)
   have HLZ : Hid (w.heap.size + 3 < w3.heap.size) := by have := H7B.out.2.2; have := HBW3.out.size; rw [Hid]; omega
   generalize World.alloc w3 _ = W4 at *
   have HB4 : Hid (Below w.heap.size w W4) := HB2.out.trans (HBX4.out.mono HB2.out.size)
   replace HXB := Lib.hid (HXB.out.below HBX4.out)
   replace HHB := Lib.hid (HHB.out.below HBX4.out)
   replace H6B := Lib.hid (H6B.out.below HBX4.out)
   replace H7B := Lib.hid (H7B.out.below HBX4.out)
   have HW4 : Hid (w.heap.size + 4 ≤ W4.heap.size) := H7B.out.2.2
   clear x0 x1 HBW3 HBX4 HB2 HST5
   generalize w3.heap.size = L at *
   have h2 := HHB.out.at 2 _ rfl
   go_upto_if 38 with fail
   go_cut [] (fun wx => ∃ A6 c6, Hid (Box wx w.heap.size (xC sz most root asid true (.slice A1 ws.length c1) (.slice A2 es.length c2) (.slice A6 Ks.length c6) (.slice A4 n4 c4))) ∧ Hid (RowAt wx (fun k => ok k ∨ W4.heap.size ≤ k) 4 (.slice A6 Ks.length c6) Ks.length (rowL mL Ks)) ∧ Hid (Kp (fun k => k = w.heap.size) W4 wx))
   case first =>
    have hk := HKs.out
    clear h2
    cases keep with
    | true =>
     rw [if_pos rfl] at hk
     have HK2 := Lib.hid hk
     clear hk
     have x2 := HXB.out.at 2 _ rfl
     have x4 := HXB.out.at 4 _ rfl
     have x7 := HXB.out.at 7 _ rfl
     have fx := HXB.out.2.1
     have zx := HXB.out.2.2
     have la := HLB.out.at 10 _ rfl
     go_wp2_with (go_at_call 84; refine (C3.out _ A5 c5 HB4.out HST4.out).mono ?_; rintro e w5 ⟨A6, c6, nn, rfl, hrow6, hb6⟩; rw [HK2.out] at hrow6; rw [HK2.out]; have HROW6 := Lib.hid hrow6; have HBW6 := Lib.hid hb6; have HXC := Lib.hid (HXB.out.below hb6); clear x2 x4 x7 fx zx la hrow6 hb6; have x4 := HXC.out.at 4 _ rfl; have fx := HXC.out.2.1; have zx := HXC.out.2.2)
     go_meet
     exact ⟨A6, c6, HXC.out.setAt 4 (by simp [xC]) _, HROW6.out.far (fun h => h.elim (fun h => Nat.lt_irrefl _ (HOKL.out _ h)) (fun h => by have := HXB.out.2.2; omega)) 4 _, (Kp.ofBelow (F := fun k => k = w.heap.size) HBW6.out).setCell (p := ⟨w.heap.size, 4, none⟩) (.inl rfl) _⟩
    | false =>
     rw [if_neg (by simp)] at hk
     have HK2 : Hid (ks = Ks) := hk
     clear hk
     go_wp2_with fail
     go_meet
     rw [← HK2.out]
     exact ⟨A3, c3, HXB, (H3.out.below HB4.out).mono (fun k _ h => .inl h), Kp.refl _ _⟩
   case rest =>
    obtain ⟨A6, c6, HXC, HROW6, HKP6⟩ := hcut
    have HB6 : Hid (Below w.heap.size w wc) := HKP6.out.toBelow HB4.out HB4.out.size (fun k hk => by omega)
    replace HHB := Lib.hid (HHB.out.kept HKP6.out (by omega))
    replace H6B := Lib.hid (H6B.out.kept HKP6.out (by omega))
    replace H7B := Lib.hid (H7B.out.kept HKP6.out (by omega))
    have HLZ2 := HLZ.out
    replace HLB := Lib.hid (HLB.out.kept HKP6.out (by omega))
    have HR6 : Hid (RowAt wc (fun k => ok k ∨ w.heap.size + 4 ≤ k) 4 (.slice A6 Ks.length c6) Ks.length (rowL mL Ks)) := HROW6.out.mono (fun k _ h => h.imp id (fun h => by have := HW4.out; omega))
    clear HXB HB4 HROW6 HKP6 HST4 h2 HLZ2
    have h0 := HHB.out.at 0 _ rfl
    have l6 := HLB.out.at 6 _ rfl
    have l8 := HLB.out.at 8 _ rfl
    obtain ⟨qf, hqf⟩ : ∃ q, decide (f1 = 0) = q := ⟨_, rfl⟩
    have hqf' : ((f1 : Int) == 0) = qf := by rw [← hqf, Bool.eq_iff_iff]; simp
    rw [hqf] at HEs
    clear hqf
    go_upto_region 10 with fail
    go_cut [66] (fun s66 wx => s66 = .bool (fill && (qf && u4)) ∧ wx = wc)
    case first =>
     cases fill with
     | true =>
      cases qf with
      | true =>
       go_wp2_with fail
       go_meet
       exact ⟨by simp, rfl⟩
      | false =>
       go_wp2_with fail
       go_meet
       exact ⟨by simp, rfl⟩
     | false =>
      go_wp2_with fail
      go_meet
      exact ⟨by simp, rfl⟩
    case rest =>
     obtain ⟨rfl, rfl⟩ := hcut
     clear h0 l6 l8 hqf'
     try dsimp only at HEs
     generalize (fill && (qf && u4)) = fq at *
     go_upto_if 66 with fail
     go_cut [] (fun wx => ∃ A7 c7, Hid (Box wx w.heap.size (xC sz most root asid true (.slice A1 ws.length c1) (.slice A7 Es.length c7) (.slice A6 Ks.length c6) (.slice A4 n4 c4))) ∧ Hid (RowAt wx (fun k => ok k ∨ w.heap.size + 4 ≤ k) 10 (.slice A7 Es.length c7) Es.length (rowL eL Es)) ∧ Hid (Kp (fun k => k = w.heap.size) wc wx))
     case first =>
      have hk := HEs.out
      cases fq with
      | true =>
       rw [if_pos rfl] at hk
       have HK2 := Lib.hid hk
       clear hk
       have x2 := HXC.out.at 2 _ rfl
       have x3 := HXC.out.at 3 _ rfl
       have x7 := HXC.out.at 7 _ rfl
       have l0 := HLB.out.at 0 _ rfl
       have l1 := HLB.out.at 1 _ rfl
       have l2 := HLB.out.at 2 _ rfl
       have l3 := HLB.out.at 3 _ rfl
       have l4 := HLB.out.at 4 _ rfl
       have l5 := HLB.out.at 5 _ rfl
       have l6 := HLB.out.at 6 _ rfl
       have l7 := HLB.out.at 7 _ rfl
       have q3 := drew_cell x3
       have hC : CtxB w wc := HB6.out
       have hlz := HLZ.out
       clear x3
       go_wp2_with fail
       obtain ⟨S, hSdef⟩ : ∃ S : World → Prop, S = (fun u => u.cell? ⟨w.heap.size, 2, none⟩ = some (.int .i64 most) ∧ u.cell? ⟨w.heap.size, 7, none⟩ = some (.int .i64 asid) ∧ u.cell? ⟨L, 0, none⟩ = some (.int .i64 Rl) ∧ u.cell? ⟨L, 1, none⟩ = some (.int .i64 k0) ∧ u.cell? ⟨L, 2, none⟩ = some (.int .u64 o0) ∧ u.cell? ⟨L, 3, none⟩ = some (.bool u1) ∧ u.cell? ⟨L, 4, none⟩ = some (.bool u2) ∧ u.cell? ⟨L, 5, none⟩ = some (.bool u3) ∧ u.cell? ⟨L, 6, none⟩ = some (.bool u4) ∧ u.cell? ⟨L, 7, none⟩ = some (.int .i64 at0) ∧ CtxB w u) := ⟨_, rfl⟩
       have hSu : ∀ u, S u → (fun u => u.cell? ⟨w.heap.size, 2, none⟩ = some (.int .i64 most) ∧ u.cell? ⟨w.heap.size, 7, none⟩ = some (.int .i64 asid) ∧ u.cell? ⟨L, 0, none⟩ = some (.int .i64 Rl) ∧ u.cell? ⟨L, 1, none⟩ = some (.int .i64 k0) ∧ u.cell? ⟨L, 2, none⟩ = some (.int .u64 o0) ∧ u.cell? ⟨L, 3, none⟩ = some (.bool u1) ∧ u.cell? ⟨L, 4, none⟩ = some (.bool u2) ∧ u.cell? ⟨L, 5, none⟩ = some (.bool u3) ∧ u.cell? ⟨L, 6, none⟩ = some (.bool u4) ∧ u.cell? ⟨L, 7, none⟩ = some (.int .i64 at0) ∧ CtxB w u) u := fun u h => by rw [hSdef] at h; exact h
       have hSi : ∀ u, (fun u => u.cell? ⟨w.heap.size, 2, none⟩ = some (.int .i64 most) ∧ u.cell? ⟨w.heap.size, 7, none⟩ = some (.int .i64 asid) ∧ u.cell? ⟨L, 0, none⟩ = some (.int .i64 Rl) ∧ u.cell? ⟨L, 1, none⟩ = some (.int .i64 k0) ∧ u.cell? ⟨L, 2, none⟩ = some (.int .u64 o0) ∧ u.cell? ⟨L, 3, none⟩ = some (.bool u1) ∧ u.cell? ⟨L, 4, none⟩ = some (.bool u2) ∧ u.cell? ⟨L, 5, none⟩ = some (.bool u3) ∧ u.cell? ⟨L, 6, none⟩ = some (.bool u4) ∧ u.cell? ⟨L, 7, none⟩ = some (.int .i64 at0) ∧ CtxB w u) u → S u := fun u h => by rw [hSdef]; exact h
       clear hSdef
       have hS0 : S wc.drew := hSi _ ⟨drew_cell x2, drew_cell x7, drew_cell l0, drew_cell l1, drew_cell l2, drew_cell l3, drew_cell l4, drew_cell l5, drew_cell l6, drew_cell l7, hC.drew⟩
       clear x2 x7 l0 l1 l2 l3 l4 l5 l6 l7
       refine wp_region_held_drew (S := S) (by kernel_rfl) hS0 (fun hHeld => ?_)
       refine wpAnyH_take (i := 0) (v := ?_) rfl (by kernel_rfl) (by kernel_rfl) (by kernel_rfl) (fun _ _ _ h => h) (Or.inl ⟨by rfl, ?_⟩) (by assumption) ?_
       rotate_left
       ·intro w hSw
        have hSw := hSu _ hSw
        try dsimp only at hSw
        go_simp
        try with_reducible rfl
       try simp only [Act.put, List.setIfInBounds_toArray, List.set_cons_zero, List.set_cons_succ]
       refine wpAnyH_take (i := 2) (v := ?_) rfl (by kernel_rfl) (by kernel_rfl) (by kernel_rfl) (fun _ _ _ h => h) (Or.inl ⟨by rfl, ?_⟩) (by assumption) ?_
       rotate_left
       ·intro w hSw
        have hSw := hSu _ hSw
        try dsimp only at hSw
        go_simp
        try with_reducible rfl
       try simp only [Act.put, List.setIfInBounds_toArray, List.set_cons_zero, List.set_cons_succ]
       refine wpAnyH_take (i := 3) (v := ?_) rfl (by kernel_rfl) (by kernel_rfl) (by kernel_rfl) (fun _ _ _ h => h) (Or.inl ⟨by rfl, ?_⟩) (by assumption) ?_
       rotate_left
       ·intro w hSw
        have hSw := hSu _ hSw
        try dsimp only at hSw
        go_simp
        try with_reducible rfl
       try simp only [Act.put, List.setIfInBounds_toArray, List.set_cons_zero, List.set_cons_succ]
       refine wpAnyH_take (i := 4) (v := ?_) rfl (by kernel_rfl) (by kernel_rfl) (by kernel_rfl) (fun _ _ _ h => h) (Or.inl ⟨by rfl, ?_⟩) (by assumption) ?_
       rotate_left
       ·intro w hSw
        have hSw := hSu _ hSw
        try dsimp only at hSw
        go_simp
        try with_reducible rfl
       try simp only [Act.put, List.setIfInBounds_toArray, List.set_cons_zero, List.set_cons_succ]
       refine wpAnyH_take (i := 5) (v := ?_) rfl (by kernel_rfl) (by kernel_rfl) (by kernel_rfl) (fun _ _ _ h => h) (Or.inl ⟨by rfl, ?_⟩) (by assumption) ?_
       rotate_left
       ·intro w hSw
        have hSw := hSu _ hSw
        try dsimp only at hSw
        go_simp
        try with_reducible rfl
       try simp only [Act.put, List.setIfInBounds_toArray, List.set_cons_zero, List.set_cons_succ]
       refine wpAnyH_take (i := 6) (v := ?_) rfl (by kernel_rfl) (by kernel_rfl) (by kernel_rfl) (fun _ _ _ h => h) (Or.inl ⟨by rfl, ?_⟩) (by assumption) ?_
       rotate_left
       ·intro w hSw
        have hSw := hSu _ hSw
        try dsimp only at hSw
        go_simp
        try with_reducible rfl
       try simp only [Act.put, List.setIfInBounds_toArray, List.set_cons_zero, List.set_cons_succ]
       refine wpAnyH_take (i := 7) (v := ?_) rfl (by kernel_rfl) (by kernel_rfl) (by kernel_rfl) (fun _ _ _ h => h) (Or.inl ⟨by rfl, ?_⟩) (by assumption) ?_
       rotate_left
       ·intro w hSw
        have hSw := hSu _ hSw
        try dsimp only at hSw
        go_simp
        try with_reducible rfl
       try simp only [Act.put, List.setIfInBounds_toArray, List.set_cons_zero, List.set_cons_succ]
       refine wpAnyH_take (i := 8) (v := ?_) rfl (by kernel_rfl) (by kernel_rfl) (by kernel_rfl) (fun _ _ _ h => h) (Or.inl ⟨by rfl, ?_⟩) (by assumption) ?_
       rotate_left
       ·intro w hSw
        have hSw := hSu _ hSw
        try dsimp only at hSw
        go_simp
        try with_reducible rfl
       try simp only [Act.put, List.setIfInBounds_toArray, List.set_cons_zero, List.set_cons_succ]
       refine wpAnyH_take (i := 10) (v := ?_) rfl (by kernel_rfl) (by kernel_rfl) (by kernel_rfl) (fun _ _ _ h => h) (Or.inl ⟨by rfl, ?_⟩) (by assumption) ?_
       rotate_left
       ·intro w hSw
        have hSw := hSu _ hSw
        try dsimp only at hSw
        go_simp
        try with_reducible rfl
       try simp only [Act.put, List.setIfInBounds_toArray, List.set_cons_zero, List.set_cons_succ]
       refine wpAnyH_take (i := 11) (v := ?_) rfl (by kernel_rfl) (by kernel_rfl) (by kernel_rfl) (fun _ _ _ h => h) (Or.inl ⟨by rfl, ?_⟩) (by assumption) ?_
       rotate_left
       ·intro w hSw
        have hSw := hSu _ hSw
        try dsimp only at hSw
        go_simp
        try with_reducible rfl
       try simp only [Act.put, List.setIfInBounds_toArray, List.set_cons_zero, List.set_cons_succ]
       refine wpAnyH_take (i := 12) (v := ?_) rfl (by kernel_rfl) (by kernel_rfl) (by kernel_rfl) (fun _ _ _ h => h) (Or.inl ⟨by rfl, ?_⟩) (by assumption) ?_
       rotate_left
       ·intro w hSw
        have hSw := hSu _ hSw
        try dsimp only at hSw
        go_simp
        try with_reducible rfl
       try simp only [Act.put, List.setIfInBounds_toArray, List.set_cons_zero, List.set_cons_succ]
       refine wpAnyH_take (i := 13) (v := ?_) rfl (by kernel_rfl) (by kernel_rfl) (by kernel_rfl) (fun _ _ _ h => h) (Or.inl ⟨by rfl, ?_⟩) (by assumption) ?_
       rotate_left
       ·intro w hSw
        have hSw := hSu _ hSw
        try dsimp only at hSw
        go_simp
        try with_reducible rfl
       try simp only [Act.put, List.setIfInBounds_toArray, List.set_cons_zero, List.set_cons_succ]
       refine wpAnyH_ready (rs := [1, 9]) (by kernel_rfl) (by simp) ?_
       refine AllReadyH.cons rfl (fun K hK => ?_) (AllReadyH.cons rfl (fun K hK => ?_) AllReadyH.nil)
       ·go_simp
        refine hK.out _ _ hHeld (fun _ => ?_)
        clear hK K
        try simp only [Act.put, List.setIfInBounds_toArray, List.set_cons_zero, List.set_cons_succ]
        refine wpAnyH_ready (rs := [9]) (by kernel_rfl) (by simp) ?_
        refine AllReadyH.cons rfl (fun K hK => ?_) AllReadyH.nil
        go_simp
        refine (C4.out _).mono ?_
        rintro e w5 ⟨rfl, hb5⟩
        go_wp2_with fail
        have hS5 : S w5 := by
         obtain ⟨c0, c1, c2, c3, c4, c5, c6, c7, c8, c9, cC⟩ := hSu _ hHeld
         exact hSi _ ⟨keep_cell hb5 c0, keep_cell hb5 c1, keep_cell hb5 c2, keep_cell hb5 c3, keep_cell hb5 c4, keep_cell hb5 c5, keep_cell hb5 c6, keep_cell hb5 c7, keep_cell hb5 c8, keep_cell hb5 c9, CtxB.next cC hb5⟩
        refine hK.out _ _ hS5 (fun hHeld => ?_)
        clear hK K
        try simp only [Act.put, List.setIfInBounds_toArray, List.set_cons_zero, List.set_cons_succ]
        have hx5 : Below wc.heap.size wc w5 := ((Below.refl _ _).drew).trans hb5
        have q5 := keep_cell hb5 q3
        clear hb5
        refine wpAnyH_take (i := 14) (v := ?_) rfl (by kernel_rfl) (by kernel_rfl) (by kernel_rfl) (fun _ _ _ h => h) (Or.inl ⟨by rfl, ?_⟩) (by assumption) ?_
        rotate_left
        ·intro w hSw
         have hSw := hSu _ hSw
         try dsimp only at hSw
         go_simp
         try with_reducible rfl
        try simp only [Act.put, List.setIfInBounds_toArray, List.set_cons_zero, List.set_cons_succ]
        refine wpAnyH_ready (rs := [15]) (by kernel_rfl) (by simp) ?_
        refine AllReadyH.cons rfl (fun K hK => ?_) AllReadyH.nil
        go_simp
        refine (C5.out _ (HB6.out.trans (hx5.mono HB6.out.size))).mono ?_
        rintro e w6 ⟨A7, c7, rfl, hrow7, hb7⟩
        rw [HK2.out] at hrow7
        rw [HK2.out]
        go_wp2_with fail
        have hS6 : S w6 := by
         obtain ⟨c0, c1, c2, c3, c4, c5, c6, c7, c8, c9, cC⟩ := hSu _ hHeld
         exact hSi _ ⟨keep_cell hb7 c0, keep_cell hb7 c1, keep_cell hb7 c2, keep_cell hb7 c3, keep_cell hb7 c4, keep_cell hb7 c5, keep_cell hb7 c6, keep_cell hb7 c7, keep_cell hb7 c8, keep_cell hb7 c9, CtxB.next cC hb7⟩
        refine hK.out _ _ hS6 (fun hHeld => ?_)
        clear hK K
        try simp only [Act.put, List.setIfInBounds_toArray, List.set_cons_zero, List.set_cons_succ]
        have hx7 : Below wc.heap.size wc w6 := hx5.trans (hb7.mono hx5.size)
        have XB := HXC.out.below hx7
        have q7 := XB.at 3 _ rfl
        have fx := XB.2.1
        have zx := XB.2.2
        refine wpAnyH_take (i := 16) (v := ?_) rfl (by kernel_rfl) (by kernel_rfl) (by kernel_rfl) (fun _ _ _ h => h) (Or.inl ⟨by rfl, ?_⟩) (by assumption) ?_
        rotate_left
        ·intro w hSw
         have hSw := hSu _ hSw
         try dsimp only at hSw
         go_simp
         try with_reducible rfl
        try simp only [Act.put, List.setIfInBounds_toArray, List.set_cons_zero, List.set_cons_succ]
        refine wpAnyH_ready (rs := [17]) (by kernel_rfl) (by simp) ?_
        refine AllReadyH.cons rfl (fun K hK => ?_) AllReadyH.nil
        go_simp
        have hS9 : S (w6.setCell ⟨w.heap.size, 3, none⟩ (.slice A7 Es.length c7)) := by
         obtain ⟨c0, c1, c2, c3, c4, c5, c6, c7, c8, c9, cC⟩ := hSu _ hHeld
         exact hSi _ ⟨cell_far c0 (.inr (by omega)), cell_far c1 (.inr (by omega)), cell_far c2 (.inl (by omega)), cell_far c3 (.inl (by omega)), cell_far c4 (.inl (by omega)), cell_far c5 (.inl (by omega)), cell_far c6 (.inl (by omega)), cell_far c7 (.inl (by omega)), cell_far c8 (.inl (by omega)), cell_far c9 (.inl (by omega)), CtxB.setC cC (Nat.le_refl _) _⟩
        refine hK.out _ _ hS9 (fun hHeld => ?_)
        clear hK K
        try simp only [Act.put, List.setIfInBounds_toArray, List.set_cons_zero, List.set_cons_succ]
        refine wpAnyH_done (by kernel_rfl) ?_ _
        go_wp2_with fail
        go_meet
        exact ⟨A7, c7, XB.setAt 3 (by simp [xC]) _, (hrow7.far (fun h => h.elim (fun h => Nat.lt_irrefl _ (HOKL.out _ h)) (fun h => by have := HXC.out.2.2; have := hx5.size; omega)) 3 _).mono (fun k _ h => h.imp id (fun h => by have := H7B.out.2.2; have := hx5.size; omega)), (Kp.ofBelow (F := fun k => k = w.heap.size) hx7).setCell (p := ⟨w.heap.size, 3, none⟩) (.inl rfl) _⟩
       ·skip
        go_simp
        refine (C4.out _).mono ?_
        rintro e w5 ⟨rfl, hb5⟩
        go_wp2_with fail
        have hS5 : S w5 := by
         obtain ⟨c0, c1, c2, c3, c4, c5, c6, c7, c8, c9, cC⟩ := hSu _ hHeld
         exact hSi _ ⟨keep_cell hb5 c0, keep_cell hb5 c1, keep_cell hb5 c2, keep_cell hb5 c3, keep_cell hb5 c4, keep_cell hb5 c5, keep_cell hb5 c6, keep_cell hb5 c7, keep_cell hb5 c8, keep_cell hb5 c9, CtxB.next cC hb5⟩
        refine hK.out _ _ hS5 (fun hHeld => ?_)
        clear hK K
        try simp only [Act.put, List.setIfInBounds_toArray, List.set_cons_zero, List.set_cons_succ]
        have hx5 : Below wc.heap.size wc w5 := ((Below.refl _ _).drew).trans hb5
        have q5 := keep_cell hb5 q3
        clear hb5
        refine wpAnyH_take (i := 14) (v := ?_) rfl (by kernel_rfl) (by kernel_rfl) (by kernel_rfl) (fun _ _ _ h => h) (Or.inl ⟨by rfl, ?_⟩) (by assumption) ?_
        rotate_left
        ·intro w hSw
         have hSw := hSu _ hSw
         try dsimp only at hSw
         go_simp
         try with_reducible rfl
        try simp only [Act.put, List.setIfInBounds_toArray, List.set_cons_zero, List.set_cons_succ]
        refine wpAnyH_ready (rs := [1]) (by kernel_rfl) (by simp) ?_
        refine AllReadyH.cons rfl (fun K hK => ?_) AllReadyH.nil
        go_simp
        refine hK.out _ _ hHeld (fun _ => ?_)
        clear hK K
        try simp only [Act.put, List.setIfInBounds_toArray, List.set_cons_zero, List.set_cons_succ]
        refine wpAnyH_ready (rs := [15]) (by kernel_rfl) (by simp) ?_
        refine AllReadyH.cons rfl (fun K hK => ?_) AllReadyH.nil
        go_simp
        refine (C5.out _ (HB6.out.trans (hx5.mono HB6.out.size))).mono ?_
        rintro e w6 ⟨A7, c7, rfl, hrow7, hb7⟩
        rw [HK2.out] at hrow7
        rw [HK2.out]
        go_wp2_with fail
        have hS6 : S w6 := by
         obtain ⟨c0, c1, c2, c3, c4, c5, c6, c7, c8, c9, cC⟩ := hSu _ hHeld
         exact hSi _ ⟨keep_cell hb7 c0, keep_cell hb7 c1, keep_cell hb7 c2, keep_cell hb7 c3, keep_cell hb7 c4, keep_cell hb7 c5, keep_cell hb7 c6, keep_cell hb7 c7, keep_cell hb7 c8, keep_cell hb7 c9, CtxB.next cC hb7⟩
        refine hK.out _ _ hS6 (fun hHeld => ?_)
        clear hK K
        try simp only [Act.put, List.setIfInBounds_toArray, List.set_cons_zero, List.set_cons_succ]
        have hx7 : Below wc.heap.size wc w6 := hx5.trans (hb7.mono hx5.size)
        have XB := HXC.out.below hx7
        have q7 := XB.at 3 _ rfl
        have fx := XB.2.1
        have zx := XB.2.2
        refine wpAnyH_take (i := 16) (v := ?_) rfl (by kernel_rfl) (by kernel_rfl) (by kernel_rfl) (fun _ _ _ h => h) (Or.inl ⟨by rfl, ?_⟩) (by assumption) ?_
        rotate_left
        ·intro w hSw
         have hSw := hSu _ hSw
         try dsimp only at hSw
         go_simp
         try with_reducible rfl
        try simp only [Act.put, List.setIfInBounds_toArray, List.set_cons_zero, List.set_cons_succ]
        refine wpAnyH_ready (rs := [17]) (by kernel_rfl) (by simp) ?_
        refine AllReadyH.cons rfl (fun K hK => ?_) AllReadyH.nil
        go_simp
        have hS9 : S (w6.setCell ⟨w.heap.size, 3, none⟩ (.slice A7 Es.length c7)) := by
         obtain ⟨c0, c1, c2, c3, c4, c5, c6, c7, c8, c9, cC⟩ := hSu _ hHeld
         exact hSi _ ⟨cell_far c0 (.inr (by omega)), cell_far c1 (.inr (by omega)), cell_far c2 (.inl (by omega)), cell_far c3 (.inl (by omega)), cell_far c4 (.inl (by omega)), cell_far c5 (.inl (by omega)), cell_far c6 (.inl (by omega)), cell_far c7 (.inl (by omega)), cell_far c8 (.inl (by omega)), cell_far c9 (.inl (by omega)), CtxB.setC cC (Nat.le_refl _) _⟩
        refine hK.out _ _ hS9 (fun hHeld => ?_)
        clear hK K
        try simp only [Act.put, List.setIfInBounds_toArray, List.set_cons_zero, List.set_cons_succ]
        refine wpAnyH_done (by kernel_rfl) ?_ _
        go_wp2_with fail
        go_meet
        exact ⟨A7, c7, XB.setAt 3 (by simp [xC]) _, (hrow7.far (fun h => h.elim (fun h => Nat.lt_irrefl _ (HOKL.out _ h)) (fun h => by have := HXC.out.2.2; have := hx5.size; omega)) 3 _).mono (fun k _ h => h.imp id (fun h => by have := H7B.out.2.2; have := hx5.size; omega)), (Kp.ofBelow (F := fun k => k = w.heap.size) hx7).setCell (p := ⟨w.heap.size, 3, none⟩) (.inl rfl) _⟩
      | false =>
       rw [if_neg (by simp)] at hk
       have HK2 : Hid (es = Es) := hk
       clear hk
       go_wp2_with fail
       go_meet
       rw [← HK2.out]
       exact ⟨A2, c2, HXC, (H2.out.below HB6.out).mono (fun k _ h => .inl h), Kp.refl _ _⟩
     case rest =>
      obtain ⟨A7, c7, HXD, HROW7, HKP7⟩ := hcut
      have HB7 : Hid (Below w.heap.size w wc) := HKP7.out.toBelow HB6.out HB6.out.size (fun k hk => by omega)
      replace H6B := Lib.hid (H6B.out.kept HKP7.out (by omega))
      replace H7B := Lib.hid (H7B.out.kept HKP7.out (by omega))
      have HLZ2 := HLZ.out
      replace HLB := Lib.hid (HLB.out.kept HKP7.out (by omega))
      have HR7 : Hid (RowAt wc (fun k => ok k ∨ w.heap.size + 4 ≤ k) 4 (.slice A6 Ks.length c6) Ks.length (rowL mL Ks)) := HR6.out.kept HKP7.out (fun k h e => by subst e; exact h.elim (fun h => Nat.lt_irrefl _ (HOKL.out _ h)) (fun h => by omega))
      clear HXC HB6 HR6 HKP7 HHB HLZ2
      have BX := HXD.out
      have x0 := BX.at 0 _ rfl
      have x1 := BX.at 1 _ rfl
      have x2 := BX.at 2 _ rfl
      have x3 := BX.at 3 _ rfl
      have x4 := BX.at 4 _ rfl
      have x5 := BX.at 5 _ rfl
      have x6 := BX.at 6 _ rfl
      have x7 := BX.at 7 _ rfl
      have x8 := BX.at 8 _ rfl
      have fx := BX.2.1
      have zx := BX.2.2
      have BY := HLB.out
      have l0 := BY.at 0 _ rfl
      have l1 := BY.at 1 _ rfl
      have l2 := BY.at 2 _ rfl
      have l3 := BY.at 3 _ rfl
      have l4 := BY.at 4 _ rfl
      have l5 := BY.at 5 _ rfl
      have l6 := BY.at 6 _ rfl
      have l7 := BY.at 7 _ rfl
      have l8 := BY.at 8 _ rfl
      have l9 := BY.at 9 _ rfl
      have la := BY.at 10 _ rfl
      have fl := BY.2.1
      have zl := BY.2.2
      have BP := H6B.out
      have p0 := BP.at 0 _ rfl
      have p1 := BP.at 1 _ rfl
      have p2 := BP.at 2 _ rfl
      have p3 := BP.at 3 _ rfl
      have p4 := BP.at 4 _ rfl
      have p5 := BP.at 5 _ rfl
      have p6 := BP.at 6 _ rfl
      have p7 := BP.at 7 _ rfl
      have p8 := BP.at 8 _ rfl
      have fp := BP.2.1
      have zp := BP.2.2
      have BR := H7B.out
      have r0 := BR.at 0 _ rfl
      have r1 := BR.at 1 _ rfl
      have r2 := BR.at 2 _ rfl
      have r3 := BR.at 3 _ rfl
      have r4 := BR.at 4 _ rfl
      have r5 := BR.at 5 _ rfl
      have r6 := BR.at 6 _ rfl
      have r7 := BR.at 7 _ rfl
      have r8 := BR.at 8 _ rfl
      have r9 := BR.at 9 _ rfl
      have ra := BR.at 10 _ rfl
      have fr := BR.2.1
      have zr := BR.2.2
      have hne : ¬ L = w.heap.size + 1 + 1 := by have := HLZ.out; omega
      clear BX BY BP BR fx fl
      go_upto_region 12 with fail
      have hBn : Below w.heap.size w wc := HB7.out
      have hS := HS1.out
      go_region
      all_goals
       go_wp2_with fail
       refine bodyPost_ret (v := .tuple #[xV sz most root asid true (.slice A1 ws.length c1) (.slice A7 Es.length c7) (.slice A6 Ks.length c6) (.slice A4 n4 c4), lV Rl ⟨k0, o0, u1, u2, u3, u4, at0⟩ (f1, f2) (.slice A5 Rs.length c5)]) (by simp [results, Tryz.results35, go_sem, zp, zr, p0, p1, p2, p3, p4, p5, p6, p7, p8, r0, r1, r2, r3, r4, r5, r6, r7, r8, r9, ra, lV, xV]) rfl ?_
       rw [set11_eq, set9_eq]
       generalize hY : World.drew _ = Y
       have hfin : Kp (fun k => k = w.heap.size + 1 + 1 ∨ k = w.heap.size + 1 + 1 + 1) wc Y := by
        rw [← hY]
        first
         | exact (((Kp.refl (fun k => k = w.heap.size + 1 + 1 ∨ k = w.heap.size + 1 + 1 + 1) wc).setCells (.inl (.inl rfl)) 0 _).setCells (.inl (.inr rfl)) 0 _).drew
         | exact (((Kp.refl (fun k => k = w.heap.size + 1 + 1 ∨ k = w.heap.size + 1 + 1 + 1) wc).setCells (.inl (.inr rfl)) 0 _).setCells (.inl (.inl rfl)) 0 _).drew
       have hno : ∀ k, (ok k ∨ w.heap.size + 4 ≤ k) → ¬ (k = w.heap.size + 1 + 1 ∨ k = w.heap.size + 1 + 1 + 1) := fun k h e => by
        rcases h with h | h
        ·have := HOKL.out k h; omega
        ·omega
       refine ⟨A7, c7, A6, c6, A5, c5, ?_, ?_, ?_, hfin.toBelow hBn hBn.size (fun k hk => by omega)⟩
       ·rw [hS.1, hS.2]
       ·rw [hS.2]
        exact (HROW7.out.kept hfin hno).mono (fun k _ h => h.imp id (fun h => by omega))
       ·rw [hS.1]
        exact (HR7.out.kept hfin hno).mono (fun k _ h => h.imp id (fun h => by omega))
end Go.Proofs.YtbapgngngaaojaaGreat
