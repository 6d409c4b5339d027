/- The walk of package walk: from, From, Walk, Trace. '==' of structs as one Bool. Entries and marks as rows; slices.Index and Contains of them. The walk of the third reference: may, Read, Write. The walk of the third reference's Read. -/
import Derived.Test.YtbapgngngaaojaaGreatG07
import Derived.Test.YtbapgngngaaojaaGreatProg
import Derived.WalkKit
import Derived.KernelRfl
import Derived.Laws.StructEq
set_option linter.unusedSimpArgs false
set_option linter.unusedVariables false
namespace Go.Proofs.YtbapgngngaaojaaGreat
open Go.RowKit Go.Lib
set_option maxRecDepth 100000
def leafV (level : Nat) (d : Dd) : Value := .agg #[.int .i64 level, .int .i64 d.kind, .int .u64 d.out, .bool d.user, .bool d.write, .bool d.exec, .bool d.used, .int .i64 d.attr]
def FromPost (F : Nat → Prop) (p m : Nat) (R : Lf) (w : World) (e : Ending) (w' : World) : Prop :=
 e = .returned (.tuple #[leafV R.level R.d, fV R.f]) ∧ WkAt (Gr F w w') p m R.steps w' ∧ Kp (WkF F p) w w'
def z8 : List Value := [.int .i64 0, .int .i64 0, .int .u64 0, .bool false, .bool false, .bool false, .bool false, .int .i64 0]
def z2 : List Value := [.int .i64 0, .int .i64 0]
theorem aligned12 (x : Nat) (w : World) (hx : x < 18446744073709551616) (h : x % 4096 = 0) :
  Calls Tryz.prog 73 #[.int .u64 x, .int .i64 12] w fun e w' => e = .returned (.bool true) ∧ w' = w := by
 have h2 := aligned_nat x 12 w hx (by omega)
 rw [show (x % 2 ^ 12 == 0) = true by simp; omega] at h2
 exact h2
theorem low_of (va : Nat) (w : World) (b : Bool) (h : lowB va = b) : Calls Tryz.prog 133 #[.int .u64 va] w fun e w' => e = .returned (.bool b) ∧ w' = w := by
 rw [← h]; exact low_nat va w
theorem Kp.set8 {F : Nat → Prop} {a w : World} {b : Nat} (h : Kp F a w) (hb : F b ∨ a.heap.size ≤ b) (v0 v1 v2 v3 v4 v5 v6 v7 : Value) :
  Kp F a ((((((((w.setCell ⟨b, 0, none⟩ v0).setCell ⟨b, 1, none⟩ v1).setCell ⟨b, 2, none⟩ v2).setCell ⟨b, 3, none⟩ v3).setCell ⟨b, 4, none⟩ v4).setCell ⟨b, 5, none⟩ v5).setCell ⟨b, 6, none⟩ v6).setCell ⟨b, 7, none⟩ v7) :=
 (h.set7 hb v0 v1 v2 v3 v4 v5 v6).setCell (p := ⟨b, 7, none⟩) hb v7
set_option maxHeartbeats 400000 in
theorem wfrom_high {F : Nat → Prop} {p m : Nat} {w : World} (hk : WkAt F p m [] w) (level table va : Nat) (hl : level ≤ 3) (ht : table < 281474976710656) (hal : table % 4096 = 0) (hv : 281474976710656 ≤ va) :
  Calls Tryz.prog 103 #[.pointer (some ⟨p, 0, none⟩), .int .i64 level, .int .u64 table, .int .u64 va] w (FromPost F p m ⟨0, zeroD, (1, 0), []⟩ w) := by
 have C1 := Lib.hid (fun w => aligned12 table w (by omega) hal)
 have C2 := Lib.hid (fun w => low_of va w false (by unfold lowB; simp; omega))
 have hd1 : decide ((level : Int) < 0) = false := by simp
 have hd2 : decide ((4 : Int) ≤ (level : Int)) = false := by simp; omega
 have HK := Lib.hid hk
 clear hk hal hv
 go_enter Tryz.func103, Tryz.ntmps103
 go_wp2_with (first | (go_at_call 73; refine (C1.out _).mono ?_; rintro e w' ⟨rfl, rfl⟩) | (go_at_call 133; refine (C2.out _).mono ?_; rintro e w' ⟨rfl, rfl⟩))
 have hB := (below1 w (.cells #[Value.int .i64 0, .int .i64 0, .int .u64 0, .bool false, .bool false, .bool false, .bool false, .int .i64 0] 62)).alloc (by simp) (.cells #[Value.int .i64 1, .int .i64 0] 43)
 refine bodyPost_ret (v := .tuple #[leafV 0 zeroD, fV (1, 0)]) (by simp [results, Tryz.results103, go_sem, leafV, fV, zeroD]) rfl ⟨rfl, ?_, .ofBelow hB⟩
 exact (HK.out.below hB).mono (fun k _ h => .inl h) (Gr.not HK.out.1 HK.out.lt) (Gr.lt HK.out.2.1 hB.size)
theorem from_step {F : Nat → Prop} {p m : Nat} {st' : List (Nat × Nat)} {W wr w1 w2 : World} (hF : ¬ F p) (hlt : p < W.heap.size) (hFb : ∀ k, F k → k < W.heap.size) (hkp : Kp (WkF F p) W wr) (hb : Below wr.heap.size wr w1)
  (h2 : WkAt (Gr (Gr F W wr) w1 w2) p m st' w2) (hk2 : Kp (WkF (Gr F W wr) p) w1 w2) : WkAt (Gr F W w2) p m st' w2 ∧ Kp (WkF F p) W w2 := by
 have s1 := hkp.size
 have s2 := hb.size
 have s3 := hk2.size
 refine ⟨h2.mono ?_ (Gr.not hF hlt) (Gr.lt hFb (by omega)), (hkp.below hb).trans hk2 ?_⟩
 ·intro k hk h
  rcases h with h | h
  ·rcases h with h | h
   ·exact .inl h
   ·exact .inr ⟨h.1, hk⟩
  ·exact .inr ⟨by omega, hk⟩
 ·intro k h
  rcases h with h | h
  ·exact .inl (.inl h)
  ·rcases h with h | h
   ·exact .inl (.inr h)
   ·exact .inr h.1
theorem goP_next {sz : Nat} {rd : Nat → Nat} {va n level table : Nat} {d : Dd} {f : Nat × Nat} {st : List (Nat × Nat)} (he : entryP sz rd level (table + indexP va level * 8) = (d, f, st)) :
  goP sz rd va (n + 1) level table = if f = (0, 0) then (if d.kind = 1 then ⟨(goP sz rd va n (level + 1) d.out).level, (goP sz rd va n (level + 1) d.out).d, (goP sz rd va n (level + 1) d.out).f, st ++ (goP sz rd va n (level + 1) d.out).steps⟩ else ⟨level, d, (0, 0), st⟩) else ⟨0, zeroD, f, st⟩ := by
 rw [goP]
 rw [he]
theorem from_fin {F : Nat → Prop} {p m : Nat} {st' : List (Nat × Nat)} {w W w2 Wf : World} {R : Lf} {V1 V2 : Value} (hk : WkAt F p m [] w) (hW : Below w.heap.size w W) (hk1 : WkAt (Gr F W w2) p m st' w2) (hkp1 : Kp (WkF F p) W w2)
  (h1 : leafV R.level R.d = V1) (h2 : fV R.f = V2) (h3 : R.steps = st') (hf : Kp (G2 w W) w2 Wf) : FromPost F p m R w (.returned (.tuple #[V1, V2])) Wf := by
 have hE := ent_end hk hW hk1 hkp1 (G2.kp hf)
 exact ⟨by rw [h1, h2], by rw [h3]; exact hE.1, hE.2⟩
def Rest (R r : Lf) (st : List (Nat × Nat)) : Prop := R.level = r.level ∧ R.d = r.d ∧ R.f = r.f ∧ R.steps = st ++ r.steps
set_option maxHeartbeats 1000000 in
theorem wfrom_low {ok F : Nat → Prop} {p m sz : Nat} {rd : Nat → Nat} {w : World} (hm : MemAt w ok m sz rd) (hk : WkAt F p m [] w) (hdis : ∀ k, ok k → ¬ WkF F p k) (hsz : sz < 9223372036854775808) (level table va : Nat) (hl : level ≤ 3) (ht : table < 281474976710656) (hal : table % 4096 = 0) (hv : va < 281474976710656) :
  Calls Tryz.prog 103 #[.pointer (some ⟨p, 0, none⟩), .int .i64 level, .int .u64 table, .int .u64 va] w (FromPost F p m (goP sz rd va (4 - level) level table) w) := by
 obtain ⟨R, hR⟩ : ∃ R, R = goP sz rd va (4 - level) level table := ⟨_, rfl⟩
 have HR0 : Hid (Rest R (goP sz rd va (4 - level) level table) []) := by rw [hR]; exact ⟨rfl, rfl, rfl, rfl⟩
 rw [← hR]
 clear hR
 have C1 := Lib.hid (fun w => aligned12 table w (by omega) hal)
 have C2 := Lib.hid (fun w => low_of va w true (by unfold lowB; simp; omega))
 have C3 := Lib.hid (fun lev hl w => index_nat va lev w hl (by omega))
 have hd1 : decide ((level : Int) < 0) = false := by simp
 have hd2 : decide ((4 : Int) ≤ (level : Int)) = false := by simp; omega
 have HK := Lib.hid hk
 have HM := Lib.hid hm
 have HD := Lib.hid hdis
 have HA := Lib.hid hal
 clear hk hal hm hdis
 go_enter Tryz.func103, Tryz.ntmps103
 go_wp2_with (first | (go_at_call 73; refine (C1.out _).mono ?_; rintro e w' ⟨rfl, rfl⟩) | (go_at_call 133; refine (C2.out _).mono ?_; rintro e w' ⟨rfl, rfl⟩))
 generalize hW : World.alloc (World.alloc _ _) _ = W
 have HR8 : Hid (Box W w.heap.size z8) := by rw [← hW]; exact (Box.new w z8 62).below (below1 _ _)
 have HQ2 : Hid (Box W (w.heap.size + 1) z2) := by
  rw [← hW]
  have h := Box.new (w.alloc (.cells z8.toArray 62)) z2 43
  rw [World.size_alloc] at h
  exact h
 have HB0 : Hid (Below w.heap.size w W) := by rw [← hW]; exact (below1 w _).alloc (by simp) _
 have HG : Hid (w.heap.size + 1 < W.heap.size) := by rw [← hW]; simp [Hid]
 clear hW
 go_loopw [1, 2] (fun lv tv wr => ∃ (lev tab : Nat) (st : List (Nat × Nat)), lv = .int .i64 lev ∧ tv = .int .u64 tab ∧ lev ≤ 3 ∧ st.length ≤ lev ∧ tab < 281474976710656 ∧ Hid (tab % 4096 = 0) ∧ Hid (Rest R (goP sz rd va (4 - lev) lev tab) st) ∧ Hid (WkAt (Gr F W wr) p m st wr) ∧ Hid (Kp (WkF F p) W wr)) (fun lv _ _ => 4 - (RowKit.intOf lv).toNat)
 case atStart =>
  refine ⟨level, table, [], rfl, rfl, hl, by simp, ht, HA, HR0, ?_, Kp.refl _ _⟩
  exact (HK.out.below HB0.out).mono (fun k _ h => .inl h) (Gr.not HK.out.1 (HK.out.below HB0.out).lt) (Gr.lt (HK.out.below HB0.out).2.1 (Nat.le_refl _))
 case round =>
  obtain ⟨lev, tab, st, rfl, rfl, hlev, hst, htab, HT, HRest, HKW, HKP⟩ := hrel
  have hix : indexP va lev < 512 := by unfold indexP; omega
  have C4 : Hid (∀ w', Below wr.heap.size wr w' → Calls Tryz.prog 134 #[.pointer (some ⟨p, 0, none⟩), .int .u64 tab, .int .i64 lev, .int .i64 (indexP va lev)] w' (EntPost (Gr F W wr) p m st (entryP sz rd lev (tab + indexP va lev * 8)) w')) := fun w' hb =>
   wentry_any (ok := ok) (((HM.out.below HB0.out).kept HKP.out HD.out).below hb) (HKW.out.below hb) (by
    intro h
    have hmo := HM.out.own
    rcases h with h | h
    ·exact HD.out m hmo (.inl h)
    ·rcases h with h | h
     ·exact HD.out m hmo (.inr h)
     ·have := World.block_lt_of_cell? w _ HM.out.cell0
      have := HB0.out.size
      dsimp only at *
      omega) hsz lev tab _ hlev htab hix (by omega)
  have HGo : Hid (goP sz rd va (4 - lev) lev tab = goP sz rd va (4 - lev) lev tab) := rfl
  obtain ⟨d, f, st2, he, hs2, hcase⟩ := entryP_cases sz rd lev (tab + indexP va lev * 8)
  have HE := Lib.hid he
  rw [he] at C4
  clear he HGo
  obtain ⟨K, out, b1, b2, b3, b4, attr⟩ := d
  dsimp only at hcase
  have C5 : Hid (∀ w, Calls Tryz.prog 135 #[.int .u64 va, .int .i64 lev] w fun e w' => e = .returned (.int .i64 (indexP va lev)) ∧ Below w.heap.size w w') := fun w => C3.out lev hlev w
  have HGo : Hid (goP sz rd va (4 - lev) lev tab = if f = (0, 0) then (if K = 1 then ⟨(goP sz rd va (3 - lev) (lev + 1) out).level, (goP sz rd va (3 - lev) (lev + 1) out).d, (goP sz rd va (3 - lev) (lev + 1) out).f, st2 ++ (goP sz rd va (3 - lev) (lev + 1) out).steps⟩ else ⟨lev, ⟨K, out, b1, b2, b3, b4, attr⟩, (0, 0), st2⟩) else ⟨0, zeroD, f, st2⟩) := by
   rw [show 4 - lev = (3 - lev) + 1 by omega]
   exact goP_next HE.out
  clear HE
  generalize indexP va lev = ix at *
  go_wp2_with fail
  refine (C5.out _).mono ?_
  rintro e w1 ⟨rfl, hb1⟩
  go_wp2_with fail
  refine (C4.out _ hb1).mono ?_
  rintro e w2 ⟨rfl, hk2, hkp2⟩
  obtain ⟨hk3, hkp3⟩ := from_step HK.out.1 (Nat.lt_of_lt_of_le HK.out.lt HB0.out.size) (fun k h => Nat.lt_of_lt_of_le (HK.out.2.1 k h) HB0.out.size) HKP.out hb1 hk2 hkp2
  have HKW2 := Lib.hid hk3
  have HKP2 := Lib.hid hkp3
  have R8 := HR8.out.kept HKP2.out (wk_new HK.out 0)
  have Q2 := HQ2.out.kept HKP2.out (wk_new HK.out 1)
  have r0 := R8.at 0 _ rfl
  have r1 := R8.at 1 _ rfl
  have r2 := R8.at 2 _ rfl
  have r3 := R8.at 3 _ rfl
  have r4 := R8.at 4 _ rfl
  have r5 := R8.at 5 _ rfl
  have r6 := R8.at 6 _ rfl
  have r7 := R8.at 7 _ rfl
  have fr := R8.2.1
  have q0 := Q2.at 0 _ rfl
  have q1 := Q2.at 1 _ rfl
  have fq := Q2.2.1
  have hz1 : w.heap.size < w2.heap.size := R8.2.2
  have hz2 : w.heap.size + 1 < w2.heap.size := Q2.2.2
  clear hb1 hk2 hkp2 hk3 hkp3 R8 Q2 C4 C5 HKW HKP
  dsimp only [dV, fV]
  rcases hcase with ⟨rfl, hK, hl3, ho, hoa⟩ | ⟨rfl, hK, -, -⟩ | rfl | rfl
  ·obtain rfl : K = 1 := hK
   have HO := Lib.hid hoa
   rw [if_pos rfl, if_pos rfl] at HGo
   have HRn : Hid (Rest R (goP sz rd va (4 - (lev + 1)) (lev + 1) out) (st ++ st2)) := by
    have h := HRest.out
    rw [HGo.out] at h
    rw [show 4 - (lev + 1) = 3 - lev by omega]
    exact ⟨h.1, h.2.1, h.2.2.1, by rw [h.2.2.2, List.append_assoc]⟩
   have HS : Hid ((st ++ st2).length ≤ lev + 1) := by rw [Hid, List.length_append]; omega
   have HL3 := Lib.hid hl3
   clear hoa HGo HRest hs2
   go_wp2
   refine ⟨⟨lev + 1, out, st ++ st2, by first | rfl | go_num, rfl, by have := HL3.out; omega, HS.out, ho, HO, HRn, ?_, ?_⟩, by simp [RowKit.intOf]; omega⟩
   ·have hb : Below w2.heap.size w2 ((w2.alloc (.cells #[Value.int .i64 1, .int .u64 out, .bool b1, .bool b2, .bool b3, .bool b4, .int .i64 attr] 60)).alloc (.cells #[Value.int .i64 0, .int .i64 0] 43)) := (below1 _ _).alloc (by simp) _
    exact (HKW2.out.below hb).mono (fun k _ h => h.imp id (fun x => ⟨x.1, Nat.lt_of_lt_of_le x.2 hb.size⟩)) (fun h => HKW2.out.1 (h.imp id (fun x => ⟨x.1, HKW2.out.lt⟩))) (fun k h => h.elim (fun x => Nat.lt_of_lt_of_le (HKW2.out.2.1 k (.inl x)) hb.size) (fun x => x.2))
   ·exact (HKP2.out.alloc _).alloc _
  ·have hK1 : ((K : Int) != 1) = true := by simp; omega
   have hk1 : ¬ K = 1 := by omega
   rw [if_pos rfl, if_neg hk1] at HGo
   clear hK hk1
   go_wp2
   have ga : G2 w W w.heap.size := ⟨Nat.le_refl _, by have := HG.out; omega⟩
   have gb : G2 w W (w.heap.size + 1) := ⟨by omega, HG.out⟩
   have HF : Hid (Kp (G2 w W) w2 w2) := Kp.refl _ _
   have hR := HRest.out
   rw [HGo.out] at hR
   refine bodyPost_ret (v := .tuple #[leafV lev ⟨K, out, b1, b2, b3, b4, attr⟩, fV (0, 0)]) (by simp [results, Tryz.results103, go_sem, hz1, hz2, r0, r1, r2, r3, r4, r5, r6, r7, q0, q1, leafV, fV, zeroD]) rfl ?_
   exact from_fin HK.out HB0.out HKW2.out HKP2.out (by rw [hR.1, hR.2.1]) (by rw [hR.2.2.1]) hR.2.2.2 ((((HF.out.set8 (.inl ga) _ _ _ _ _ _ _ _).set2 (.inl gb) _ _).alloc _).alloc _)
  ·rw [if_neg (by simp)] at HGo
   go_wp2
   go_region
   go_wp2
   have ga : G2 w W w.heap.size := ⟨Nat.le_refl _, by have := HG.out; omega⟩
   have gb : G2 w W (w.heap.size + 1) := ⟨by omega, HG.out⟩
   have HF : Hid (Kp (G2 w W) w2 w2) := Kp.refl _ _
   have hR := HRest.out
   rw [HGo.out] at hR
   refine bodyPost_ret (v := .tuple #[leafV 0 zeroD, fV (4, lev)]) (by simp [results, Tryz.results103, go_sem, hz1, hz2, r0, r1, r2, r3, r4, r5, r6, r7, q0, q1, leafV, fV, zeroD]) rfl ?_
   exact from_fin HK.out HB0.out HKW2.out HKP2.out (by rw [hR.1, hR.2.1]) (by rw [hR.2.2.1]) hR.2.2.2 (((((HF.out.set8 (.inl ga) _ _ _ _ _ _ _ _).set2 (.inl gb) _ _).alloc _).alloc _).drew)
  ·rw [if_neg (by simp)] at HGo
   go_wp2
   go_region
   go_wp2
   have ga : G2 w W w.heap.size := ⟨Nat.le_refl _, by have := HG.out; omega⟩
   have gb : G2 w W (w.heap.size + 1) := ⟨by omega, HG.out⟩
   have HF : Hid (Kp (G2 w W) w2 w2) := Kp.refl _ _
   have hR := HRest.out
   rw [HGo.out] at hR
   refine bodyPost_ret (v := .tuple #[leafV 0 zeroD, fV (1, lev)]) (by simp [results, Tryz.results103, go_sem, hz1, hz2, r0, r1, r2, r3, r4, r5, r6, r7, q0, q1, leafV, fV, zeroD]) rfl ?_
   exact from_fin HK.out HB0.out HKW2.out HKP2.out (by rw [hR.1, hR.2.1]) (by rw [hR.2.2.1]) hR.2.2.2 (((((HF.out.set8 (.inl ga) _ _ _ _ _ _ _ _).set2 (.inl gb) _ _).alloc _).alloc _).drew)
theorem wfrom_any {ok F : Nat → Prop} {p m sz : Nat} {rd : Nat → Nat} {w : World} (hm : MemAt w ok m sz rd) (hk : WkAt F p m [] w) (hdis : ∀ k, ok k → ¬ WkF F p k) (hsz : sz < 9223372036854775808) (level table va : Nat) (hl : level ≤ 3) (ht : table < 281474976710656) (hal : table % 4096 = 0) :
  Calls Tryz.prog 103 #[.pointer (some ⟨p, 0, none⟩), .int .i64 level, .int .u64 table, .int .u64 va] w (FromPost F p m (fromP sz rd level table va) w) := by
 unfold fromP
 by_cases hv : va < 281474976710656
 ·rw [if_pos hv]; exact wfrom_low hm hk hdis hsz level table va hl ht hal hv
 ·rw [if_neg hv]; exact wfrom_high hk level table va hl ht hal (by omega)
theorem WkAt.new (w : World) (m : Nat) : WkAt (fun _ => False) w.heap.size m [] (w.alloc (.cells #[.pointer (some ⟨m, 0, none⟩), .slice none 0 0] 195)) :=
 ⟨fun x => x, fun _ x => x.elim, by simp, by simp, .slice none 0 0, by simp, RowAt.nil _ _ _⟩
theorem Kp.up {F : Nat → Prop} {w W w1 : World} (hb : Below w.heap.size w W) (hk : Kp F W w1) (hF : ∀ k, F k → w.heap.size ≤ k) : Kp (fun k => w.heap.size ≤ k) w w1 :=
 (Kp.ofBelow hb).trans hk (fun i h => .inl (hF i h))
def Tb (table : Nat) : Prop := table < 281474976710656 ∧ table % 4096 = 0
set_option maxHeartbeats 400000 in
theorem from_nat {ok : Nat → Prop} {m sz : Nat} {rd : Nat → Nat} {w : World} (hm : MemAt w ok m sz rd) (hok : ∀ k, ok k → k < w.heap.size) (hsz : sz < 9223372036854775808) (level table va : Nat) (hl : level ≤ 3) (ht : Tb table) :
  Calls Tryz.prog 59 #[.pointer (some ⟨m, 0, none⟩), .int .i64 level, .int .u64 table, .int .u64 va] w fun e w' =>
   e = .returned (.tuple #[leafV (fromP sz rd level table va).level (fromP sz rd level table va).d, fV (fromP sz rd level table va).f]) ∧ Below w.heap.size w w' := by
 have HM := Lib.hid hm
 have HO := Lib.hid hok
 have HA := Lib.hid ht
 clear hm hok ht
 generalize hR : fromP sz rd level table va = R
 obtain ⟨Rl, ⟨K, out, b1, b2, b3, b4, attr⟩, ⟨f1, f2⟩, Rs⟩ := R
 have HRR := Lib.hid hR
 clear hR
 go_enter Tryz.func59, Tryz.ntmps59
 go_wp2_with fail
 have HW1 : Hid (WkAt (fun _ => False) (w.heap.size + 1 + 1) m [] (World.alloc (World.alloc (World.alloc w (.cells z8.toArray 62)) (.cells z2.toArray 43)) (.cells #[.pointer (some ⟨m, 0, none⟩), .slice none 0 0] 195))) := by
  have h := WkAt.new (World.alloc (World.alloc w (.cells z8.toArray 62)) (.cells z2.toArray 43)) m
  rw [World.size_alloc, World.size_alloc] at h
  exact h
 have HR8' : Hid (Box (World.alloc (World.alloc (World.alloc w (.cells z8.toArray 62)) (.cells z2.toArray 43)) (.cells #[.pointer (some ⟨m, 0, none⟩), .slice none 0 0] 195)) w.heap.size z8) := ((Box.new w z8 62).below (below1 _ _)).below (below1 _ _)
 have HQ2' : Hid (Box (World.alloc (World.alloc (World.alloc w (.cells z8.toArray 62)) (.cells z2.toArray 43)) (.cells #[.pointer (some ⟨m, 0, none⟩), .slice none 0 0] 195)) (w.heap.size + 1) z2) := by
  have h := Box.new (w.alloc (.cells z8.toArray 62)) z2 43
  rw [World.size_alloc] at h
  exact h.below (below1 _ _)
 have HB0' : Hid (Below w.heap.size w (World.alloc (World.alloc (World.alloc w (.cells z8.toArray 62)) (.cells z2.toArray 43)) (.cells #[.pointer (some ⟨m, 0, none⟩), .slice none 0 0] 195))) := ((below1 w _).alloc (by simp) _).alloc (by simp; omega) _
 generalize hW : World.alloc (World.alloc (World.alloc _ _) _) _ = W
 have hW' : World.alloc (World.alloc (World.alloc w (.cells z8.toArray 62)) (.cells z2.toArray 43)) (.cells #[.pointer (some ⟨m, 0, none⟩), .slice none 0 0] 195) = W := hW
 rw [hW'] at HW1 HR8' HQ2' HB0'
 have HR8 := HR8'
 have HQ2 := HQ2'
 have HB0 := HB0'
 clear hW hW' HR8' HQ2' HB0'
 have hc := (wfrom_any (HM.out.below HB0.out) HW1.out (by intro k hk h; have := HO.out k hk; rcases h with h | h; omega; exact h) hsz level table va hl HA.out.1 HA.out.2)
 rw [HRR.out] at hc
 refine hc.mono ?_
 rintro e w1 ⟨rfl, hk1, hkp1⟩
 have R8 := HR8.out.kept hkp1 (by intro h; rcases h with h | h; omega; exact h)
 have Q2 := HQ2.out.kept hkp1 (by intro h; rcases h with h | h; omega; exact h)
 have r0 := R8.at 0 _ rfl
 have r1 := R8.at 1 _ rfl
 have r2 := R8.at 2 _ rfl
 have r3 := R8.at 3 _ rfl
 have r4 := R8.at 4 _ rfl
 have r5 := R8.at 5 _ rfl
 have r6 := R8.at 6 _ rfl
 have r7 := R8.at 7 _ rfl
 have fr := R8.2.1
 have q0 := Q2.at 0 _ rfl
 have q1 := Q2.at 1 _ rfl
 have fq := Q2.2.1
 have hz1 : w.heap.size < w1.heap.size := R8.2.2
 have hz2 : w.heap.size + 1 < w1.heap.size := Q2.2.2
 have HK1 := Lib.hid hkp1
 clear hk1 hkp1 R8 Q2
 dsimp only [leafV, fV]
 go_wp2
 refine bodyPost_ret (v := .tuple #[leafV Rl ⟨K, out, b1, b2, b3, b4, attr⟩, fV (f1, f2)]) (by simp [results, Tryz.results59, go_sem, hz1, hz2, r0, r1, r2, r3, r4, r5, r6, r7, q0, q1, leafV, fV]) rfl ⟨rfl, ?_⟩
 have HF := Kp.up HB0.out HK1.out (by intro k h; rcases h with h | h; omega; exact h.elim)
 exact ((HF.set8 (.inl (Nat.le_refl _)) _ _ _ _ _ _ _ _).set2 (.inl (by omega)) _ _).below' (fun _ h => h)
set_option maxHeartbeats 400000 in
theorem walk_nat {ok : Nat → Prop} {m sz : Nat} {rd : Nat → Nat} {w : World} (hm : MemAt w ok m sz rd) (hok : ∀ k, ok k → k < w.heap.size) (hsz : sz < 9223372036854775808) (table va : Nat) (ht : Tb table) :
  Calls Tryz.prog 18 #[.pointer (some ⟨m, 0, none⟩), .int .u64 table, .int .u64 va] w fun e w' =>
   e = .returned (.tuple #[leafV (fromP sz rd 0 table va).level (fromP sz rd 0 table va).d, fV (fromP sz rd 0 table va).f]) ∧ Below w.heap.size w w' := by
 have HM := Lib.hid hm
 have HO := Lib.hid hok
 clear hm hok
 generalize hR : fromP sz rd 0 table va = R
 obtain ⟨Rl, ⟨K, out, b1, b2, b3, b4, attr⟩, ⟨f1, f2⟩, Rs⟩ := R
 have HRR := Lib.hid hR
 clear hR
 go_enter Tryz.func18, Tryz.ntmps18
 go_wp2_with fail
 generalize hW : World.alloc (World.alloc _ _) _ = W
 have HR8 : Hid (Box W w.heap.size z8) := by rw [← hW]; exact (Box.new w z8 62).below (below1 _ _)
 have HQ2 : Hid (Box W (w.heap.size + 1) z2) := by
  rw [← hW]
  have h := Box.new (w.alloc (.cells z8.toArray 62)) z2 43
  rw [World.size_alloc] at h
  exact h
 have HB0 : Hid (Below w.heap.size w W) := by rw [← hW]; exact (below1 w _).alloc (by simp) _
 clear hW
 have hc := (from_nat (HM.out.below HB0.out) (by intro k hk; have := HO.out k hk; have := HB0.out.size; omega) hsz 0 table va (by omega) ht)
 rw [HRR.out] at hc
 refine hc.mono ?_
 rintro e w1 ⟨rfl, hb1⟩
 have R8 := HR8.out.below hb1
 have Q2 := HQ2.out.below hb1
 have r0 := R8.at 0 _ rfl
 have r1 := R8.at 1 _ rfl
 have r2 := R8.at 2 _ rfl
 have r3 := R8.at 3 _ rfl
 have r4 := R8.at 4 _ rfl
 have r5 := R8.at 5 _ rfl
 have r6 := R8.at 6 _ rfl
 have r7 := R8.at 7 _ rfl
 have fr := R8.2.1
 have q0 := Q2.at 0 _ rfl
 have q1 := Q2.at 1 _ rfl
 have fq := Q2.2.1
 have hz1 : w.heap.size < w1.heap.size := R8.2.2
 have hz2 : w.heap.size + 1 < w1.heap.size := Q2.2.2
 have HK1 := Lib.hid hb1
 clear hb1 R8 Q2
 dsimp only [leafV, fV]
 go_wp2
 refine bodyPost_ret (v := .tuple #[leafV Rl ⟨K, out, b1, b2, b3, b4, attr⟩, fV (f1, f2)]) (by simp [results, Tryz.results18, go_sem, hz1, hz2, r0, r1, r2, r3, r4, r5, r6, r7, q0, q1, leafV, fV]) rfl ⟨rfl, ?_⟩
 have HF := Kp.up (F := fun _ => False) HB0.out (.ofBelow HK1.out) (by intro k h; exact h.elim)
 exact ((HF.set8 (.inl (Nat.le_refl _)) _ _ _ _ _ _ _ _).set2 (.inl (by omega)) _ _).below' (fun _ h => h)
def TracePost (st : List (Nat × Nat)) (w : World) (e : Ending) (w' : World) : Prop :=
 ∃ A c, e = .returned (.slice A st.length c) ∧ RowAt w' (fun k => w.heap.size ≤ k) 2 (.slice A st.length c) st.length (stepCells st) ∧ Below w.heap.size w w'
theorem trace_nat {ok : Nat → Prop} {m sz : Nat} {rd : Nat → Nat} {w : World} (hm : MemAt w ok m sz rd) (hok : ∀ k, ok k → k < w.heap.size) (hsz : sz < 9223372036854775808) (level table va : Nat) (hl : level ≤ 3) (ht : Tb table) :
  Calls Tryz.prog 101 #[.pointer (some ⟨m, 0, none⟩), .int .i64 level, .int .u64 table, .int .u64 va] w (TracePost (fromP sz rd level table va).steps w) := by
 have HM := Lib.hid hm
 have HO := Lib.hid hok
 have HA := Lib.hid ht
 have HW1 := Lib.hid (WkAt.new w m)
 have HB0 := Lib.hid (below1 w (.cells #[.pointer (some ⟨m, 0, none⟩), .slice none 0 0] 195))
 clear hm hok ht
 go_enter Tryz.func101, Tryz.ntmps101
 go_wp2_with fail
 refine (wfrom_any (HM.out.below HB0.out) HW1.out (by intro k hk h; have := HO.out k hk; rcases h with h | h; omega; exact h) hsz level table va hl HA.out.1 HA.out.2).mono ?_
 rintro e w1 ⟨rfl, hk1, hkp1⟩
 generalize fromP sz rd level table va = R at *
 obtain ⟨h0, h1, h2, h3, v, h4, h5⟩ := hk1
 obtain ⟨A, c, rfl⟩ := h5.form
 have HR := Lib.hid h5
 have HK1 := Lib.hid hkp1
 clear h0 h1 h2 h3 h5 hkp1
 go_wp2
 go_ret
 refine ⟨A, c, rfl, HR.out.mono ?_, (Kp.up HB0.out HK1.out (by intro k h; rcases h with h | h; omega; exact h.elim)).below' (fun _ h => h)⟩
 intro k _ h
 rcases h with h | h
 ·exact h.elim
 ·have := h.1; simp at this; omega
end Go.Proofs.YtbapgngngaaojaaGreat
namespace Go.Proofs.YtbapgngngaaojaaGreat
open Go.RowKit
section
variable {P : Program} {d : Nat} {xs ys : Array Value} {f : Field} {fs : List Field} {a b : Value} {r s : Bool} {w : World}
theorem eqf_last (hn : (f.name == "_") = false) (ha : (part f.type xs f.offset).run P w = .ok a w) (hb : (part f.type ys f.offset).run P w = .ok b w) (he : (Op.equalIn d f.type a b).run P w = .ok r w) : (Op.eqFields d xs ys [f]).run P w = .ok r w := by
 have hn' : f.name ≠ "_" := by simpa using hn
 simp only [Op.eqFields, if_pos hn', Sem.run_bind, ha, hb, he, Result.andThen_ok]
 cases r <;> simp
theorem eqf_cons (hn : (f.name == "_") = false) (ha : (part f.type xs f.offset).run P w = .ok a w) (hb : (part f.type ys f.offset).run P w = .ok b w) (he : (Op.equalIn d f.type a b).run P w = .ok r w) (hr : (Op.eqFields d xs ys fs).run P w = .ok s w) : (Op.eqFields d xs ys (f :: fs)).run P w = .ok (r && s) w := by
 have hn' : f.name ≠ "_" := by simpa using hn
 rw [Op.eqFields]
 simp only [if_pos hn', Sem.run_bind, ha, hb, he, Result.andThen_ok]
 cases r
 ·simp
 ·simpa using hr
theorem eqA_of {t : TypeId} {fs : Array Field} (hu : P.underlying t = some (.struct fs)) (hp : P.stoodInHeld t = false) (h : (Op.eqFields d xs ys fs.toList).run P w = .ok r w) : (Op.equalIn (d + 1) t (.agg xs) (.agg ys)).run P w = .ok r w := by
 have hf : P.fieldsOf t = fs := by simp [Program.fieldsOf, hu]
 rw [run_equalIn_struct (P := P) w d t xs ys (by rw [hf]; exact hu) hp, hf]
 exact h
end
theorem eqA_Desc (d : Nat) (w : World) (x0 y0 : Int) (x1 y1 : Int) (x2 y2 : Bool) (x3 y3 : Bool) (x4 y4 : Bool) (x5 y5 : Bool) (x6 y6 : Int) :
  (Op.equalIn (d + 2) 60 (.agg #[.int .i64 x0, .int .u64 x1, .bool x2, .bool x3, .bool x4, .bool x5, .int .i64 x6]) (.agg #[.int .i64 y0, .int .u64 y1, .bool y2, .bool y3, .bool y4, .bool y5, .int .i64 y6])).run Tryz.prog w = .ok (x0 == y0 && (x1 == y1 && (x2 == y2 && (x3 == y3 && (x4 == y4 && (x5 == y5 && (x6 == y6))))))) w := by
 refine eqA_of Tryz.underlying60 (by kernel_rfl) ?_
 refine eqf_cons (by rfl) (by go_simp; rfl) (by go_simp; rfl) (by go_simp) ?_
 refine eqf_cons (by rfl) (by go_simp; rfl) (by go_simp; rfl) (by go_simp) ?_
 refine eqf_cons (by rfl) (by go_simp; rfl) (by go_simp; rfl) (by go_simp) ?_
 refine eqf_cons (by rfl) (by go_simp; rfl) (by go_simp; rfl) (by go_simp) ?_
 refine eqf_cons (by rfl) (by go_simp; rfl) (by go_simp; rfl) (by go_simp) ?_
 refine eqf_cons (by rfl) (by go_simp; rfl) (by go_simp; rfl) (by go_simp) ?_
 exact eqf_last (by rfl) (by go_simp; rfl) (by go_simp; rfl) (by go_simp)
theorem eqA_Entry (d : Nat) (w : World) (x0 y0 : Int) (x1 y1 : Int) (x2 y2 : Int) (x3 y3 : Int) (x4 y4 : Int) (x5 y5 : Bool) (x6 y6 : Bool) (x7 y7 : Bool) (x8 y8 : Bool) (x9 y9 : Int) :
  (Op.equalIn (d + 4) 119 (.agg #[.int .i64 x0, .int .u64 x1, .int .i64 x2, .int .i64 x3, .int .u64 x4, .bool x5, .bool x6, .bool x7, .bool x8, .int .i64 x9]) (.agg #[.int .i64 y0, .int .u64 y1, .int .i64 y2, .int .i64 y3, .int .u64 y4, .bool y5, .bool y6, .bool y7, .bool y8, .int .i64 y9])).run Tryz.prog w = .ok (x0 == y0 && (x1 == y1 && (x2 == y2 && ((x3 == y3 && (x4 == y4 && (x5 == y5 && (x6 == y6 && (x7 == y7 && (x8 == y8 && (x9 == y9))))))))))) w := by
 refine eqA_of Tryz.underlying119 (by kernel_rfl) ?_
 refine eqf_cons (by rfl) (by go_simp; rfl) (by go_simp; rfl) (by go_simp) ?_
 refine eqf_cons (by rfl) (by go_simp; rfl) (by go_simp; rfl) (by go_simp) ?_
 refine eqf_cons (by rfl) (by go_simp; rfl) (by go_simp; rfl) (by go_simp) ?_
 exact eqf_last (by rfl) (by go_simp) (by go_simp) (eqA_Desc (d + 1) w _ _ _ _ _ _ _ _ _ _ _ _ _ _)
theorem eqA_Mark (d : Nat) (w : World) (x0 y0 : Int) (x1 y1 : Int) (x2 y2 : Int) (x3 y3 : Int) :
  (Op.equalIn (d + 2) 121 (.agg #[.int .i64 x0, .int .u64 x1, .int .i64 x2, .int .u64 x3]) (.agg #[.int .i64 y0, .int .u64 y1, .int .i64 y2, .int .u64 y3])).run Tryz.prog w = .ok (x0 == y0 && (x1 == y1 && (x2 == y2 && (x3 == y3)))) w := by
 refine eqA_of Tryz.underlying121 (by kernel_rfl) ?_
 refine eqf_cons (by rfl) (by go_simp; rfl) (by go_simp; rfl) (by go_simp) ?_
 refine eqf_cons (by rfl) (by go_simp; rfl) (by go_simp; rfl) (by go_simp) ?_
 refine eqf_cons (by rfl) (by go_simp; rfl) (by go_simp; rfl) (by go_simp) ?_
 exact eqf_last (by rfl) (by go_simp; rfl) (by go_simp; rfl) (by go_simp)
theorem eqA_RD (d : Nat) (w : World) (x0 y0 : Int) (x1 y1 : Int) (x2 y2 : Bool) (x3 y3 : Bool) (x4 y4 : Bool) (x5 y5 : Bool) (x6 y6 : Int) :
  (Op.equalIn (d + 2) 99 (.agg #[.int .i64 x0, .int .u64 x1, .bool x2, .bool x3, .bool x4, .bool x5, .int .i64 x6]) (.agg #[.int .i64 y0, .int .u64 y1, .bool y2, .bool y3, .bool y4, .bool y5, .int .i64 y6])).run Tryz.prog w = .ok (x0 == y0 && (x1 == y1 && (x2 == y2 && (x3 == y3 && (x4 == y4 && (x5 == y5 && (x6 == y6))))))) w := by
 refine eqA_of Tryz.underlying99 (by kernel_rfl) ?_
 refine eqf_cons (by rfl) (by go_simp; rfl) (by go_simp; rfl) (by go_simp) ?_
 refine eqf_cons (by rfl) (by go_simp; rfl) (by go_simp; rfl) (by go_simp) ?_
 refine eqf_cons (by rfl) (by go_simp; rfl) (by go_simp; rfl) (by go_simp) ?_
 refine eqf_cons (by rfl) (by go_simp; rfl) (by go_simp; rfl) (by go_simp) ?_
 refine eqf_cons (by rfl) (by go_simp; rfl) (by go_simp; rfl) (by go_simp) ?_
 refine eqf_cons (by rfl) (by go_simp; rfl) (by go_simp; rfl) (by go_simp) ?_
 exact eqf_last (by rfl) (by go_simp; rfl) (by go_simp; rfl) (by go_simp)
theorem eqA_RE (d : Nat) (w : World) (x0 y0 : Int) (x1 y1 : Int) (x2 y2 : Int) (x3 y3 : Int) (x4 y4 : Int) (x5 y5 : Bool) (x6 y6 : Bool) (x7 y7 : Bool) (x8 y8 : Bool) (x9 y9 : Int) :
  (Op.equalIn (d + 4) 101 (.agg #[.int .i64 x0, .int .u64 x1, .int .i64 x2, .int .i64 x3, .int .u64 x4, .bool x5, .bool x6, .bool x7, .bool x8, .int .i64 x9]) (.agg #[.int .i64 y0, .int .u64 y1, .int .i64 y2, .int .i64 y3, .int .u64 y4, .bool y5, .bool y6, .bool y7, .bool y8, .int .i64 y9])).run Tryz.prog w = .ok (x0 == y0 && (x1 == y1 && (x2 == y2 && ((x3 == y3 && (x4 == y4 && (x5 == y5 && (x6 == y6 && (x7 == y7 && (x8 == y8 && (x9 == y9))))))))))) w := by
 refine eqA_of Tryz.underlying101 (by kernel_rfl) ?_
 refine eqf_cons (by rfl) (by go_simp; rfl) (by go_simp; rfl) (by go_simp) ?_
 refine eqf_cons (by rfl) (by go_simp; rfl) (by go_simp; rfl) (by go_simp) ?_
 refine eqf_cons (by rfl) (by go_simp; rfl) (by go_simp; rfl) (by go_simp) ?_
 exact eqf_last (by rfl) (by go_simp) (by go_simp) (eqA_RD (d + 1) w _ _ _ _ _ _ _ _ _ _ _ _ _ _)
theorem eqA_RK (d : Nat) (w : World) (x0 y0 : Int) (x1 y1 : Int) (x2 y2 : Int) (x3 y3 : Int) :
  (Op.equalIn (d + 2) 122 (.agg #[.int .i64 x0, .int .u64 x1, .int .i64 x2, .int .u64 x3]) (.agg #[.int .i64 y0, .int .u64 y1, .int .i64 y2, .int .u64 y3])).run Tryz.prog w = .ok (x0 == y0 && (x1 == y1 && (x2 == y2 && (x3 == y3)))) w := by
 refine eqA_of Tryz.underlying122 (by kernel_rfl) ?_
 refine eqf_cons (by rfl) (by go_simp; rfl) (by go_simp; rfl) (by go_simp) ?_
 refine eqf_cons (by rfl) (by go_simp; rfl) (by go_simp; rfl) (by go_simp) ?_
 refine eqf_cons (by rfl) (by go_simp; rfl) (by go_simp; rfl) (by go_simp) ?_
 exact eqf_last (by rfl) (by go_simp; rfl) (by go_simp; rfl) (by go_simp)
theorem eqA_Leaf (d : Nat) (w : World) (x0 y0 : Int) (x1 y1 : Int) (x2 y2 : Int) (x3 y3 : Bool) (x4 y4 : Bool) (x5 y5 : Bool) (x6 y6 : Bool) (x7 y7 : Int) :
  (Op.equalIn (d + 4) 62 (.agg #[.int .i64 x0, .int .i64 x1, .int .u64 x2, .bool x3, .bool x4, .bool x5, .bool x6, .int .i64 x7]) (.agg #[.int .i64 y0, .int .i64 y1, .int .u64 y2, .bool y3, .bool y4, .bool y5, .bool y6, .int .i64 y7])).run Tryz.prog w = .ok (x0 == y0 && ((x1 == y1 && (x2 == y2 && (x3 == y3 && (x4 == y4 && (x5 == y5 && (x6 == y6 && (x7 == y7))))))))) w := by
 refine eqA_of Tryz.underlying62 (by kernel_rfl) ?_
 refine eqf_cons (by rfl) (by go_simp; rfl) (by go_simp; rfl) (by go_simp) ?_
 exact eqf_last (by rfl) (by go_simp) (by go_simp) (eqA_Desc (d + 1) w _ _ _ _ _ _ _ _ _ _ _ _ _ _)
end Go.Proofs.YtbapgngngaaojaaGreat
namespace Go.Proofs.YtbapgngngaaojaaGreat
open Go.RowKit Go.Lib
set_option maxRecDepth 100000
structure Ent where
 asid : Nat
 va : Nat
 level : Nat
 d : Dd
 deriving DecidableEq
structure Mk where
 asid : Nat
 va : Nat
 level : Nat
 table : Nat
 deriving DecidableEq
def eL (e : Ent) : List Value := [.int .i64 e.asid, .int .u64 e.va, .int .i64 e.level, .int .i64 e.d.kind, .int .u64 e.d.out, .bool e.d.user, .bool e.d.write, .bool e.d.exec, .bool e.d.used, .int .i64 e.d.attr]
def mL (k : Mk) : List Value := [.int .i64 k.asid, .int .u64 k.va, .int .i64 k.level, .int .u64 k.table]
def rowL {α : Type} (f : α → List Value) (l : List α) : List Value := l.flatMap f
theorem rowL_len {α : Type} (f : α → List Value) (n : Nat) (h : ∀ x, (f x).length = n) : ∀ l : List α, (rowL f l).length = l.length * n
 | [] => by simp [rowL]
 | x :: l => by
  have := rowL_len f n h l
  unfold rowL at *
  rw [List.flatMap_cons, List.length_append, this, h, List.length_cons, Nat.add_mul, Nat.one_mul, Nat.add_comm]
theorem rowL_at {α : Type} (f : α → List Value) (n : Nat) (h : ∀ x, (f x).length = n) : ∀ (l : List α) (i : Nat) (hi : i < l.length) (j : Nat), j < n → (rowL f l)[i * n + j]? = (f l[i])[j]?
 | [], i, hi, _, _ => absurd hi (by simp)
 | x :: l, 0, hi, j, hj => by
  unfold rowL
  rw [List.flatMap_cons, Nat.zero_mul, Nat.zero_add, List.getElem?_append_left (by rw [h]; exact hj)]
  rfl
 | x :: l, i + 1, hi, j, hj => by
  have := rowL_at f n h l i (by simpa using hi) j hj
  unfold rowL at *
  rw [List.flatMap_cons, List.getElem?_append_right (by rw [h, Nat.add_mul]; omega), h]
  rw [show (i + 1) * n + j - n = i * n + j by rw [Nat.add_mul]; omega, this]
  rfl
theorem rowL_append {α : Type} (f : α → List Value) (a b : List α) : rowL f (a ++ b) = rowL f a ++ rowL f b := by simp [rowL]
theorem rowL_one {α : Type} (f : α → List Value) (x : α) : rowL f [x] = f x := by simp [rowL]
theorem rowL_drop {α : Type} (f : α → List Value) (n : Nat) (h : ∀ x, (f x).length = n) : ∀ (l : List α) (k : Nat), (rowL f l).drop (k * n) = rowL f (l.drop k)
 | [], k => by simp [rowL]
 | x :: l, 0 => by simp
 | x :: l, k + 1 => by
  rw [List.drop_succ_cons, ← rowL_drop f n h l k]
  unfold rowL
  rw [List.flatMap_cons, List.drop_append, h, List.drop_eq_nil_of_le (by rw [h, Nat.add_mul]; omega), List.nil_append]
  congr 1
  rw [Nat.add_mul]; omega
theorem rowL_take {α : Type} (f : α → List Value) (n : Nat) (h : ∀ x, (f x).length = n) (l : List α) (k : Nat) : (rowL f l).take (k * n) = rowL f (l.take k) := by
 have e1 : rowL f l = rowL f (l.take k) ++ rowL f (l.drop k) := by rw [← rowL_append, List.take_append_drop]
 by_cases hk : k ≤ l.length
 ·rw [e1, List.take_append_of_le_length (by rw [rowL_len f n h, List.length_take, Nat.min_eq_left hk]; exact Nat.le_refl _), List.take_of_length_le (by rw [rowL_len f n h, List.length_take, Nat.min_eq_left hk]; exact Nat.le_refl _)]
 ·rw [List.take_of_length_le (by rw [rowL_len f n h]; exact Nat.mul_le_mul_right _ (by omega)), List.take_of_length_le (by omega)]
theorem eL_len (e : Ent) : (eL e).length = 10 := rfl
theorem mL_len (k : Mk) : (mL k).length = 4 := rfl
def eV (e : Ent) : Value := .agg #[.int .i64 e.asid, .int .u64 e.va, .int .i64 e.level, .int .i64 e.d.kind, .int .u64 e.d.out, .bool e.d.user, .bool e.d.write, .bool e.d.exec, .bool e.d.used, .int .i64 e.d.attr]
def mV (k : Mk) : Value := .agg #[.int .i64 k.asid, .int .u64 k.va, .int .i64 k.level, .int .u64 k.table]
/-- A row's element, cell by cell. -/
theorem row_at {α : Type} {f : α → List Value} {n : Nat} (h : ∀ x, (f x).length = n) {w : World} {g o : Nat} {l : List α} (hr : w.rangeAt g o (rowL f l)) (i : Nat) (hi : i < l.length) (j : Nat) (v : Value) (hj : (f l[i])[j]? = some v) : w.cell? ⟨g, o + i * n + j, none⟩ = some v := by
 have hlt := (List.getElem?_eq_some_iff.1 hj).1
 rw [h] at hlt
 have := hr (i * n + j) v (by rw [rowL_at f n h l i hi j hlt]; exact hj)
 rwa [← Nat.add_assoc] at this
theorem row_at0 {α : Type} {f : α → List Value} {n : Nat} (h : ∀ x, (f x).length = n) {w : World} {g o : Nat} {l : List α} (hr : w.rangeAt g o (rowL f l)) (i : Nat) (hi : i < l.length) (v : Value) (hj : (f l[i])[0]? = some v) : w.cell? ⟨g, o + i * n, none⟩ = some v := row_at h hr i hi 0 v hj
/-- How two entries are compared. -/
def eEq (a b : Ent) : Bool := decide (a = b)
theorem ent_eq (xa xv xl xk xo xt ya yv yl yk yo yt : Nat) (x1 x2 x3 x4 y1 y2 y3 y4 : Bool) : ((xa : Int) == (ya : Int) && ((xv : Int) == (yv : Int) && ((xl : Int) == (yl : Int) && (((xk : Int) == (yk : Int) && ((xo : Int) == (yo : Int) && (x1 == y1 && (x2 == y2 && (x3 == y3 && (x4 == y4 && ((xt : Int) == (yt : Int))))))))))))
  = decide ((⟨xa, xv, xl, ⟨xk, xo, x1, x2, x3, x4, xt⟩⟩ : Ent) = ⟨ya, yv, yl, ⟨yk, yo, y1, y2, y3, y4, yt⟩⟩) := by
 rw [Bool.eq_iff_iff]
 simp [Int.ofNat_inj]
theorem mk_eq (xa xv xl xt ya yv yl yt : Nat) : ((xa : Int) == (ya : Int) && ((xv : Int) == (yv : Int) && ((xl : Int) == (yl : Int) && ((xt : Int) == (yt : Int))))) = decide ((⟨xa, xv, xl, xt⟩ : Mk) = ⟨ya, yv, yl, yt⟩) := by
 rw [Bool.eq_iff_iff]
 simp [Int.ofNat_inj]
attribute [local go_sem high] eqA_Entry eqA_Mark
/-- What a search for an element leaves. -/
def IdxPost {α : Type} (l : List α) (x : α) (w : World) (e : Ending) (w' : World) : Prop := (∃ i : Nat, e = .returned (.int .i64 i) ∧ x ∈ l) ∧ Below w.heap.size w w' ∨ e = .returned (.int .i64 (-1)) ∧ x ∉ l ∧ Below w.heap.size w w'
set_option maxHeartbeats 400000 in
theorem eindex_nat (l : List Ent) (x : Ent) (g o cap : Nat) (w : World) (hn : l.length ≤ 1000) (h : w.rangeAt g o (rowL eL l)) :
  Calls Tryz.prog 154 #[.slice (some ⟨g, o, none⟩) l.length cap, eV x] w (IdxPost l x w) := by
 have HN := Lib.hid hn
 have H := Lib.hid h
 clear h hn
 obtain ⟨xa, xv, xl, ⟨xk, xo, x1, x2, x3, x4, xt⟩⟩ := x
 dsimp only [eV]
 go_enter Tryz.func154, Tryz.ntmps154
 go_wp2
 generalize hW : World.alloc _ _ = W
 have r0 : W.cell? ⟨w.heap.size, 0, none⟩ = some (.int .i64 xa) := by rw [← hW]; simp
 have r1 : W.cell? ⟨w.heap.size, 1, none⟩ = some (.int .u64 xv) := by rw [← hW]; simp
 have r2 : W.cell? ⟨w.heap.size, 2, none⟩ = some (.int .i64 xl) := by rw [← hW]; simp
 have r3 : W.cell? ⟨w.heap.size, 3, none⟩ = some (.int .i64 xk) := by rw [← hW]; simp
 have r4 : W.cell? ⟨w.heap.size, 4, none⟩ = some (.int .u64 xo) := by rw [← hW]; simp
 have r5 : W.cell? ⟨w.heap.size, 5, none⟩ = some (.bool x1) := by rw [← hW]; simp
 have r6 : W.cell? ⟨w.heap.size, 6, none⟩ = some (.bool x2) := by rw [← hW]; simp
 have r7 : W.cell? ⟨w.heap.size, 7, none⟩ = some (.bool x3) := by rw [← hW]; simp
 have r8 : W.cell? ⟨w.heap.size, 8, none⟩ = some (.bool x4) := by rw [← hW]; simp
 have r9 : W.cell? ⟨w.heap.size, 9, none⟩ = some (.int .i64 xt) := by rw [← hW]; simp
 have HB0 : Hid (Below w.heap.size w W) := by rw [← hW]; exact below1 w _
 clear hW
 have HRG : Hid (W.rangeAt g o (rowL eL l)) := (Kp.ofBelow (F := fun _ => False) HB0.out).range H.out (fun x => x)
 go_loopw [8] (fun iv wr => ∃ i n : Nat, iv = .int .i64 i ∧ i ≤ l.length ∧ wr = W.drewN n ∧ Hid (∀ j (hj : j < l.length), j < i → l[j] ≠ ⟨xa, xv, xl, ⟨xk, xo, x1, x2, x3, x4, xt⟩⟩)) (fun iv _ => l.length - (RowKit.intOf iv).toNat)
 case atStart => exact ⟨0, 0, rfl, by omega, rfl, fun j hj h => by omega⟩
 case round =>
  obtain ⟨i, nq, rfl, hi, rfl, HJ⟩ := hrel
  have hn2 : l.length ≤ 1000 := HN.out
  by_cases hlt : i < l.length
  ·have hrng := HRG.out
   have k0 := row_at0 eL_len hrng i hlt _ rfl
   have k1 := row_at eL_len hrng i hlt 1 _ rfl
   have k2 := row_at eL_len hrng i hlt 2 _ rfl
   have k3 := row_at eL_len hrng i hlt 3 _ rfl
   have k4 := row_at eL_len hrng i hlt 4 _ rfl
   have k5 := row_at eL_len hrng i hlt 5 _ rfl
   have k6 := row_at eL_len hrng i hlt 6 _ rfl
   have k7 := row_at eL_len hrng i hlt 7 _ rfl
   have k8 := row_at eL_len hrng i hlt 8 _ rfl
   have k9 := row_at eL_len hrng i hlt 9 _ rfl
   have HX : Hid (l[i] = l[i]) := rfl
   have HMEM : Hid (l[i] ∈ l) := List.getElem_mem hlt
   have HSTEP : Hid (∀ j (hj : j < l.length), j < i + 1 → j = i ∨ l[j] ≠ ⟨xa, xv, xl, ⟨xk, xo, x1, x2, x3, x4, xt⟩⟩) := fun j hj h => by
    by_cases e : j = i
    ·exact .inl e
    ·exact .inr (HJ.out j hj (by omega))
   generalize hx : l[i] = y at *
   obtain ⟨ya, yv, yl, ⟨yk, yo, y1, y2, y3, y4, yt⟩⟩ := y
   dsimp only at k0 k1 k2 k3 k4 k5 k6 k7 k8 k9
   have hB := ent_eq xa xv xl xk xo xt ya yv yl yk yo yt x1 x2 x3 x4 y1 y2 y3 y4
   by_cases hxy : (⟨xa, xv, xl, ⟨xk, xo, x1, x2, x3, x4, xt⟩⟩ : Ent) = ⟨ya, yv, yl, ⟨yk, yo, y1, y2, y3, y4, yt⟩⟩
   ·rw [decide_eq_true hxy] at hB
    have HXY := Lib.hid hxy
    clear hxy hx
    go_wp2
    go_quiet (fail)
    go_wp2
    go_ret
    exact .inl ⟨⟨i, rfl, HXY.out ▸ HMEM.out⟩, below_drewN (below_drewN HB0.out _) _⟩
   ·rw [decide_eq_false hxy] at hB
    have HXY := Lib.hid hxy
    have HX2 := Lib.hid hx
    clear hxy hx
    go_wp2
    go_quiet (fail)
    go_wp2
    go_roundw
    case rel => exact ⟨i + 1, _, by first | rfl | go_num, by omega, rfl, fun j hj h => by
     rcases HSTEP.out j hj h with e | e
     ·subst e; rw [HX2.out]; exact fun e => HXY.out e.symm
     ·exact e⟩
    case measure => simp [RowKit.intOf]; omega
  ·go_wp2
   go_ret
   refine .inr ⟨rfl, fun hm => ?_, below_drewN HB0.out _⟩
   obtain ⟨j, hj, e⟩ := List.getElem_of_mem hm
   exact HJ.out j hj (by omega) e
set_option maxHeartbeats 400000 in
theorem mindex_nat (l : List Mk) (x : Mk) (g o cap : Nat) (w : World) (hn : l.length ≤ 1000) (h : w.rangeAt g o (rowL mL l)) :
  Calls Tryz.prog 167 #[.slice (some ⟨g, o, none⟩) l.length cap, mV x] w (IdxPost l x w) := by
 have HN := Lib.hid hn
 have H := Lib.hid h
 clear h hn
 obtain ⟨xa, xv, xl, xt⟩ := x
 dsimp only [mV]
 go_enter Tryz.func167, Tryz.ntmps167
 go_wp2
 generalize hW : World.alloc _ _ = W
 have r0 : W.cell? ⟨w.heap.size, 0, none⟩ = some (.int .i64 xa) := by rw [← hW]; simp
 have r1 : W.cell? ⟨w.heap.size, 1, none⟩ = some (.int .u64 xv) := by rw [← hW]; simp
 have r2 : W.cell? ⟨w.heap.size, 2, none⟩ = some (.int .i64 xl) := by rw [← hW]; simp
 have r3 : W.cell? ⟨w.heap.size, 3, none⟩ = some (.int .u64 xt) := by rw [← hW]; simp
 have HB0 : Hid (Below w.heap.size w W) := by rw [← hW]; exact below1 w _
 clear hW
 have HRG : Hid (W.rangeAt g o (rowL mL l)) := (Kp.ofBelow (F := fun _ => False) HB0.out).range H.out (fun x => x)
 go_loopw [8] (fun iv wr => ∃ i n : Nat, iv = .int .i64 i ∧ i ≤ l.length ∧ wr = W.drewN n ∧ Hid (∀ j (hj : j < l.length), j < i → l[j] ≠ ⟨xa, xv, xl, xt⟩)) (fun iv _ => l.length - (RowKit.intOf iv).toNat)
 case atStart => exact ⟨0, 0, rfl, by omega, rfl, fun j hj h => by omega⟩
 case round =>
  obtain ⟨i, nq, rfl, hi, rfl, HJ⟩ := hrel
  have hn2 : l.length ≤ 1000 := HN.out
  by_cases hlt : i < l.length
  ·have hrng := HRG.out
   have k0 := row_at0 mL_len hrng i hlt _ rfl
   have k1 := row_at mL_len hrng i hlt 1 _ rfl
   have k2 := row_at mL_len hrng i hlt 2 _ rfl
   have k3 := row_at mL_len hrng i hlt 3 _ rfl
   have HX : Hid (l[i] = l[i]) := rfl
   have HMEM : Hid (l[i] ∈ l) := List.getElem_mem hlt
   have HSTEP : Hid (∀ j (hj : j < l.length), j < i + 1 → j = i ∨ l[j] ≠ ⟨xa, xv, xl, xt⟩) := fun j hj h => by
    by_cases e : j = i
    ·exact .inl e
    ·exact .inr (HJ.out j hj (by omega))
   generalize hx : l[i] = y at *
   obtain ⟨ya, yv, yl, yt⟩ := y
   dsimp only at k0 k1 k2 k3
   have hB := mk_eq xa xv xl xt ya yv yl yt
   by_cases hxy : (⟨xa, xv, xl, xt⟩ : Mk) = ⟨ya, yv, yl, yt⟩
   ·rw [decide_eq_true hxy] at hB
    have HXY := Lib.hid hxy
    clear hxy hx
    go_wp2
    go_quiet (fail)
    go_wp2
    go_ret
    exact .inl ⟨⟨i, rfl, HXY.out ▸ HMEM.out⟩, below_drewN (below_drewN HB0.out _) _⟩
   ·rw [decide_eq_false hxy] at hB
    have HXY := Lib.hid hxy
    have HX2 := Lib.hid hx
    clear hxy hx
    go_wp2
    go_quiet (fail)
    go_wp2
    go_roundw
    case rel => exact ⟨i + 1, _, by first | rfl | go_num, by omega, rfl, fun j hj h => by
     rcases HSTEP.out j hj h with e | e
     ·subst e; rw [HX2.out]; exact fun e => HXY.out e.symm
     ·exact e⟩
    case measure => simp [RowKit.intOf]; omega
  ·go_wp2
   go_ret
   refine .inr ⟨rfl, fun hm => ?_, below_drewN HB0.out _⟩
   obtain ⟨j, hj, e⟩ := List.getElem_of_mem hm
   exact HJ.out j hj (by omega) e
theorem eindex_nil (x : Ent) (w : World) : Calls Tryz.prog 154 #[.slice none 0 0, eV x] w (IdxPost [] x w) := by
 obtain ⟨xa, xv, xl, ⟨xk, xo, x1, x2, x3, x4, xt⟩⟩ := x
 dsimp only [eV]
 go_enter Tryz.func154, Tryz.ntmps154
 go_wp2
 refine wp_loop_rounds 1 ?_
 rw [rounds_succ]
 go_wp2
 go_ret
 exact .inr ⟨rfl, by simp, below1 _ _⟩
theorem econtains_nat {ok : Nat → Prop} {v : Value} (l : List Ent) (x : Ent) (w : World) (hn : l.length ≤ 1000) (h : RowAt w ok 10 v l.length (rowL eL l)) :
  Calls Tryz.prog 139 #[v, eV x] w fun e w' => e = .returned (.bool (decide (x ∈ l))) ∧ Below w.heap.size w w' := by
 have C1 : Hid (∀ w', Below w.heap.size w w' → Calls Tryz.prog 154 #[v, eV x] w' (IdxPost l x w')) := fun w' hb => by
  rcases (h.below hb).2 with ⟨rfl, h0⟩ | ⟨g, o, cap, rfl, _, _, _, _, h1, _⟩
  ·obtain rfl : l = [] := List.eq_nil_of_length_eq_zero h0
   exact eindex_nil x w'
  ·exact eindex_nat l x g o cap w' hn h1
 clear hn h
 obtain ⟨xa, xv, xl, ⟨xk, xo, x1, x2, x3, x4, xt⟩⟩ := x
 dsimp only [eV] at C1 ⊢
 go_enter Tryz.func139, Tryz.ntmps139
 go_wp2_with fail
 refine (C1.out _ (below1 _ _)).mono ?_
 rintro e w1 (⟨⟨i, rfl, hm⟩, hb⟩ | ⟨rfl, hm, hb⟩)
 ·have hd : Hid (decide (⟨xa, xv, xl, ⟨xk, xo, x1, x2, x3, x4, xt⟩⟩ ∈ l) = true) := decide_eq_true hm
  have HB := Lib.hid ((below1 w _).trans (hb.mono (below1 w _).size))
  have h0 : (0 : Int) ≤ (i : Int) := by omega
  clear hm hb
  go_wp2
  go_ret
  exact ⟨by rw [hd.out]; rfl, HB.out⟩
 ·have hd : Hid (decide (⟨xa, xv, xl, ⟨xk, xo, x1, x2, x3, x4, xt⟩⟩ ∈ l) = false) := decide_eq_false hm
  have HB := Lib.hid ((below1 w _).trans (hb.mono (below1 w _).size))
  clear hm hb
  go_wp2
  go_ret
  exact ⟨by rw [hd.out]; rfl, HB.out⟩
theorem mindex_nil (x : Mk) (w : World) : Calls Tryz.prog 167 #[.slice none 0 0, mV x] w (IdxPost [] x w) := by
 obtain ⟨xa, xv, xl, xt⟩ := x
 dsimp only [mV]
 go_enter Tryz.func167, Tryz.ntmps167
 go_wp2
 refine wp_loop_rounds 1 ?_
 rw [rounds_succ]
 go_wp2
 go_ret
 exact .inr ⟨rfl, by simp, below1 _ _⟩
theorem mcontains_nat {ok : Nat → Prop} {v : Value} (l : List Mk) (x : Mk) (w : World) (hn : l.length ≤ 1000) (h : RowAt w ok 4 v l.length (rowL mL l)) :
  Calls Tryz.prog 153 #[v, mV x] w fun e w' => e = .returned (.bool (decide (x ∈ l))) ∧ Below w.heap.size w w' := by
 have C1 : Hid (∀ w', Below w.heap.size w w' → Calls Tryz.prog 167 #[v, mV x] w' (IdxPost l x w')) := fun w' hb => by
  rcases (h.below hb).2 with ⟨rfl, h0⟩ | ⟨g, o, cap, rfl, _, _, _, _, h1, _⟩
  ·obtain rfl : l = [] := List.eq_nil_of_length_eq_zero h0
   exact mindex_nil x w'
  ·exact mindex_nat l x g o cap w' hn h1
 clear hn h
 obtain ⟨xa, xv, xl, xt⟩ := x
 dsimp only [mV] at C1 ⊢
 go_enter Tryz.func153, Tryz.ntmps153
 go_wp2_with fail
 refine (C1.out _ (below1 _ _)).mono ?_
 rintro e w1 (⟨⟨i, rfl, hm⟩, hb⟩ | ⟨rfl, hm, hb⟩)
 ·have hd : Hid (decide (⟨xa, xv, xl, xt⟩ ∈ l) = true) := decide_eq_true hm
  have HB := Lib.hid ((below1 w _).trans (hb.mono (below1 w _).size))
  have h0 : (0 : Int) ≤ (i : Int) := by omega
  clear hm hb
  go_wp2
  go_ret
  exact ⟨by rw [hd.out]; rfl, HB.out⟩
 ·have hd : Hid (decide (⟨xa, xv, xl, xt⟩ ∈ l) = false) := decide_eq_false hm
  have HB := Lib.hid ((below1 w _).trans (hb.mono (below1 w _).size))
  clear hm hb
  go_wp2
  go_ret
  exact ⟨by rw [hd.out]; rfl, HB.out⟩
end Go.Proofs.YtbapgngngaaojaaGreat
namespace Go.Proofs.YtbapgngngaaojaaGreat
open Go.RowKit Go.Lib
set_option maxRecDepth 100000
/-- The words of the reference's memory, by rising addresses. -/
def wL (s : Nat × Nat) : List Value := [.int .u64 s.1, .int .u64 s.2]
theorem wL_len (s : Nat × Nat) : (wL s).length = 2 := rfl
theorem wL_one (s : Nat × Nat) : ∀ u ∈ wL s, u.oneCell' = true := by
 intro u hu
 simp only [wL, List.mem_cons, List.not_mem_nil, or_false] at hu
 rcases hu with rfl | rfl <;> rfl
def rdM (ws : List (Nat × Nat)) (at_ : Nat) : Nat := ((ws.find? (fun s => s.1 == at_)).map (·.2)).getD 0
def wrGo (at_ x : Nat) : Bool → List (Nat × Nat) → List (Nat × Nat)
 | true, [] => []
 | false, [] => if x = 0 then [] else [(at_, x)]
 | true, s :: r => (if s.1 = at_ then [] else [s]) ++ wrGo at_ x true r
 | false, s :: r => if at_ ≤ s.1 then (if x = 0 then [] else [(at_, x)]) ++ (if s.1 = at_ then [] else [s]) ++ wrGo at_ x true r else [s] ++ wrGo at_ x false r
def wrM (ws : List (Nat × Nat)) (at_ x : Nat) : List (Nat × Nat) := wrGo at_ x false ws
theorem infoW : (Tryz.prog.info? 123).map (fun i => (i.zero, i.size, i.bytes)) = some (some (.agg #[.int .u64 0, .int .u64 0]), 2, 16) := by kernel_rfl
theorem rmay_nat (sz at_ : Nat) (v : Value) (w : World) (ha : at_ < 18446744073709551616) :
  Calls Tryz.prog 74 #[.agg #[.int .u64 sz, v], .int .u64 at_] w fun e w' => e = .returned (.int .i64 (mayP sz at_)) ∧ Below w.heap.size w w' := by
 obtain ⟨R, hR⟩ : ∃ R, mayP sz at_ = R := ⟨_, rfl⟩
 rw [hR]
 unfold mayP at hR
 by_cases h8 : at_ % 8 = 0
 ·rw [if_pos h8] at hR
  have d8 : ((at_ : Int) % 8 != 0) = false := by simp; omega
  by_cases hs : sz ≤ at_
  ·rw [if_pos hs] at hR
   have HR := Lib.hid hR
   have d : decide ((sz : Int) ≤ (at_ : Int)) = true := by simp; omega
   have d' : decide (sz ≤ at_) = true := by simp; omega
   clear hR h8 hs
   go_enter Tryz.func74, Tryz.ntmps74
   go_wp2
   go_ret
   exact ⟨by rw [← HR.out]; rfl, below1 _ _⟩
  ·rw [if_neg hs] at hR
   have HR := Lib.hid hR
   have d : decide ((sz : Int) ≤ (at_ : Int)) = false := by simp; omega
   have d' : decide (sz ≤ at_) = false := by simp; omega
   clear hR h8 hs
   go_enter Tryz.func74, Tryz.ntmps74
   go_wp2
   go_ret
   exact ⟨by rw [← HR.out]; rfl, below1 _ _⟩
 ·rw [if_neg h8] at hR
  have HR := Lib.hid hR
  have d8 : ((at_ : Int) % 8 != 0) = true := by simp; omega
  clear hR h8
  go_enter Tryz.func74, Tryz.ntmps74
  go_wp2
  go_ret
  exact ⟨by rw [← HR.out]; rfl, below1 _ _⟩
end Go.Proofs.YtbapgngngaaojaaGreat
namespace Go.Proofs.YtbapgngngaaojaaGreat
open Go.RowKit Go.Lib
set_option maxRecDepth 100000
theorem rdM_cons (s : Nat × Nat) (r : List (Nat × Nat)) (a : Nat) : rdM (s :: r) a = if s.1 = a then s.2 else rdM r a := by
 unfold rdM
 rw [List.find?_cons]
 by_cases h : s.1 = a
 ·simp [h]
 ·have h2 : (s.1 == a) = false := by simp [h]
  rw [h2, if_neg h]
theorem rdM_nil (a : Nat) : rdM [] a = 0 := rfl
theorem drop_cons' {α : Type} (l : List α) (i : Nat) (h : i < l.length) : l.drop i = l[i] :: l.drop (i + 1) := List.drop_eq_getElem_cons h
/-- A row's cells at hand, where there are any. -/
theorem RdRow.get {w : World} {A : Option Addr} {n m c : Nat} {cs : List Value} (h : RdRow w (.slice A n c) m cs) (hm : 0 < m) : ∃ g o, A = some ⟨g, o, none⟩ ∧ w.rangeAt g o cs := by
 obtain ⟨A', c', e, h⟩ := h
 injection e with e1 e2 e3
 subst e1
 exact h hm
set_option maxHeartbeats 1000000 in
theorem rread_nat (sz at_ : Nat) (ws : List (Nat × Nat)) (A : Option Addr) (c : Nat) (w : World) (ha : at_ < 18446744073709551616) (hn : ws.length ≤ 1000000) (h : RdRow w (.slice A ws.length c) ws.length (rowL wL ws)) :
  Calls Tryz.prog 38 #[.agg #[.int .u64 sz, .slice A ws.length c], .int .u64 at_] w fun e w' => e = .returned (.tuple #[.int .u64 ((if mayP sz at_ = 0 then rdM ws at_ else 0 : Nat) : Int), .int .i64 (mayP sz at_)]) ∧ Below w.heap.size w w' := by
 have C1 := Lib.hid (fun v w => rmay_nat sz at_ v w ha)
 generalize mayP sz at_ = M at *
 obtain ⟨R, hR⟩ : ∃ R, (if M = 0 then rdM ws at_ else 0) = R := ⟨_, rfl⟩
 rw [hR]
 have H := Lib.hid h
 have HN := Lib.hid hn
 clear h hn ha
 go_enter Tryz.func38, Tryz.ntmps38
 go_wp2_with fail
 generalize hW : World.alloc w _ = W
 have HB0 : Hid (Below w.heap.size w W) := by rw [← hW]; exact below1 w _
 have HX : Hid (Box W w.heap.size [.int .u64 sz, .slice A ws.length c]) := by rw [← hW]; exact Box.new w [.int .u64 sz, .slice A ws.length c] 31
 clear hW
 refine (C1.out _ _).mono ?_
 rintro e w1 ⟨rfl, hb1⟩
 have HB1 : Hid (Below w.heap.size w w1) := HB0.out.trans (hb1.mono HB0.out.size)
 have HX1 : Hid (Box w1 w.heap.size [.int .u64 sz, .slice A ws.length c]) := HX.out.below hb1
 have k1 := HX1.out.at 1 _ rfl
 clear hb1 HB0 HX C1
 by_cases hM : M = 0
 ·rw [if_pos hM] at hR
  have HR := Lib.hid hR
  have HE : Hid ((0 : Int) = (M : Int)) := by rw [Hid]; omega
  have d0 : ((M : Int) != 0) = false := by simp; omega
  clear hR hM
  go_wp2
  go_loop [7] (fun iv => ∃ i : Nat, iv = .int .i64 i ∧ i ≤ ws.length ∧ Hid (rdM (ws.drop i) at_ = R)) (fun iv => ws.length - (RowKit.intOf iv).toNat)
  case atStart => exact ⟨0, rfl, by omega, HR⟩
  case round =>
   obtain ⟨i, rfl, hi, HS⟩ := hrel
   have hn2 : ws.length ≤ 1000000 := HN.out
   by_cases hlt : i < ws.length
   ·have hs := HS.out
    rw [drop_cons' ws i hlt, rdM_cons] at hs
    obtain ⟨g, o, rfl, hr⟩ := H.out.get (by omega)
    have hrng : w1.rangeAt g o (rowL wL ws) := fun j v hj => keep_cell HB1.out (hr j v hj)
    have j0 := row_at0 wL_len hrng i hlt _ rfl
    have j1 := row_at wL_len hrng i hlt 1 _ rfl
    clear hrng hr
    generalize ws[i] = y at *
    obtain ⟨ya, yw⟩ := y
    dsimp only at j0 j1 hs
    by_cases hy : ya = at_
    ·rw [if_pos hy] at hs
     have HQ : Hid (yw = R) := hs
     have d1 : ((ya : Int) == (at_ : Int)) = true := by simp; omega
     clear hs hy
     go_wp2
     go_ret2
     exact ⟨by rw [← HE.out, HQ.out]; rfl, HB1.out⟩
    ·rw [if_neg hy] at hs
     have HQ := Lib.hid hs
     have d1 : ((ya : Int) == (at_ : Int)) = false := by simp; omega
     clear hs hy
     go_wp2
     go_round
     case rel => exact ⟨i + 1, by first | rfl | go_num, by omega, HQ⟩
     case measure => simp [RowKit.intOf]; omega
   ·have hs := HS.out
    rw [List.drop_eq_nil_of_le (by omega), rdM_nil] at hs
    have HQ := Lib.hid hs
    clear hs
    go_wp2
    go_ret2
    exact ⟨by rw [← HE.out, ← HQ.out]; rfl, HB1.out⟩
 ·rw [if_neg hM] at hR
  have HR := Lib.hid hR
  have d0 : ((M : Int) != 0) = true := by simp; omega
  clear hR hM
  go_wp2
  go_ret2
  exact ⟨by rw [← HR.out]; rfl, HB1.out⟩
end Go.Proofs.YtbapgngngaaojaaGreat
