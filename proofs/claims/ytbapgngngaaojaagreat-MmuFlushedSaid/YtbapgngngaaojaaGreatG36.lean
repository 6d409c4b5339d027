/- Plain: the document's flushes and drops are the machine's; what an ASID's flush leaves. The law's step: the flushes. The law's step: kind 7 of a negative ASID. A slice of steps opened: its rows. The walk of the ninth reference's Access, where the machine is off. The law's step with the empty machine of the document's: whatever it answers, the machine stays a machine. Plain: behind a flush of its ASID, a machine is sound and an access tells what a walk tells. -/
import Derived.Test.YtbapgngngaaojaaGreatG32
import Derived.Test.YtbapgngngaaojaaGreatG27
import Derived.Test.YtbapgngngaaojaaGreatG30
import Derived.Test.YtbapgngngaaojaaGreatG08
import Derived.WalkKit
import Derived.ProofKit
import Derived.OpenShut
import Derived.Carry
import Derived.Deep.SlicePairs
import Derived.Deep.Strs
import Derived.Test.YtbapgngngaaojaaGreatG24
import Derived.Test.YtbapgngngaaojaaGreatG33
import Derived.Test.YtbapgngngaaojaaGreatG34
import Derived.Test.YtbapgngngaaojaaGreatG35
import Derived.Test.YtbapgngngaaojaaGreatG21
set_option linter.unusedSimpArgs false
set_option linter.unusedVariables false
namespace Go.Proofs.YtbapgngngaaojaaGreat
open Go.RowKit Go.Lib
theorem flushE_va (s : St) (n : Int) (va : Nat) : flushE s.es n true va = (flushVaM s n va).es := rfl
theorem flushK_va (s : St) (n : Int) (va : Nat) : flushK s.ks n true va = (flushVaM s n va).ks := rfl
theorem flushE_as (s : St) (n : Int) (h : 0 ≤ n) (va : Nat) : flushE s.es n false va = (flushAsM s n).es := by
 unfold flushE flushAsM goneE
 rw [decide_eq_false (by omega : ¬ n < 0)]
 simp
theorem flushK_as (s : St) (n : Int) (h : 0 ≤ n) (va : Nat) : flushK s.ks n false va = (flushAsM s n).ks := by
 unfold flushK flushAsM goneM
 rw [decide_eq_false (by omega : ¬ n < 0)]
 simp
theorem flushE_all (s : St) (va : Nat) : flushE s.es (-1) false va = [] := by
 unfold flushE goneE
 simp
theorem flushK_all (s : St) (va : Nat) : flushK s.ks (-1) false va = [] := by
 unfold flushK goneM
 simp
theorem flushAs_neg (s : St) (n : Int) (h : n < 0) : flushAsM s n = s := by
 have h1 : s.es.filter (fun x => !asE n x) = s.es := List.filter_eq_self.2 (fun x _ => by
  have : ((x.asid : Int) == n) = false := by rw [beq_eq_false_iff_ne]; omega
  simp [asE, this])
 have h2 : s.ks.filter (fun x => !asM n x) = s.ks := List.filter_eq_self.2 (fun x _ => by
  have : ((x.asid : Int) == n) = false := by rw [beq_eq_false_iff_ne]; omega
  simp [asM, this])
 unfold flushAsM
 rw [h1, h2]
theorem left_evict (s : St) (n : Int) : leftL false n s.es = dropL s.es n ∧ leftL (!false) n s.ks = s.ks := ⟨rfl, rfl⟩
theorem left_lose (s : St) (n : Int) : leftL true n s.es = s.es ∧ leftL (!true) n s.ks = dropL s.ks n := ⟨rfl, rfl⟩
end Go.Proofs.YtbapgngngaaojaaGreat
namespace Go.Proofs.YtbapgngngaaojaaGreat
open Go.RowKit Go.Lib
set_option maxRecDepth 100000
/-- What a step leaves: both machines' state S, the document's rows among the caller's blocks. -/
def StepPost (x m pt pk : Nat) (pv : Value) (B : Nat → Prop) (w0 : World) (sz most root asid : Nat) (on : Bool) (vw vp : Value) (S : St) (w : World) (e : Ending) (w' : World) : Prop :=
 ∃ A2 c2 A3 c3 B', e = .returned (.tuple #[xV sz most root asid on vw (.slice A2 S.es.length c2) (.slice A3 S.ks.length c3) vp, .bool true]) ∧ MB x m pt pk pv S B' w0 w' ∧ RowAt w' B' 10 (.slice A2 S.es.length c2) S.es.length (rowL eL S.es) ∧ RowAt w' B' 4 (.slice A3 S.ks.length c3) S.ks.length (rowL mL S.ks) ∧ (∀ k, B k → B' k) ∧ Kp (KB B w0) w w'
set_option maxHeartbeats 2000000 in
theorem step_flushva {x m pt pk : Nat} {pv : Value} {s : St} {B : Nat → Prop} {w0 w : World} (h : MB x m pt pk pv s B w0 w) (sz most root asid : Nat) (on : Bool) (A1 A2 A3 A4 : Option Addr) (n1 n4 c1 c2 c3 c4 : Nat) (sort n : Int) (va wd : Nat) (hva : va < 18446744073709551616) (f l k : Bool) (h2 : RowAt w B 10 (.slice A2 s.es.length c2) s.es.length (rowL eL s.es)) (h3 : RowAt w B 4 (.slice A3 s.ks.length c3) s.ks.length (rowL mL s.ks)) :
  Calls Tryz.prog 14 #[.pointer (some ⟨x, 0, none⟩), xV sz most root asid on (.slice A1 n1 c1) (.slice A2 s.es.length c2) (.slice A3 s.ks.length c3) (.slice A4 n4 c4), .agg #[.int .i64 6, .int .i64 sort, .int .i64 n, .int .u64 va, .int .u64 wd, .bool f, .bool l, .bool k]] w (StepPost x m pt pk pv B w0 sz most root asid on (.slice A1 n1 c1) (.slice A4 n4 c4) (flushVaM s n va) w) := by
 have hok := h.ok
 have hen : s.es.length ≤ 1000 := by have := hok.el; have := hok.m64; omega
 have hkn : s.ks.length ≤ 1000 := by have := hok.kl; have := hok.m64; omega
 have CF : Hid (∀ u, RdRow u (.slice A2 s.es.length c2) s.es.length (rowL eL s.es) → RdRow u (.slice A3 s.ks.length c3) s.ks.length (rowL mL s.ks) → Calls Tryz.prog 46 #[xV sz most root asid on (.slice A1 n1 c1) (.slice A2 s.es.length c2) (.slice A3 s.ks.length c3) (.slice A4 n4 c4), .int .i64 n, .bool true, .int .u64 va] u (RFlushPost sz most root asid on (.slice A1 n1 c1) (.slice A4 n4 c4) (flushVaM s n va).es (flushVaM s n va).ks u)) := fun u g2 g3 => by
  have h9 := rxflush_nat sz most root asid on s.es s.ks n true va A1 A2 A3 A4 n1 n4 c1 c2 c3 c4 u (by omega) hen hkn (fun y hy => (hok.eok y hy).2.2.1) (fun y hy => ⟨(hok.kok y hy).2.1, (hok.kok y hy).2.2.1⟩) g2 g3
  skip
  exact h9
 have H2 := Lib.hid h2
 have H3 := Lib.hid h3
 clear hok hen hkn h2 h3
 have HM := Lib.hid h
 clear h
 unfold xV
 go_enter Tryz.func14, Tryz.ntmps14
 go_upto_region 2 with fail
 generalize hW : World.alloc (World.alloc (World.alloc (World.alloc w _) _) _) _ = W
 have HX : Hid (Box W w.heap.size (xC sz most root asid on (.slice A1 n1 c1) (.slice A2 s.es.length c2) (.slice A3 s.ks.length c3) (.slice A4 n4 c4))) := by
  rw [← hW]
  exact (((Box.new w (xC sz most root asid on (.slice A1 n1 c1) (.slice A2 s.es.length c2) (.slice A3 s.ks.length c3) (.slice A4 n4 c4)) 36).below (below1 _ _)).below (below1 _ _)).below (below1 _ _)
 have HO : Hid (Box W (w.heap.size + 1) (oC 6 sort n va wd f l k)) := by
  rw [← hW]
  exact ((Box.new' (w.alloc (.cells (xC sz most root asid on (.slice A1 n1 c1) (.slice A2 s.es.length c2) (.slice A3 s.ks.length c3) (.slice A4 n4 c4)).toArray 36)) _ (by simp) (oC 6 sort n va wd f l k) 55).below (below1 _ _)).below (below1 _ _)
 have HZ : Hid (Box W (w.heap.size + 2) (xC 0 0 0 0 false (.slice none 0 0) (.slice none 0 0) (.slice none 0 0) (.slice none 0 0))) := by
  rw [← hW]
  exact (Box.new' ((w.alloc (.cells (xC sz most root asid on (.slice A1 n1 c1) (.slice A2 s.es.length c2) (.slice A3 s.ks.length c3) (.slice A4 n4 c4)).toArray 36)).alloc (.cells (oC 6 sort n va wd f l k).toArray 55)) _ (by simp) (xC 0 0 0 0 false (.slice none 0 0) (.slice none 0 0) (.slice none 0 0) (.slice none 0 0)) 36).below (below1 _ _)
 have HB0 : Hid (Below w.heap.size w W) := by rw [← hW]; exact (((below1 w _).alloc (by simp) _).alloc (by simp; omega) _).alloc (by simp; omega) _
 clear hW
 have HM2 := Lib.hid (HM.out.adds HB0.out)
 have o0 := HO.out.at 0 _ rfl
 have o2 := HO.out.at 2 _ rfl
 have o3 := HO.out.at 3 _ rfl
 have hzz : w.heap.size + 2 < W.heap.size := HZ.out.2.2
 have C1 := Lib.hid (HM2.out.flushVa n va hva)
 have H2W := Lib.hid (H2.out.below HB0.out)
 have H3W := Lib.hid (H3.out.below HB0.out)
 clear H2 H3
 unfold xV at CF
 generalize hS2 : (flushVaM s n va) = S2 at *
 clear hS2
 go_wp2_with (first | (go_at_call 27; refine C1.out.mono ?_; rintro e w1 ⟨rfl, hm, hk⟩; have HM3 := Lib.hid hm; have HK3 := Lib.hid hk; have HX3 := Lib.hid (HX.out.mb hk (.inr (by omega))); have HZ3 := Lib.hid (HZ.out.mb hk (.inr (by omega))); have HO3 := Lib.hid (HO.out.mb hk (.inr (by omega))); have H2X := Lib.hid (H2W.out.kept hk (fun k y z => z.1 (.inl y))); have H3X := Lib.hid (H3W.out.kept hk (fun k y z => z.1 (.inl y))); clear hm hk o0; have x0 := HX3.out.at 0 _ rfl; have x1 := HX3.out.at 1 _ rfl; have x2 := HX3.out.at 2 _ rfl; have x3 := HX3.out.at 3 _ rfl; have x4 := HX3.out.at 4 _ rfl; have x5 := HX3.out.at 5 _ rfl; have x6 := HX3.out.at 6 _ rfl; have x7 := HX3.out.at 7 _ rfl; have x8 := HX3.out.at 8 _ rfl; have o2 := HO3.out.at 2 _ rfl; have o3 := HO3.out.at 3 _ rfl) | (go_at_call 46; refine (CF.out _ H2X.out.rd H3X.out.rd).mono ?_; rintro e w2 ⟨A6, c6, A7, c7, rfl, g6, g7, hb⟩; dsimp only [xV]; have HR6 := Lib.hid g6; have HR7 := Lib.hid g7; have HB2 := Lib.hid hb; have HZ4 := Lib.hid (HZ3.out.below hb); clear g6 g7 hb; have p0 := HZ4.out.at 0 _ rfl; have p1 := HZ4.out.at 1 _ rfl; have p2 := HZ4.out.at 2 _ rfl; have p3 := HZ4.out.at 3 _ rfl; have p4 := HZ4.out.at 4 _ rfl; have p5 := HZ4.out.at 5 _ rfl; have p6 := HZ4.out.at 6 _ rfl; have p7 := HZ4.out.at 7 _ rfl; have p8 := HZ4.out.at 8 _ rfl; have fp := HZ4.out.2.1; have zp := HZ4.out.2.2))
 refine bodyPost_ret (v := .tuple #[xV sz most root asid on (.slice A1 n1 c1) (.slice A6 S2.es.length c6) (.slice A7 S2.ks.length c7) (.slice A4 n4 c4), .bool true]) (by simp [results, Tryz.results14, go_sem, zp, p0, p1, p2, p3, p4, p5, p6, p7, p8, xV]) rfl ?_
 rw [set9_eq]
 have hk : Kp (fun k => k = w.heap.size + 1 + 1) w2 (w2.setCells (w.heap.size + 1 + 1) 0 (xC sz most root asid on (.slice A1 n1 c1) (.slice A6 S2.es.length c6) (.slice A7 S2.ks.length c7) (.slice A4 n4 c4))) := (Kp.refl (fun k => k = w.heap.size + 1 + 1) w2).setCells (.inl rfl) 0 _
 have hz1 : W.heap.size ≤ w1.heap.size := HK3.out.size
 have hk2 : Kp (KB B w0) w w1 := (Kp.ofBelow HB0.out).trans HK3.out (fun i y => .inl ⟨fun z => y.1 (.inl z), y.2⟩)
 have hs1 : w.heap.size ≤ w1.heap.size := hk2.size
 exact ⟨A6, c6, A7, c7, _, rfl, (HM3.out.adds HB2.out).own (hk.mono (fun k y => .inl (.inr (by omega)))), ((ext_at HR6.out (fun k y => y)).kept hk (fun k y e => by omega)).mono (fun k _ y => .inr y), ((ext_at HR7.out (fun k y => y)).kept hk (fun k y e => by omega)).mono (fun k _ y => .inr y), fun k y => .inl (.inl y), (hk2.below HB2.out).trans hk (fun i y => .inr (by omega))⟩
set_option maxHeartbeats 2000000 in
theorem step_flushall {x m pt pk : Nat} {pv : Value} {s : St} {B : Nat → Prop} {w0 w : World} (h : MB x m pt pk pv s B w0 w) (sz most root asid : Nat) (on : Bool) (A1 A2 A3 A4 : Option Addr) (n1 n4 c1 c2 c3 c4 : Nat) (sort n : Int) (va wd : Nat) (hva : va < 18446744073709551616) (f l k : Bool) (h2 : RowAt w B 10 (.slice A2 s.es.length c2) s.es.length (rowL eL s.es)) (h3 : RowAt w B 4 (.slice A3 s.ks.length c3) s.ks.length (rowL mL s.ks)) :
  Calls Tryz.prog 14 #[.pointer (some ⟨x, 0, none⟩), xV sz most root asid on (.slice A1 n1 c1) (.slice A2 s.es.length c2) (.slice A3 s.ks.length c3) (.slice A4 n4 c4), .agg #[.int .i64 8, .int .i64 sort, .int .i64 n, .int .u64 va, .int .u64 wd, .bool f, .bool l, .bool k]] w (StepPost x m pt pk pv B w0 sz most root asid on (.slice A1 n1 c1) (.slice A4 n4 c4) (flushAllM s) w) := by
 have hok := h.ok
 have hen : s.es.length ≤ 1000 := by have := hok.el; have := hok.m64; omega
 have hkn : s.ks.length ≤ 1000 := by have := hok.kl; have := hok.m64; omega
 have CF : Hid (∀ u, RdRow u (.slice A2 s.es.length c2) s.es.length (rowL eL s.es) → RdRow u (.slice A3 s.ks.length c3) s.ks.length (rowL mL s.ks) → Calls Tryz.prog 46 #[xV sz most root asid on (.slice A1 n1 c1) (.slice A2 s.es.length c2) (.slice A3 s.ks.length c3) (.slice A4 n4 c4), .int .i64 (-1), .bool false, .int .u64 0] u (RFlushPost sz most root asid on (.slice A1 n1 c1) (.slice A4 n4 c4) (flushAllM s).es (flushAllM s).ks u)) := fun u g2 g3 => by
  have h9 := rxflush_nat sz most root asid on s.es s.ks (-1) false 0 A1 A2 A3 A4 n1 n4 c1 c2 c3 c4 u (by omega) hen hkn (fun y hy => (hok.eok y hy).2.2.1) (fun y hy => ⟨(hok.kok y hy).2.1, (hok.kok y hy).2.2.1⟩) g2 g3
  rw [flushE_all, flushK_all] at h9
  exact h9
 have H2 := Lib.hid h2
 have H3 := Lib.hid h3
 clear hok hen hkn h2 h3
 have HM := Lib.hid h
 clear h
 unfold xV
 go_enter Tryz.func14, Tryz.ntmps14
 go_upto_region 2 with fail
 generalize hW : World.alloc (World.alloc (World.alloc (World.alloc w _) _) _) _ = W
 have HX : Hid (Box W w.heap.size (xC sz most root asid on (.slice A1 n1 c1) (.slice A2 s.es.length c2) (.slice A3 s.ks.length c3) (.slice A4 n4 c4))) := by
  rw [← hW]
  exact (((Box.new w (xC sz most root asid on (.slice A1 n1 c1) (.slice A2 s.es.length c2) (.slice A3 s.ks.length c3) (.slice A4 n4 c4)) 36).below (below1 _ _)).below (below1 _ _)).below (below1 _ _)
 have HO : Hid (Box W (w.heap.size + 1) (oC 8 sort n va wd f l k)) := by
  rw [← hW]
  exact ((Box.new' (w.alloc (.cells (xC sz most root asid on (.slice A1 n1 c1) (.slice A2 s.es.length c2) (.slice A3 s.ks.length c3) (.slice A4 n4 c4)).toArray 36)) _ (by simp) (oC 8 sort n va wd f l k) 55).below (below1 _ _)).below (below1 _ _)
 have HZ : Hid (Box W (w.heap.size + 2) (xC 0 0 0 0 false (.slice none 0 0) (.slice none 0 0) (.slice none 0 0) (.slice none 0 0))) := by
  rw [← hW]
  exact (Box.new' ((w.alloc (.cells (xC sz most root asid on (.slice A1 n1 c1) (.slice A2 s.es.length c2) (.slice A3 s.ks.length c3) (.slice A4 n4 c4)).toArray 36)).alloc (.cells (oC 8 sort n va wd f l k).toArray 55)) _ (by simp) (xC 0 0 0 0 false (.slice none 0 0) (.slice none 0 0) (.slice none 0 0) (.slice none 0 0)) 36).below (below1 _ _)
 have HB0 : Hid (Below w.heap.size w W) := by rw [← hW]; exact (((below1 w _).alloc (by simp) _).alloc (by simp; omega) _).alloc (by simp; omega) _
 clear hW
 have HM2 := Lib.hid (HM.out.adds HB0.out)
 have o0 := HO.out.at 0 _ rfl
 have o2 := HO.out.at 2 _ rfl
 have o3 := HO.out.at 3 _ rfl
 have hzz : w.heap.size + 2 < W.heap.size := HZ.out.2.2
 have C1 := Lib.hid (HM2.out.flushAll)
 have H2W := Lib.hid (H2.out.below HB0.out)
 have H3W := Lib.hid (H3.out.below HB0.out)
 clear H2 H3
 unfold xV at CF
 generalize hS2 : (flushAllM s) = S2 at *
 clear hS2
 go_wp2_with (first | (go_at_call 15; refine C1.out.mono ?_; rintro e w1 ⟨rfl, hm, hk⟩; have HM3 := Lib.hid hm; have HK3 := Lib.hid hk; have HX3 := Lib.hid (HX.out.mb hk (.inr (by omega))); have HZ3 := Lib.hid (HZ.out.mb hk (.inr (by omega))); have HO3 := Lib.hid (HO.out.mb hk (.inr (by omega))); have H2X := Lib.hid (H2W.out.kept hk (fun k y z => z.1 (.inl y))); have H3X := Lib.hid (H3W.out.kept hk (fun k y z => z.1 (.inl y))); clear hm hk o0; have x0 := HX3.out.at 0 _ rfl; have x1 := HX3.out.at 1 _ rfl; have x2 := HX3.out.at 2 _ rfl; have x3 := HX3.out.at 3 _ rfl; have x4 := HX3.out.at 4 _ rfl; have x5 := HX3.out.at 5 _ rfl; have x6 := HX3.out.at 6 _ rfl; have x7 := HX3.out.at 7 _ rfl; have x8 := HX3.out.at 8 _ rfl; have o2 := HO3.out.at 2 _ rfl; have o3 := HO3.out.at 3 _ rfl) | (go_at_call 46; refine (CF.out _ H2X.out.rd H3X.out.rd).mono ?_; rintro e w2 ⟨A6, c6, A7, c7, rfl, g6, g7, hb⟩; dsimp only [xV]; have HR6 := Lib.hid g6; have HR7 := Lib.hid g7; have HB2 := Lib.hid hb; have HZ4 := Lib.hid (HZ3.out.below hb); clear g6 g7 hb; have p0 := HZ4.out.at 0 _ rfl; have p1 := HZ4.out.at 1 _ rfl; have p2 := HZ4.out.at 2 _ rfl; have p3 := HZ4.out.at 3 _ rfl; have p4 := HZ4.out.at 4 _ rfl; have p5 := HZ4.out.at 5 _ rfl; have p6 := HZ4.out.at 6 _ rfl; have p7 := HZ4.out.at 7 _ rfl; have p8 := HZ4.out.at 8 _ rfl; have fp := HZ4.out.2.1; have zp := HZ4.out.2.2))
 refine bodyPost_ret (v := .tuple #[xV sz most root asid on (.slice A1 n1 c1) (.slice A6 S2.es.length c6) (.slice A7 S2.ks.length c7) (.slice A4 n4 c4), .bool true]) (by simp [results, Tryz.results14, go_sem, zp, p0, p1, p2, p3, p4, p5, p6, p7, p8, xV]) rfl ?_
 rw [set9_eq]
 have hk : Kp (fun k => k = w.heap.size + 1 + 1) w2 (w2.setCells (w.heap.size + 1 + 1) 0 (xC sz most root asid on (.slice A1 n1 c1) (.slice A6 S2.es.length c6) (.slice A7 S2.ks.length c7) (.slice A4 n4 c4))) := (Kp.refl (fun k => k = w.heap.size + 1 + 1) w2).setCells (.inl rfl) 0 _
 have hz1 : W.heap.size ≤ w1.heap.size := HK3.out.size
 have hk2 : Kp (KB B w0) w w1 := (Kp.ofBelow HB0.out).trans HK3.out (fun i y => .inl ⟨fun z => y.1 (.inl z), y.2⟩)
 have hs1 : w.heap.size ≤ w1.heap.size := hk2.size
 exact ⟨A6, c6, A7, c7, _, rfl, (HM3.out.adds HB2.out).own (hk.mono (fun k y => .inl (.inr (by omega)))), ((ext_at HR6.out (fun k y => y)).kept hk (fun k y e => by omega)).mono (fun k _ y => .inr y), ((ext_at HR7.out (fun k y => y)).kept hk (fun k y e => by omega)).mono (fun k _ y => .inr y), fun k y => .inl (.inl y), (hk2.below HB2.out).trans hk (fun i y => .inr (by omega))⟩
set_option maxHeartbeats 2000000 in
theorem step_flushas {x m pt pk : Nat} {pv : Value} {s : St} {B : Nat → Prop} {w0 w : World} (h : MB x m pt pk pv s B w0 w) (sz most root asid : Nat) (on : Bool) (A1 A2 A3 A4 : Option Addr) (n1 n4 c1 c2 c3 c4 : Nat) (sort n : Int) (va wd : Nat) (hva : va < 18446744073709551616) (f l k : Bool)(hn : 0 ≤ n) (hd : decide (n < 0) = false) (h2 : RowAt w B 10 (.slice A2 s.es.length c2) s.es.length (rowL eL s.es)) (h3 : RowAt w B 4 (.slice A3 s.ks.length c3) s.ks.length (rowL mL s.ks)) :
  Calls Tryz.prog 14 #[.pointer (some ⟨x, 0, none⟩), xV sz most root asid on (.slice A1 n1 c1) (.slice A2 s.es.length c2) (.slice A3 s.ks.length c3) (.slice A4 n4 c4), .agg #[.int .i64 7, .int .i64 sort, .int .i64 n, .int .u64 va, .int .u64 wd, .bool f, .bool l, .bool k]] w (StepPost x m pt pk pv B w0 sz most root asid on (.slice A1 n1 c1) (.slice A4 n4 c4) (flushAsM s n) w) := by
 have hok := h.ok
 have hen : s.es.length ≤ 1000 := by have := hok.el; have := hok.m64; omega
 have hkn : s.ks.length ≤ 1000 := by have := hok.kl; have := hok.m64; omega
 have CF : Hid (∀ u, RdRow u (.slice A2 s.es.length c2) s.es.length (rowL eL s.es) → RdRow u (.slice A3 s.ks.length c3) s.ks.length (rowL mL s.ks) → Calls Tryz.prog 46 #[xV sz most root asid on (.slice A1 n1 c1) (.slice A2 s.es.length c2) (.slice A3 s.ks.length c3) (.slice A4 n4 c4), .int .i64 n, .bool false, .int .u64 0] u (RFlushPost sz most root asid on (.slice A1 n1 c1) (.slice A4 n4 c4) (flushAsM s n).es (flushAsM s n).ks u)) := fun u g2 g3 => by
  have h9 := rxflush_nat sz most root asid on s.es s.ks n false 0 A1 A2 A3 A4 n1 n4 c1 c2 c3 c4 u (by omega) hen hkn (fun y hy => (hok.eok y hy).2.2.1) (fun y hy => ⟨(hok.kok y hy).2.1, (hok.kok y hy).2.2.1⟩) g2 g3
  rw [flushE_as s n hn, flushK_as s n hn] at h9
  exact h9
 have H2 := Lib.hid h2
 have H3 := Lib.hid h3
 clear hok hen hkn h2 h3
 have HM := Lib.hid h
 clear h
 unfold xV
 go_enter Tryz.func14, Tryz.ntmps14
 go_upto_region 2 with fail
 generalize hW : World.alloc (World.alloc (World.alloc (World.alloc w _) _) _) _ = W
 have HX : Hid (Box W w.heap.size (xC sz most root asid on (.slice A1 n1 c1) (.slice A2 s.es.length c2) (.slice A3 s.ks.length c3) (.slice A4 n4 c4))) := by
  rw [← hW]
  exact (((Box.new w (xC sz most root asid on (.slice A1 n1 c1) (.slice A2 s.es.length c2) (.slice A3 s.ks.length c3) (.slice A4 n4 c4)) 36).below (below1 _ _)).below (below1 _ _)).below (below1 _ _)
 have HO : Hid (Box W (w.heap.size + 1) (oC 7 sort n va wd f l k)) := by
  rw [← hW]
  exact ((Box.new' (w.alloc (.cells (xC sz most root asid on (.slice A1 n1 c1) (.slice A2 s.es.length c2) (.slice A3 s.ks.length c3) (.slice A4 n4 c4)).toArray 36)) _ (by simp) (oC 7 sort n va wd f l k) 55).below (below1 _ _)).below (below1 _ _)
 have HZ : Hid (Box W (w.heap.size + 2) (xC 0 0 0 0 false (.slice none 0 0) (.slice none 0 0) (.slice none 0 0) (.slice none 0 0))) := by
  rw [← hW]
  exact (Box.new' ((w.alloc (.cells (xC sz most root asid on (.slice A1 n1 c1) (.slice A2 s.es.length c2) (.slice A3 s.ks.length c3) (.slice A4 n4 c4)).toArray 36)).alloc (.cells (oC 7 sort n va wd f l k).toArray 55)) _ (by simp) (xC 0 0 0 0 false (.slice none 0 0) (.slice none 0 0) (.slice none 0 0) (.slice none 0 0)) 36).below (below1 _ _)
 have HB0 : Hid (Below w.heap.size w W) := by rw [← hW]; exact (((below1 w _).alloc (by simp) _).alloc (by simp; omega) _).alloc (by simp; omega) _
 clear hW
 have HM2 := Lib.hid (HM.out.adds HB0.out)
 have o0 := HO.out.at 0 _ rfl
 have o2 := HO.out.at 2 _ rfl
 have o3 := HO.out.at 3 _ rfl
 have hzz : w.heap.size + 2 < W.heap.size := HZ.out.2.2
 have C1 := Lib.hid (HM2.out.flushAs n)
 have H2W := Lib.hid (H2.out.below HB0.out)
 have H3W := Lib.hid (H3.out.below HB0.out)
 clear H2 H3
 unfold xV at CF
 generalize hS2 : (flushAsM s n) = S2 at *
 clear hS2
 go_wp2_with (first | (go_at_call 16; refine C1.out.mono ?_; rintro e w1 ⟨rfl, hm, hk⟩; have HM3 := Lib.hid hm; have HK3 := Lib.hid hk; have HX3 := Lib.hid (HX.out.mb hk (.inr (by omega))); have HZ3 := Lib.hid (HZ.out.mb hk (.inr (by omega))); have HO3 := Lib.hid (HO.out.mb hk (.inr (by omega))); have H2X := Lib.hid (H2W.out.kept hk (fun k y z => z.1 (.inl y))); have H3X := Lib.hid (H3W.out.kept hk (fun k y z => z.1 (.inl y))); clear hm hk o0; have x0 := HX3.out.at 0 _ rfl; have x1 := HX3.out.at 1 _ rfl; have x2 := HX3.out.at 2 _ rfl; have x3 := HX3.out.at 3 _ rfl; have x4 := HX3.out.at 4 _ rfl; have x5 := HX3.out.at 5 _ rfl; have x6 := HX3.out.at 6 _ rfl; have x7 := HX3.out.at 7 _ rfl; have x8 := HX3.out.at 8 _ rfl; have o2 := HO3.out.at 2 _ rfl; have o3 := HO3.out.at 3 _ rfl) | (go_at_call 46; refine (CF.out _ H2X.out.rd H3X.out.rd).mono ?_; rintro e w2 ⟨A6, c6, A7, c7, rfl, g6, g7, hb⟩; dsimp only [xV]; have HR6 := Lib.hid g6; have HR7 := Lib.hid g7; have HB2 := Lib.hid hb; have HZ4 := Lib.hid (HZ3.out.below hb); clear g6 g7 hb; have p0 := HZ4.out.at 0 _ rfl; have p1 := HZ4.out.at 1 _ rfl; have p2 := HZ4.out.at 2 _ rfl; have p3 := HZ4.out.at 3 _ rfl; have p4 := HZ4.out.at 4 _ rfl; have p5 := HZ4.out.at 5 _ rfl; have p6 := HZ4.out.at 6 _ rfl; have p7 := HZ4.out.at 7 _ rfl; have p8 := HZ4.out.at 8 _ rfl; have fp := HZ4.out.2.1; have zp := HZ4.out.2.2))
 refine bodyPost_ret (v := .tuple #[xV sz most root asid on (.slice A1 n1 c1) (.slice A6 S2.es.length c6) (.slice A7 S2.ks.length c7) (.slice A4 n4 c4), .bool true]) (by simp [results, Tryz.results14, go_sem, zp, p0, p1, p2, p3, p4, p5, p6, p7, p8, xV]) rfl ?_
 rw [set9_eq]
 have hk : Kp (fun k => k = w.heap.size + 1 + 1) w2 (w2.setCells (w.heap.size + 1 + 1) 0 (xC sz most root asid on (.slice A1 n1 c1) (.slice A6 S2.es.length c6) (.slice A7 S2.ks.length c7) (.slice A4 n4 c4))) := (Kp.refl (fun k => k = w.heap.size + 1 + 1) w2).setCells (.inl rfl) 0 _
 have hz1 : W.heap.size ≤ w1.heap.size := HK3.out.size
 have hk2 : Kp (KB B w0) w w1 := (Kp.ofBelow HB0.out).trans HK3.out (fun i y => .inl ⟨fun z => y.1 (.inl z), y.2⟩)
 have hs1 : w.heap.size ≤ w1.heap.size := hk2.size
 exact ⟨A6, c6, A7, c7, _, rfl, (HM3.out.adds HB2.out).own (hk.mono (fun k y => .inl (.inr (by omega)))), ((ext_at HR6.out (fun k y => y)).kept hk (fun k y e => by omega)).mono (fun k _ y => .inr y), ((ext_at HR7.out (fun k y => y)).kept hk (fun k y e => by omega)).mono (fun k _ y => .inr y), fun k y => .inl (.inl y), (hk2.below HB2.out).trans hk (fun i y => .inr (by omega))⟩
end Go.Proofs.YtbapgngngaaojaaGreat
namespace Go.Proofs.YtbapgngngaaojaaGreat
open Go.RowKit Go.Lib
set_option maxRecDepth 100000
set_option maxHeartbeats 2000000 in
theorem step_flushneg {x m pt pk : Nat} {pv : Value} {s : St} {B : Nat → Prop} {w0 w : World} (h : MB x m pt pk pv s B w0 w) (sz most root asid : Nat) (on : Bool) (A1 A2 A3 A4 : Option Addr) (n1 n2 n3 n4 c1 c2 c3 c4 : Nat) (sort n : Int) (hn : n < 0) (va wd : Nat) (f l k : Bool) :
  Calls Tryz.prog 14 #[.pointer (some ⟨x, 0, none⟩), xV sz most root asid on (.slice A1 n1 c1) (.slice A2 n2 c2) (.slice A3 n3 c3) (.slice A4 n4 c4), .agg #[.int .i64 7, .int .i64 sort, .int .i64 n, .int .u64 va, .int .u64 wd, .bool f, .bool l, .bool k]] w fun e w' => e = .returned (.tuple #[xV sz most root asid on (.slice A1 n1 c1) (.slice A2 n2 c2) (.slice A3 n3 c3) (.slice A4 n4 c4), .bool true]) ∧ MB x m pt pk pv s B w0 w' ∧ Kp (KB B w0) w w' := by
 have HM := Lib.hid h
 clear h
 unfold xV
 go_enter Tryz.func14, Tryz.ntmps14
 go_upto_region 2 with fail
 generalize hW : World.alloc (World.alloc (World.alloc (World.alloc w _) _) _) _ = W
 have HX : Hid (Box W w.heap.size (xC sz most root asid on (.slice A1 n1 c1) (.slice A2 n2 c2) (.slice A3 n3 c3) (.slice A4 n4 c4))) := by
  rw [← hW]
  exact (((Box.new w (xC sz most root asid on (.slice A1 n1 c1) (.slice A2 n2 c2) (.slice A3 n3 c3) (.slice A4 n4 c4)) 36).below (below1 _ _)).below (below1 _ _)).below (below1 _ _)
 have HO : Hid (Box W (w.heap.size + 1) (oC 7 sort n va wd f l k)) := by
  rw [← hW]
  exact ((Box.new' (w.alloc (.cells (xC sz most root asid on (.slice A1 n1 c1) (.slice A2 n2 c2) (.slice A3 n3 c3) (.slice A4 n4 c4)).toArray 36)) _ (by simp) (oC 7 sort n va wd f l k) 55).below (below1 _ _)).below (below1 _ _)
 have HZ : Hid (Box W (w.heap.size + 2) (xC 0 0 0 0 false (.slice none 0 0) (.slice none 0 0) (.slice none 0 0) (.slice none 0 0))) := by
  rw [← hW]
  exact (Box.new' ((w.alloc (.cells (xC sz most root asid on (.slice A1 n1 c1) (.slice A2 n2 c2) (.slice A3 n3 c3) (.slice A4 n4 c4)).toArray 36)).alloc (.cells (oC 7 sort n va wd f l k).toArray 55)) _ (by simp) (xC 0 0 0 0 false (.slice none 0 0) (.slice none 0 0) (.slice none 0 0) (.slice none 0 0)) 36).below (below1 _ _)
 have HB0 : Hid (Below w.heap.size w W) := by rw [← hW]; exact (((below1 w _).alloc (by simp) _).alloc (by simp; omega) _).alloc (by simp; omega) _
 clear hW
 have HM2 := Lib.hid (HM.out.adds HB0.out)
 have o0 := HO.out.at 0 _ rfl
 have hzz : w.heap.size + 2 < W.heap.size := HZ.out.2.2
 have C1 := Lib.hid (HM2.out.flushAs n)
 rw [flushAs_neg s n hn] at C1
 have hd : decide (n < 0) = true := decide_eq_true hn
 have o2 := HO.out.at 2 _ rfl
 go_wp2_with (go_at_call 16; refine C1.out.mono ?_; rintro e w1 ⟨rfl, hm, hk⟩; have HM3 := Lib.hid hm; have HK3 := Lib.hid hk; have HX3 := Lib.hid (HX.out.mb hk (.inr (by omega))); have HZ3 := Lib.hid (HZ.out.mb hk (.inr (by omega))); have HO3 := Lib.hid (HO.out.mb hk (.inr (by omega))); clear hm hk o2; have o2 := HO3.out.at 2 _ rfl; have BX := HX3.out; have x0 := BX.at 0 _ rfl; have x1 := BX.at 1 _ rfl; have x2 := BX.at 2 _ rfl; have x3 := BX.at 3 _ rfl; have x4 := BX.at 4 _ rfl; have x5 := BX.at 5 _ rfl; have x6 := BX.at 6 _ rfl; have x7 := BX.at 7 _ rfl; have x8 := BX.at 8 _ rfl; have fx := BX.2.1; have zx := BX.2.2; have BP := HZ3.out; have p0 := BP.at 0 _ rfl; have p1 := BP.at 1 _ rfl; have p2 := BP.at 2 _ rfl; have p3 := BP.at 3 _ rfl; have p4 := BP.at 4 _ rfl; have p5 := BP.at 5 _ rfl; have p6 := BP.at 6 _ rfl; have p7 := BP.at 7 _ rfl; have p8 := BP.at 8 _ rfl; have fp := BP.2.1; have zp := BP.2.2; clear BX BP)
 refine bodyPost_ret (v := .tuple #[xV sz most root asid on (.slice A1 n1 c1) (.slice A2 n2 c2) (.slice A3 n3 c3) (.slice A4 n4 c4), .bool true]) (by simp [results, Tryz.results14, go_sem, zx, zp, p0, p1, p2, p3, p4, p5, p6, p7, p8, xV]) rfl ?_
 rw [set9_eq]
 have hk : Kp (fun k => k = w.heap.size ∨ k = w.heap.size + 1 + 1) w1 (w1.setCells (w.heap.size + 1 + 1) 0 (xC sz most root asid on (.slice A1 n1 c1) (.slice A2 n2 c2) (.slice A3 n3 c3) (.slice A4 n4 c4))) := (Kp.refl (fun k => k = w.heap.size ∨ k = w.heap.size + 1 + 1) w1).setCells (.inl (.inr rfl)) 0 _
 have hk2 : Kp (KB B w0) w w1 := (Kp.ofBelow HB0.out).trans HK3.out (fun i y => .inl ⟨fun z => y.1 (.inl z), y.2⟩)
 exact ⟨rfl, (HM3.out.own (hk.mono (fun k y => .inr (by omega)))).less (fun k y => .inl y), hk2.trans hk (fun i y => .inr (by omega))⟩
end Go.Proofs.YtbapgngngaaojaaGreat
namespace Go.Proofs.YtbapgngngaaojaaGreat
open Go.RowKit Go.Lib Go.ChangeShapes Go.WideShapes Go.ChangeAt
set_option maxRecDepth 100000
/-- A step of the law. -/
structure OpT where
 kind : Int
 sort : Int
 n : Int
 va : Nat
 wd : Nat
 f : Bool
 l : Bool
 k : Bool
instance : Inhabited OpT := ⟨⟨0, 0, 0, 0, 0, false, false, false⟩⟩
def opL (o : OpT) : List Value := [.int .i64 o.kind, .int .i64 o.sort, .int .i64 o.n, .int .u64 o.va, .int .u64 o.wd, .bool o.f, .bool o.l, .bool o.k]
theorem opL_len (o : OpT) : (opL o).length = 8 := rfl
theorem u64_wf {n : Int} (h : (Lit.int .u64 n).wf = true) : ∃ k : Nat, n = (k : Int) ∧ k < 18446744073709551616 := by
 have hx : 0 ≤ n ∧ n ≤ 18446744073709551615 := by simpa [Lit.wf, IntKind.min, IntKind.max, IntKind.signed, IntKind.bits] using h
 exact ⟨n.toNat, by omega, by omega⟩
section
variable {H : Type} {enc : TypeId × Value → H} {W : World} {v : Value} {d : DataW H} {ps : List MemPlace} {x : DataW H × List MemPlace} {base fuel : Nat} {spare : Nat → Bool} {held : Bool}
theorem one_int {t : TypeId} {kd : IntKind} {cs : List Value} (ht : Tryz.prog.underlying t = some (.int kd)) (h : DataW.trod enc Tryz.prog W base spare held fuel t cs = some x) : ∃ n : Int, cs = [.int kd n] ∧ (Lit.int kd n).wf = true := by
 obtain ⟨n0, e0, -, w0⟩ := DataW.trod_int ht h
 exact ⟨n0, e0, w0⟩
theorem one_bool {t : TypeId} {cs : List Value} (ht : Tryz.prog.underlying t = some .bool) (h : DataW.trod enc Tryz.prog W base spare held fuel t cs = some x) : ∃ b : Bool, cs = [.bool b] := by
 obtain ⟨b, e, -⟩ := DataW.trod_bool ht h
 exact ⟨b, e⟩
theorem one_hint {cs : List Value} (h : DataW.trod enc Tryz.prog W base spare held fuel 26 cs = some x) : ∃ f l k : Bool, cs = [.bool f, .bool l, .bool k] := by
 obtain ⟨y0, y1, y2, n, -, hl, h0, h1, h2⟩ := Go.Deep.trod_struct3 Tryz.underlying26 h
 rw [show Tryz.prog.cellsOf 26 = 3 by kernel_rfl] at hl
 have hc1 : Tryz.prog.cellsOf 4 = 1 := by kernel_rfl
 match cs, hl with
 | [c0, c1, c2], _ =>
  dsimp only at h0 h1 h2
  rw [hc1] at h0 h1 h2
  obtain ⟨b0, e0⟩ := one_bool Tryz.underlying4 h0
  obtain ⟨b1, e1⟩ := one_bool Tryz.underlying4 h1
  obtain ⟨b2, e2⟩ := one_bool Tryz.underlying4 h2
  simp at e0 e1 e2
  exact ⟨b0, b1, b2, by rw [e0, e1, e2]⟩
theorem one_op {cs : List Value} (h : DataW.trod enc Tryz.prog W base spare held fuel 55 cs = some x) : ∃ o : OpT, cs = opL o ∧ o.va < 18446744073709551616 ∧ o.wd < 18446744073709551616 := by
 obtain ⟨xs, n, -, -, hl, hx, hf⟩ := DataW.trod_struct Tryz.underlying55 h
 rw [show Tryz.prog.cellsOf 55 = 8 by kernel_rfl] at hl
 have hi1 : Tryz.prog.cellsOf 3 = 1 := by kernel_rfl
 have hu1 : Tryz.prog.cellsOf 23 = 1 := by kernel_rfl
 have hh3 : Tryz.prog.cellsOf 26 = 3 := by kernel_rfl
 match xs, hx with
 | [y0, y1, y2, y3, y4, y5], _ =>
 match cs, hl with
 | [c0, c1, c2, c3, c4, c5, c6, c7], _ =>
  have g0 : DataW.trod enc Tryz.prog W base spare held n 3 (([c0, c1, c2, c3, c4, c5, c6, c7].drop 0).take (Tryz.prog.cellsOf 3)) = some y0 := hf 0 _ rfl
  have g1 : DataW.trod enc Tryz.prog W base spare held n 3 (([c0, c1, c2, c3, c4, c5, c6, c7].drop 1).take (Tryz.prog.cellsOf 3)) = some y1 := hf 1 _ rfl
  have g2 : DataW.trod enc Tryz.prog W base spare held n 3 (([c0, c1, c2, c3, c4, c5, c6, c7].drop 2).take (Tryz.prog.cellsOf 3)) = some y2 := hf 2 _ rfl
  have g3 : DataW.trod enc Tryz.prog W base spare held n 23 (([c0, c1, c2, c3, c4, c5, c6, c7].drop 3).take (Tryz.prog.cellsOf 23)) = some y3 := hf 3 _ rfl
  have g4 : DataW.trod enc Tryz.prog W base spare held n 23 (([c0, c1, c2, c3, c4, c5, c6, c7].drop 4).take (Tryz.prog.cellsOf 23)) = some y4 := hf 4 _ rfl
  have g5 : DataW.trod enc Tryz.prog W base spare held n 26 (([c0, c1, c2, c3, c4, c5, c6, c7].drop 5).take (Tryz.prog.cellsOf 26)) = some y5 := hf 5 _ rfl
  rw [hi1] at g0 g1 g2
  rw [hu1] at g3 g4
  rw [hh3] at g5
  obtain ⟨n0, e0, -⟩ := one_int Tryz.underlying3 g0
  obtain ⟨n1, e1, -⟩ := one_int Tryz.underlying3 g1
  obtain ⟨n2, e2, -⟩ := one_int Tryz.underlying3 g2
  obtain ⟨n3, e3, w3⟩ := one_int Tryz.underlying23 g3
  obtain ⟨n4, e4, w4⟩ := one_int Tryz.underlying23 g4
  obtain ⟨b0, b1, b2, e5⟩ := one_hint g5
  obtain ⟨k3, rfl, l3⟩ := u64_wf w3
  obtain ⟨k4, rfl, l4⟩ := u64_wf w4
  simp at e0 e1 e2 e3 e4 e5
  obtain ⟨f0, f1, f2⟩ := e5
  exact ⟨⟨n0, n1, n2, k3, k4, b0, b1, b2⟩, by rw [e0, e1, e2, e3, e4, f0, f1, f2]; rfl, l3, l4⟩
theorem open_ops (hv : Value.okWide Tryz.prog W .any 0 53 v) (h : DataW.Trod enc Tryz.prog W 0 (fun _ => true) true 53 v d ps) :
  ∃ (A : Option Addr) (l : List OpT) (c : Nat), v = .slice A l.length c ∧ RdRow W (.slice A l.length c) l.length (rowL opL l) ∧ ∀ o ∈ l, o.va < 18446744073709551616 ∧ o.wd < 18446744073709551616 := by
 obtain ⟨a, len, cap, rfl⟩ := okWide_slice Tryz.underlying53 hv
 obtain ⟨fuel, h⟩ := h
 rcases Go.Deep.open_slice Tryz.underlying53 h with ⟨hc, -⟩ | ⟨a', len', cap', m, n, D, Pl, hc, -, hl, hm, hmm, -, hall⟩
 ·have e : Value.slice a len cap = .slice none 0 0 := by simpa [Value.cells] using hc
  obtain ⟨rfl, rfl, rfl⟩ := Value.slice.inj e
  exact ⟨none, [], 0, rfl, ⟨none, 0, rfl, fun h => absurd h (by simp)⟩, fun s hs => by cases hs⟩
 ·have e : Value.slice a len cap = .slice (some a') len' cap' := by simpa [Value.cells] using hc
  obtain ⟨rfl, rfl, rfl⟩ := Value.slice.inj e
  obtain rfl : cap = m := by simpa using hmm.symm
  have hN : ∀ i, i < len → ∃ o : OpT, (o.va < 18446744073709551616 ∧ o.wd < 18446744073709551616) ∧ ∀ j, j < 8 → W.cell? (a'.add (i * 8 + j)) = (opL o)[j]? := fun i hi => by
   obtain ⟨cs', h1, h2⟩ := hall i (by omega)
   rw [show Tryz.prog.cellsOf 55 = 8 by kernel_rfl] at h1
   obtain ⟨-, -, hcell⟩ := World.cells?_some h1
   obtain ⟨o, rfl, b0, b1⟩ := one_op h2
   refine ⟨o, ⟨b0, b1⟩, fun j hj => ?_⟩
   have := hcell j hj
   rw [Go.Deep.add_add] at this
   exact this
  obtain ⟨f, hf⟩ := Go.Deep.choose_lt hN
  have hlen : ((List.range len).map f).length = len := by simp
  refine ⟨some a', (List.range len).map f, cap, by rw [hlen], ?_, ?_⟩
  ·rw [hlen]
   refine ⟨some a', cap, rfl, fun hp => ?_⟩
   have hspot : a'.spot = none := by
    have h0 := (hf 0 (by omega)).2 0 (by omega)
    exact World.cell?_spot (a := a'.add 0) (by simpa [opL] using h0)
   obtain ⟨g, o, spot⟩ := a'
   dsimp only at hspot
   subst hspot
   refine ⟨g, o, rfl, fun j v hj => ?_⟩
   have hjl : j < len * 8 := by
    have := (List.getElem?_eq_some_iff.1 hj).1
    rw [rowL_len opL 8 opL_len, hlen] at this
    exact this
   have hi : j / 8 < len := by omega
   have hc := (hf (j / 8) hi).2 (j % 8) (Nat.mod_lt _ (by omega))
   have hat := rowL_at opL 8 opL_len ((List.range len).map f) (j / 8) (by rw [hlen]; exact hi) (j % 8) (Nat.mod_lt _ (by omega))
   rw [show j / 8 * 8 + j % 8 = j by omega] at hc hat
   rw [hj] at hat
   rw [List.getElem_map, List.getElem_range] at hat
   rw [Addr.add_mid] at hc
   rw [hc, ← hat]
  ·intro s hs
   obtain ⟨i, hi, rfl⟩ := List.mem_map.1 hs
   exact (hf i (List.mem_range.1 hi)).1
theorem open_steps2 (hv : Value.okWide Tryz.prog W .any 0 22 v) (h : DataW.Trod enc Tryz.prog W 0 (fun _ => true) true 22 v d ps) :
  ∃ (A : Option Addr) (l : List (Nat × Nat)) (c : Nat), v = .slice A l.length c ∧ RdRow W (.slice A l.length c) l.length (rowL wL l) ∧ ∀ s ∈ l, s.1 < 18446744073709551616 ∧ s.2 < 18446744073709551616 := by
 obtain ⟨a, len, cap, rfl⟩ := okWide_slice Tryz.underlying22 hv
 obtain ⟨fuel, h⟩ := h
 rcases Go.Deep.open_slice_pairs (f0 := _) (f1 := _) Tryz.underlying22 Tryz.underlying81 (by kernel_rfl) rfl rfl (by kernel_rfl) (by kernel_rfl) h with ⟨hc, -⟩ | ⟨a', len', cap', m, n, V0, V1, D0, D1, P0, P1, hc, -, hl, hm, hmm, -, hall⟩
 ·have e : Value.slice a len cap = .slice none 0 0 := by simpa [Value.cells] using hc
  obtain ⟨rfl, rfl, rfl⟩ := Value.slice.inj e
  exact ⟨none, [], 0, rfl, ⟨none, 0, rfl, fun h => absurd h (by simp)⟩, fun s hs => by cases hs⟩
 ·have e : Value.slice a len cap = .slice (some a') len' cap' := by simpa [Value.cells] using hc
  obtain ⟨rfl, rfl, rfl⟩ := Value.slice.inj e
  obtain rfl : cap = m := by simpa using hmm.symm
  have hN : ∀ i, i < len → ∃ k0 k1 : Nat, V0 i = .int .u64 k0 ∧ V1 i = .int .u64 k1 ∧ k0 < 18446744073709551616 ∧ k1 < 18446744073709551616 := fun i hi => by
   obtain ⟨-, -, h3, h4⟩ := hall i (by omega)
   obtain ⟨n0, e0, -, w0⟩ := DataW.trod_int Tryz.underlying23 h3
   obtain ⟨n1, e1, -, w1⟩ := DataW.trod_int Tryz.underlying23 h4
   obtain ⟨k0, rfl, b0⟩ := u64_wf w0
   obtain ⟨k1, rfl, b1⟩ := u64_wf w1
   exact ⟨k0, k1, by simpa using e0, by simpa using e1, b0, b1⟩
  let f : Nat → Nat × Nat := fun i => ((RowKit.intOf (V0 i)).toNat, (RowKit.intOf (V1 i)).toNat)
  have hf : ∀ i, i < len → V0 i = .int .u64 (f i).1 ∧ V1 i = .int .u64 (f i).2 ∧ (f i).1 < 18446744073709551616 ∧ (f i).2 < 18446744073709551616 := fun i hi => by
   obtain ⟨k0, k1, e0, e1, b0, b1⟩ := hN i hi
   have q0 : (f i).1 = k0 := by show (RowKit.intOf (V0 i)).toNat = k0; rw [e0]; rfl
   have q1 : (f i).2 = k1 := by show (RowKit.intOf (V1 i)).toNat = k1; rw [e1]; rfl
   rw [q0, q1]
   exact ⟨e0, e1, b0, b1⟩
  have hlen : ((List.range len).map f).length = len := by simp
  refine ⟨some a', (List.range len).map f, cap, by rw [hlen], ?_, ?_⟩
  ·rw [hlen]
   refine ⟨some a', cap, rfl, fun hp => ?_⟩
   have hspot : a'.spot = none := by
    have h0 := (hall 0 (by omega)).1
    rw [Nat.zero_mul] at h0
    exact World.cell?_spot (a := a'.add 0) h0
   obtain ⟨g, o, spot⟩ := a'
   dsimp only at hspot
   subst hspot
   refine ⟨g, o, rfl, fun j v hj => ?_⟩
   have hjl : j < len * 2 := by
    have := (List.getElem?_eq_some_iff.1 hj).1
    rw [rowL_len wL 2 wL_len, hlen] at this
    exact this
   have hi : j / 2 < len := by omega
   obtain ⟨c0, c1, -, -⟩ := hall (j / 2) (by omega)
   rw [Addr.add_mid] at c0 c1
   obtain ⟨e0, e1, -, -⟩ := hf (j / 2) hi
   have hat := rowL_at wL 2 wL_len ((List.range len).map f) (j / 2) (by rw [hlen]; exact hi) (j % 2) (Nat.mod_lt _ (by omega))
   rw [show j / 2 * 2 + j % 2 = j by omega, hj] at hat
   rw [List.getElem_map, List.getElem_range] at hat
   rcases Nat.mod_two_eq_zero_or_one j with h2 | h2
   ·rw [h2] at hat
    have hv2 : v = .int .u64 (f (j / 2)).1 := by simpa [wL] using hat
    rw [hv2, ← e0, ← c0]
    congr 2
    omega
   ·rw [h2] at hat
    have hv2 : v = .int .u64 (f (j / 2)).2 := by simpa [wL] using hat
    rw [hv2, ← e1, ← c1]
    congr 2
    omega
  ·intro s hs
   obtain ⟨i, hi, rfl⟩ := List.mem_map.1 hs
   exact ⟨(hf i (List.mem_range.1 hi)).2.2.1, (hf i (List.mem_range.1 hi)).2.2.2⟩
end
end Go.Proofs.YtbapgngngaaojaaGreat
namespace Go.Proofs.YtbapgngngaaojaaGreat
open Go.RowKit Go.Lib
set_option maxRecDepth 100000
set_option maxHeartbeats 1000000 in
theorem rxaccess_off (sz most root asid va x : Nat) (kind : Int) (fill led keep : Bool) (A1 A2 A3 A4 : Option Addr) (n1 n2 n3 n4 c1 c2 c3 c4 : Nat) (w : World) :
  Calls Tryz.prog 11 #[xV sz most root asid false (.slice A1 n1 c1) (.slice A2 n2 c2) (.slice A3 n3 c3) (.slice A4 n4 c4), .int .i64 kind, .int .u64 va, .int .u64 x, .agg #[.bool fill, .bool led, .bool keep]] w fun e w' => e = .returned (.tuple #[xV sz most root asid false (.slice A1 n1 c1) (.slice A2 n2 c2) (.slice A3 n3 c3) (.slice A4 n4 c4), fV (if va % 8 = 0 then (1, 0) else (5, 0)), .int .u64 0]) ∧ Below w.heap.size w w' := by
 obtain ⟨F, hF⟩ : ∃ F : Nat × Nat, (if va % 8 = 0 then (1, 0) else (5, 0)) = F := ⟨_, rfl⟩
 rw [hF]
 unfold xV
 go_enter Tryz.func11, Tryz.ntmps11
 go_upto_region 1 with fail
 generalize hW : World.alloc (World.alloc (World.alloc (World.alloc w _) _) _) _ = W
 have HXB : Hid (Box W w.heap.size (xC sz most root asid false (.slice A1 n1 c1) (.slice A2 n2 c2) (.slice A3 n3 c3) (.slice A4 n4 c4))) := by
  rw [← hW]
  exact (((Box.new w (xC sz most root asid false (.slice A1 n1 c1) (.slice A2 n2 c2) (.slice A3 n3 c3) (.slice A4 n4 c4)) 36).below (below1 _ _)).below (below1 _ _)).below (below1 _ _)
 have H6B : Hid (Box W (w.heap.size + 2) (xC 0 0 0 0 false (.slice none 0 0) (.slice none 0 0) (.slice none 0 0) (.slice none 0 0))) := by
  rw [← hW]
  exact (Box.new' ((w.alloc (.cells (xC sz most root asid false (.slice A1 n1 c1) (.slice A2 n2 c2) (.slice A3 n3 c3) (.slice A4 n4 c4)).toArray 36)).alloc (.cells #[.bool fill, .bool led, .bool keep] 41)) _ (by simp) (xC 0 0 0 0 false (.slice none 0 0) (.slice none 0 0) (.slice none 0 0) (.slice none 0 0)) 36).below (below1 _ _)
 have H7B : Hid (Box W (w.heap.size + 3) [.int .i64 0, .int .i64 0]) := by
  rw [← hW]
  exact Box.new' (((w.alloc (.cells (xC sz most root asid false (.slice A1 n1 c1) (.slice A2 n2 c2) (.slice A3 n3 c3) (.slice A4 n4 c4)).toArray 36)).alloc (.cells #[.bool fill, .bool led, .bool keep] 41)).alloc (.cells (xC 0 0 0 0 false (.slice none 0 0) (.slice none 0 0) (.slice none 0 0) (.slice none 0 0)).toArray 36)) _ (by simp) [.int .i64 0, .int .i64 0] 46
 have HB0 : Hid (Below w.heap.size w W) := by rw [← hW]; exact (((below1 w _).alloc (by simp) _).alloc (by simp; omega) _).alloc (by simp; omega) _
 clear hW
 by_cases h8 : va % 8 = 0
 ·have d8 : ((va : Int) % 8 != 0) = false := by simp; omega
  rw [if_pos h8] at hF
  have HF : Hid ((1, 0) = F) := hF
  clear hF h8
  have BX := HXB.out
  have x0 := BX.at 0 _ rfl
  have x1 := BX.at 1 _ rfl
  have x2 := BX.at 2 _ rfl
  have x3 := BX.at 3 _ rfl
  have x4 := BX.at 4 _ rfl
  have x5 := BX.at 5 _ rfl
  have x6 := BX.at 6 _ rfl
  have x7 := BX.at 7 _ rfl
  have x8 := BX.at 8 _ rfl
  have fx := BX.2.1
  have zx := BX.2.2
  have BP := H6B.out
  have p0 := BP.at 0 _ rfl
  have p1 := BP.at 1 _ rfl
  have p2 := BP.at 2 _ rfl
  have p3 := BP.at 3 _ rfl
  have p4 := BP.at 4 _ rfl
  have p5 := BP.at 5 _ rfl
  have p6 := BP.at 6 _ rfl
  have p7 := BP.at 7 _ rfl
  have p8 := BP.at 8 _ rfl
  have fp := BP.2.1
  have zp := BP.2.2
  have BR := H7B.out
  have r0 := BR.at 0 _ rfl
  have r1 := BR.at 1 _ rfl
  have fr := BR.2.1
  have zr := BR.2.2
  clear BX BP BR fx
  go_wp2
  refine bodyPost_ret (v := .tuple #[xV sz most root asid false (.slice A1 n1 c1) (.slice A2 n2 c2) (.slice A3 n3 c3) (.slice A4 n4 c4), fV (1, 0), .int .u64 0]) (by simp [results, Tryz.results11, go_sem, zp, zr, p0, p1, p2, p3, p4, p5, p6, p7, p8, r0, r1, fV, xV]) rfl ?_
  have hkp : ∀ l1 u1 u2, Kp (fun k => k = w.heap.size + 1 + 1 ∨ k = w.heap.size + 1 + 1 + 1) W ((W.setCells (w.heap.size + 1 + 1) 0 l1).setCell ⟨w.heap.size + 1 + 1 + 1, 0, none⟩ u1 |>.setCell ⟨w.heap.size + 1 + 1 + 1, 1, none⟩ u2) := fun l1 u1 u2 => (((Kp.refl (fun k => k = w.heap.size + 1 + 1 ∨ k = w.heap.size + 1 + 1 + 1) W).setCells (.inl (.inl rfl)) 0 l1).setCell (.inl (.inr rfl)) _).setCell (.inl (.inr rfl)) _
  rw [set9_eq]
  generalize hY : World.setCell _ _ _ = Y
  have hbel : Below w.heap.size w Y := by rw [← hY]; exact Kp.toBelow (hkp _ _ _) HB0.out HB0.out.size (fun k hk => by omega)
  exact ⟨by rw [HF.out]; rfl, hbel⟩
 ·have d8 : ((va : Int) % 8 != 0) = true := by simp; omega
  rw [if_neg h8] at hF
  have HF : Hid ((5, 0) = F) := hF
  clear hF h8
  have BX := HXB.out
  have x0 := BX.at 0 _ rfl
  have x1 := BX.at 1 _ rfl
  have x2 := BX.at 2 _ rfl
  have x3 := BX.at 3 _ rfl
  have x4 := BX.at 4 _ rfl
  have x5 := BX.at 5 _ rfl
  have x6 := BX.at 6 _ rfl
  have x7 := BX.at 7 _ rfl
  have x8 := BX.at 8 _ rfl
  have fx := BX.2.1
  have zx := BX.2.2
  have BP := H6B.out
  have p0 := BP.at 0 _ rfl
  have p1 := BP.at 1 _ rfl
  have p2 := BP.at 2 _ rfl
  have p3 := BP.at 3 _ rfl
  have p4 := BP.at 4 _ rfl
  have p5 := BP.at 5 _ rfl
  have p6 := BP.at 6 _ rfl
  have p7 := BP.at 7 _ rfl
  have p8 := BP.at 8 _ rfl
  have fp := BP.2.1
  have zp := BP.2.2
  have BR := H7B.out
  have r0 := BR.at 0 _ rfl
  have r1 := BR.at 1 _ rfl
  have fr := BR.2.1
  have zr := BR.2.2
  clear BX BP BR fx
  go_wp2
  refine bodyPost_ret (v := .tuple #[xV sz most root asid false (.slice A1 n1 c1) (.slice A2 n2 c2) (.slice A3 n3 c3) (.slice A4 n4 c4), fV (5, 0), .int .u64 0]) (by simp [results, Tryz.results11, go_sem, zp, zr, p0, p1, p2, p3, p4, p5, p6, p7, p8, r0, r1, fV, xV]) rfl ?_
  have hkp : ∀ l1 u1 u2, Kp (fun k => k = w.heap.size + 1 + 1 ∨ k = w.heap.size + 1 + 1 + 1) W ((W.setCells (w.heap.size + 1 + 1) 0 l1).setCell ⟨w.heap.size + 1 + 1 + 1, 0, none⟩ u1 |>.setCell ⟨w.heap.size + 1 + 1 + 1, 1, none⟩ u2) := fun l1 u1 u2 => (((Kp.refl (fun k => k = w.heap.size + 1 + 1 ∨ k = w.heap.size + 1 + 1 + 1) W).setCells (.inl (.inl rfl)) 0 l1).setCell (.inl (.inr rfl)) _).setCell (.inl (.inr rfl)) _
  rw [set9_eq]
  generalize hY : World.setCell _ _ _ = Y
  have hbel : Below w.heap.size w Y := by rw [← hY]; exact Kp.toBelow (hkp _ _ _) HB0.out HB0.out.size (fun k hk => by omega)
  exact ⟨by rw [HF.out]; rfl, hbel⟩
end Go.Proofs.YtbapgngngaaojaaGreat
namespace Go.Proofs.YtbapgngngaaojaaGreat
open Go.RowKit Go.Lib
set_option maxRecDepth 100000
def zY : Yr := ⟨0, 0, 0, 0, false, [], [], [], []⟩
def zQ : Sl := ⟨none, 0, none, 0, none, 0, none, 0⟩
theorem YAt.zero (ok : Nat → Prop) (w : World) : YAt ok zY zQ w := ⟨RowAt.nil _ _ _, RowAt.nil _ _ _, RowAt.nil _ _ _, RowAt.nil _ _ _⟩
def FPost (x m pt pk : Nat) (B : Nat → Prop) (w0 w : World) (e : Ending) (w' : World) : Prop :=
 ∃ v s' PS' pv' B', e = .returned v ∧ MB x m pt pk pv' s' B' w0 w' ∧ RowAt w' B' 4 pv' PS'.length (rowL pL PS') ∧ PS'.length ≤ 8 ∧ (∀ p ∈ PS', p.1 < 18446744073709551616) ∧ (∀ k, B k → B' k) ∧ Kp (KB B w0) w w'
section
variable {x m pt pk : Nat} {pv : Value} {s S : St} {B : Nat → Prop} {w0 w w' : World} {PS : List Pl} {y : Yr} {b : Bool} {e : Ending}
theorem StepQ.fl (hp : RowAt w B 4 pv PS.length (rowL pL PS)) (hl : PS.length ≤ 8) (hb : ∀ p ∈ PS, p.1 < 18446744073709551616) (h : StepQ x m pt pk pv B w0 S y b w e w') : FPost x m pt pk B w0 w e w' := by
 obtain ⟨q, B', he, hm, -, hs, hk⟩ := h
 exact ⟨_, S, PS, pv, B', he, hm, (hp.kept hk (fun k z f => f.1 z)).mono (fun k _ z => hs k z), hl, hb, hs, hk⟩
theorem mayP_zero (a : Nat) : mayP 0 a ≠ 0 := by
 intro h
 have := (mayP_ok h).2
 omega
theorem left_nil {α : Type} (all : Bool) (n : Int) : leftL all n ([] : List α) = [] := List.eq_nil_of_length_eq_zero (Nat.le_zero.1 (leftL_len all n []))
theorem step_fl (h : MB x m pt pk pv s B w0 w) (hp : RowAt w B 4 pv PS.length (rowL pL PS)) (hl : PS.length ≤ 8) (hb : ∀ p ∈ PS, p.1 < 18446744073709551616) (kind sort n : Int) (va wd : Nat) (hva : va < 18446744073709551616) (hwd : wd < 18446744073709551616) (f l k : Bool) :
  Calls Tryz.prog 14 #[.pointer (some ⟨x, 0, none⟩), yV zY zQ, .agg #[.int .i64 kind, .int .i64 sort, .int .i64 n, .int .u64 va, .int .u64 wd, .bool f, .bool l, .bool k]] w (FPost x m pt pk B w0 w) := by
 by_cases h1 : kind = 1
 ·subst h1
  refine (stepq_access h zY zY zQ sort n va wd hva hwd f l k (YAt.zero _ _) (if va % 8 = 0 then ((1, 0) : Nat × Nat) else (5, 0)).1 (if va % 8 = 0 then ((1, 0) : Nat × Nat) else (5, 0)).2 0 (fun u _ _ => ?_)).mono (fun e w' q => q.fl hp hl hb)
  exact (rxaccess_off 0 0 0 0 va wd sort f l k none none none none 0 0 0 0 0 0 0 0 u).mono (fun e w' q => ⟨zQ, q.1, YAt.zero _ _, q.2⟩)
 by_cases h2 : kind = 2
 ·subst h2
  refine (stepq_guess h zY zY zQ sort n va wd hva f l k (YAt.zero _ _) (fun u _ _ => ?_)).mono (fun e w' q => q.fl hp hl hb)
  exact (rguess_off 0 0 0 0 va f l k none none none none 0 0 0 0 0 0 0 0 u).mono (fun e w' q => ⟨zQ, q.1, YAt.zero _ _, q.2⟩)
 by_cases h3 : kind = 3
 ·subst h3
  refine (stepq_mem h zY zQ sort n va wd hva hwd f l k (YAt.zero _ _) (mayP 0 va) [] (fun u _ _ => ?_)).mono (fun e w' q => q.fl hp hl hb)
  refine (rwrite_nat 0 va wd [] none 0 u hva (by simp) (RowAt.nil u (fun _ => False) 2).rd).mono (fun e w' q => ?_)
  exact ⟨none, 0, (q.1.resolve_right (fun z => mayP_zero va z.1)).2, RowAt.nil _ _ _, q.2⟩
 by_cases h4 : kind = 4
 ·subst h4
  refine (stepq_evict h zY zY zQ sort n va wd f l k (YAt.zero _ _) (fun u _ _ => ?_) _ _ rfl rfl).mono (fun e w' q => q.fl hp hl hb)
  refine (rxdrop_nat 0 0 0 0 false [] [] n false none none none none 0 0 0 0 0 0 u (by simp) (by simp) (RowAt.nil u (fun _ => False) 10).rd (RowAt.nil u (fun _ => False) 4).rd).mono (fun e w' q => ?_)
  rw [left_nil, left_nil] at q
  obtain ⟨A2, c2, A3, c3, he, g2, g3, hbl⟩ := q
  exact ⟨⟨none, 0, A2, c2, A3, c3, none, 0⟩, he, ⟨RowAt.nil _ _ _, g2.mono (fun _ _ z => .inr z), g3.mono (fun _ _ z => .inr z), RowAt.nil _ _ _⟩, hbl⟩
 by_cases h5 : kind = 5
 ·subst h5
  refine (stepq_lose h zY zY zQ sort n va wd f l k (YAt.zero _ _) (fun u _ _ => ?_) _ _ rfl rfl).mono (fun e w' q => q.fl hp hl hb)
  refine (rxdrop_nat 0 0 0 0 false [] [] n true none none none none 0 0 0 0 0 0 u (by simp) (by simp) (RowAt.nil u (fun _ => False) 10).rd (RowAt.nil u (fun _ => False) 4).rd).mono (fun e w' q => ?_)
  rw [left_nil, left_nil] at q
  obtain ⟨A2, c2, A3, c3, he, g2, g3, hbl⟩ := q
  exact ⟨⟨none, 0, A2, c2, A3, c3, none, 0⟩, he, ⟨RowAt.nil _ _ _, g2.mono (fun _ _ z => .inr z), g3.mono (fun _ _ z => .inr z), RowAt.nil _ _ _⟩, hbl⟩
 have CF : ∀ (a : Int) (one : Bool) (v : Nat) (hv : v < 18446744073709551616) u, Calls Tryz.prog 46 #[yV zY zQ, .int .i64 a, .bool one, .int .u64 v] u (YP B zY (fun v => v) u) := fun a one v hv u => by
  refine (rxflush_nat 0 0 0 0 false [] [] a one v none none none none 0 0 0 0 0 0 u hv (by simp) (by simp) (by simp) (by simp) (RowAt.nil u (fun _ => False) 10).rd (RowAt.nil u (fun _ => False) 4).rd).mono (fun e w' q => ?_)
  obtain ⟨A2, c2, A3, c3, he, g2, g3, hbl⟩ := q
  exact ⟨⟨none, 0, A2, c2, A3, c3, none, 0⟩, he, ⟨RowAt.nil _ _ _, g2.mono (fun _ _ z => .inr z), g3.mono (fun _ _ z => .inr z), RowAt.nil _ _ _⟩, hbl⟩
 by_cases h6 : kind = 6
 ·subst h6
  exact (stepq_flushva h zY zY zQ sort n va wd hva f l k (YAt.zero _ _) (fun u _ _ => CF n true va hva u)).mono (fun e w' q => q.fl hp hl hb)
 by_cases h7 : kind = 7
 ·subst h7
  by_cases hn : n < 0
  ·refine (step_flushneg h 0 0 0 0 false none none none none 0 0 0 0 0 0 0 0 sort n hn va wd f l k).mono (fun e w' q => ?_)
   exact ⟨_, s, PS, pv, B, q.1, q.2.1, hp.kept q.2.2 (fun k z f => f.1 z), hl, hb, fun k z => z, q.2.2⟩
  ·exact (stepq_flushas h zY zY zQ sort n va wd hva f l k (decide_eq_false hn) (YAt.zero _ _) (fun u _ _ => CF n false 0 (by omega) u)).mono (fun e w' q => q.fl hp hl hb)
 by_cases h8 : kind = 8
 ·subst h8
  exact (stepq_flushall h zY zY zQ sort n va wd hva f l k (YAt.zero _ _) (fun u _ _ => CF (-1) false 0 (by omega) u)).mono (fun e w' q => q.fl hp hl hb)
 by_cases h9 : kind = 9
 ·subst h9
  by_cases hg : wd % 4096 = 0 ∧ wd < 72057594037927936
  ·exact (stepq_set h zY zQ sort n va wd hwd f l k (YAt.zero _ _) hg).mono (fun e w' q => q.fl hp hl hb)
  ·exact (stepq_setbad h zY zQ sort n va wd hwd f l k (YAt.zero _ _) hg).mono (fun e w' q => q.fl hp hl hb)
 by_cases h10 : kind = 10
 ·subst h10
  refine (step_off h 0 0 0 0 false none none none none 0 0 0 0 0 0 0 0 sort n va wd f l k).mono (fun e w' q => ?_)
  exact ⟨_, { s with reg := none }, PS, pv, B, q.1, q.2.1, hp.kept q.2.2 (fun k z f => f.1 z), hl, hb, fun k z => z, q.2.2⟩
 by_cases h11 : kind = 11
 ·subst h11
  by_cases hn : n < 0
  ·refine (stepq_plan0 h zY zQ sort n va wd f l k (YAt.zero _ _) (decide_eq_true hn) _ rfl).mono (fun e w' q => ?_)
   obtain ⟨q, B', pv', he, hm, hr, -, hs, hk⟩ := q
   exact ⟨_, s, ([] : List Pl), pv', B', he, hm, hr, by simp, fun p (hp : p ∈ ([] : List Pl)) => (List.not_mem_nil hp).elim, hs, hk⟩
  ·refine (stepq_plan h zY zQ sort n va wd f l k (YAt.zero _ _) (decide_eq_false hn) _ rfl).mono (fun e w' q => ?_)
   obtain ⟨q, B', pv', he, hm, hr, -, hs, hk⟩ := q
   refine ⟨_, s, _, pv', B', he, hm, hr, by simp, fun p hp => ?_, hs, hk⟩
   rcases List.mem_cons.1 hp with rfl | hp
   ·exact hva
   ·rcases List.mem_cons.1 hp with rfl | hp
    ·exact Nat.mod_lt _ (by omega)
    ·cases hp
 by_cases h12 : kind = 12
 ·subst h12
  refine (stepq_write h zY zY zQ sort n va wd f l k (YAt.zero _ _) (writeG s PS va wd).2 (mayP 0 va) (fun u hm hbl => hm.writeG ((hp.below hbl).mono (fun k _ z => .inl z)) hb hl va wd hva hwd) (fun u _ _ => ?_)).mono (fun e w' q => q.fl hp hl hb)
  refine (rxwrite_bad (ok := B) 0 0 0 0 va wd false [] [] s none none none none 0 0 0 0 0 0 0 u hva (by simp) (mayP_zero va) (RowAt.nil u (fun _ => False) 2).rd).mono (fun e w' q => ?_)
  exact ⟨zQ, (q.1.resolve_right (fun z => mayP_zero va z.1)).2, YAt.zero _ _, q.2⟩
 ·refine (step_none h 0 0 0 0 false none none none none 0 0 0 0 0 0 0 0 kind sort n (by omega) va wd f l k).mono (fun e w' q => ?_)
  exact ⟨_, s, PS, pv, B, q.1, q.2.1, hp.kept q.2.2 (fun k z f => f.1 z), hl, hb, fun k z => z, q.2.2⟩
end
end Go.Proofs.YtbapgngngaaojaaGreat
namespace Go.Proofs.YtbapgngngaaojaaGreat
open Go.RowKit Go.Lib
/-- Nothing of an ASID is remembered. -/
def FreeOf (s : St) (a : Nat) : Prop := (∀ e ∈ s.es, e.asid ≠ a) ∧ ∀ k ∈ s.ks, k.asid ≠ a
theorem FreeOf.flushAs (s : St) (a : Nat) : FreeOf (flushAsM s a) a := by
 refine ⟨fun e he hn => ?_, fun k hk hn => ?_⟩
 ·have h := (List.mem_filter.1 he).2
  simp [asE, hn] at h
 ·have h := (List.mem_filter.1 hk).2
  simp [asM, hn] at h
theorem FreeOf.flushAll (s : St) (a : Nat) : FreeOf (flushAllM s) a := ⟨fun e he => (by cases he), fun k hk => (by cases hk)⟩
theorem FreeOf.sound {s : St} {r a : Nat} (h : FreeOf s a) (hr : s.reg = some (r, a)) : soundM s = true := by
 unfold soundM
 rw [hr]
 dsimp only
 have h1 : s.es.any (badE s r a) = false := by
  rw [List.any_eq_false]
  intro e he
  simp [badE, h.1 e he]
 have h2 : s.ks.any (badK s r a) = false := by
  rw [List.any_eq_false]
  intro k hk
  simp [badK, h.2 k hk]
 rw [h1, h2]
 rfl
theorem match_far {a0 va0 level va : Nat} {a : Nat} (h : a0 ≠ a) : matchP a0 va0 level (a : Int) va = false := by
 unfold matchP
 have : ((a0 : Int) == (a : Int)) = false := by rw [beq_eq_false_iff_ne]; omega
 rw [this, Bool.false_and]
theorem FreeOf.find {s : St} {a : Nat} (h : FreeOf s a) (va : Nat) : (findP s.es a va).2 = 0 := by
 unfold findP
 dsimp only
 rw [List.countP_eq_zero]
 intro e he
 have : matE a va e = false := match_far (h.1 e he)
 simp [this]
theorem FreeOf.best {s : St} {a : Nat} (h : FreeOf s a) (va : Nat) : bestP s.ks a va = zeroM := by
 unfold bestP
 have key : ∀ l : List Mk, (∀ k ∈ l, k.asid ≠ a) → l.foldl (bestStep (leadM a va)) zeroM = zeroM := by
  intro l
  induction l with
  | nil => intro _; rfl
  | cons k l ih =>
   intro hl
   rw [List.foldl_cons]
   have hk : leadM a va k = false := match_far (hl k List.mem_cons_self)
   have : bestStep (leadM a va) zeroM k = zeroM := by unfold bestStep; rw [hk]; simp
   rw [this]
   exact ih (fun x hx => hl x (List.mem_cons_of_mem _ hx))
 exact key s.ks h.2
theorem FreeOf.begin {s : St} {a r : Nat} (h : FreeOf s a) (va : Nat) (led : Bool) : beginP s r a va led = (0, r) := by
 unfold beginP
 rw [h.best va]
 rfl
/-- The leaf is the walk's. -/
theorem FreeOf.leaf {s : St} {a r : Nat} (h : FreeOf s a) (hr : s.reg = some (r, a)) (va : Nat) (led : Bool) (h8 : va % 8 = 0) : leafM s va false led false = (fromP s.sz s.rd 0 r va, s) := by
 unfold leafM
 rw [if_pos h8, hr]
 dsimp only
 rw [if_pos (h.find va)]
 unfold walkM
 rw [h.begin va led]
 simp [keepP, useP]
end Go.Proofs.YtbapgngngaaojaaGreat
