/- The walk of layer 2's example. -/
import Derived.Test.YtbpiolklenopcaaDoorWalkH
import Derived.Deep.AppendLies
import Derived.Laws.OwnMore
import Derived.Laws.StructEq
set_option linter.unusedSimpArgs false
set_option linter.unusedVariables false
namespace Go.Proofs.YtbpiolklenopcaaDoor
open Go.RowKit Go.Lib
def exS : ByteArray := ⟨#[109, 97, 112, 32, 103, 114, 195, 182, 195, 159, 101, 32, 48, 120, 49, 95, 102, 32, 35, 32, 97, 108, 108]⟩
def exQ : List Ch := [(109, [109]), (97, [97]), (112, [112]), (32, [32]), (103, [103]), (114, [114]), (246, [195, 182]), (223, [195, 159]), (101, [101]), (32, [32]), (48, [48]), (120, [120]), (49, [49]), (95, [95]), (102, [102]), (32, [32]), (35, [35]), (32, [32]), (97, [97]), (108, [108]), (108, [108])]
theorem pc_two (c : Nat) (a b : UInt8) (h0 : a.toNat / 32 = 6) (h1 : b.toNat / 64 = 2) (hv : 128 ≤ a.toNat % 32 * 64 + b.toNat % 64) (hc : c = a.toNat % 32 * 64 + b.toNat % 64) : PcOk (c, [a, b]) := by
  refine ⟨by simp, by simp, fun rest => ?_⟩
  rw [decodeL_N]
  subst hc
  exact dec2 (n := ([a, b] ++ rest).length) (b2 := (([a, b] ++ rest).getD 2 0).toNat) (b3 := (([a, b] ++ rest).getD 3 0).toNat) (by simp) h0 h1 hv
theorem exQ_all : AllPc exQ := by
  intro q hq
  simp only [exQ, List.mem_cons, List.not_mem_nil, or_false] at hq
  rcases hq with rfl | rfl | rfl | rfl | rfl | rfl | rfl | rfl | rfl | rfl | rfl | rfl | rfl | rfl | rfl | rfl | rfl | rfl | rfl | rfl | rfl
  all_goals first
    | exact pc_of_ascii _ (by decide)
    | exact pc_two _ _ _ (by decide) (by decide) (by decide) (by decide)
theorem exS_bytes : exS.data.toList = bytesOf exQ := by decide
theorem exT : tokF (charsOf exQ) 0 = ([⟨1, 0, 3, 0⟩, ⟨1, 4, 5, 0⟩, ⟨2, 10, 5, 31⟩], 0, 0) := by rfl
theorem exRow : rowOf exQ [⟨1, 0, 3, 0⟩, ⟨1, 4, 5, 0⟩, ⟨2, 10, 5, 31⟩] = [.int .i64 1, .string ⟨#[109, 97, 112]⟩, .int .u64 0, .int .i64 0, .int .i64 1, .string ⟨#[103, 114, 195, 182, 195, 159, 101]⟩, .int .u64 0, .int .i64 4, .int .i64 2, .string ⟨#[48, 120, 49, 95, 102]⟩, .int .u64 31, .int .i64 10] := by rfl
set_option maxRecDepth 100000 in
set_option maxHeartbeats 2000000 in
theorem anchor_any (w : World) (hT : Tabs w) :
    Calls Tryd.prog 7 #[] w fun e w' => e = .returned (.bool true) ∧ Below w.heap.size w w' := by
  have c1 := tokens_told exS exQ w hT exQ_all exS_bytes (by decide)
  rw [exT] at c1
  unfold exS at c1
  have C1 := Lib.hid c1
  clear c1
  go_enter Tryd.func7, Tryd.ntmps7
  go_wp2_with fail
  refine C1.out.mono ?_
  rintro e w1 ⟨v, rfl, hown, hb⟩
  rw [exRow] at hown
  obtain ⟨g, cap, rfl, _, _⟩ := World.ownsRow.form hown (by show 0 < 3; omega)
  have hc : ∀ j (h : j < 12), w1.cell? ⟨g, j, none⟩ = _ := fun j h => World.ownsRow.cellAt hown j (by show j < 3 * 4; omega)
  have k4 := hc 4 (by omega)
  have k5 := hc 5 (by omega)
  have k6 := hc 6 (by omega)
  have k7 := hc 7 (by omega)
  have k10 := hc 10 (by omega)
  have k11 := hc 11 (by omega)
  simp only [List.getElem?_cons_succ, List.getElem?_cons_zero] at k4 k5 k6 k7 k10 k11
  clear hc hown C1
  go_wp2
  go_ret
  refine ⟨ret_bool ?_, hb⟩
  first | rfl | decide | simp
end Go.Proofs.YtbpiolklenopcaaDoor
