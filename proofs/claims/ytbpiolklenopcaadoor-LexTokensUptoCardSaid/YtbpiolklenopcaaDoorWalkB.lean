/- The walks of layer 2: add, based. -/
import Derived.Test.YtbpiolklenopcaaDoorWalkA
import Derived.Test.YtbpiolklenopcaaDoorShelf
set_option linter.unusedSimpArgs false
set_option linter.unusedVariables false
namespace Go.Proofs.YtbpiolklenopcaaDoor
open Go.RowKit Go.Lib
theorem ret_u64b {a b : Int} {x y : Bool} (h : a = b) (h2 : x = y) : Ending.returned (.tuple #[.int .u64 a, .bool x]) = .returned (.tuple #[.int .u64 b, .bool y]) := by rw [h, h2]
theorem ret_u64e {a b : Int} {x y : Int} (h : a = b) (h2 : x = y) : Ending.returned (.tuple #[.int .u64 a, .int .i64 x]) = .returned (.tuple #[.int .u64 b, .int .i64 y]) := by rw [h, h2]
set_option maxHeartbeats 400000 in
theorem add_any (n base d : Nat) (w : World) (hn : n ≤ mostN) (hb : base = 10 ∨ base = 16) (hd : d ≤ 15) :
    Calls Tryd.prog 30 #[.int .u64 n, .int .u64 base, .int .u64 d] w fun e w' => e = .returned (.tuple #[.int .u64 (if fitsN n base d then n * base + d else 0 : Nat), .bool (fitsN n base d)]) ∧ w = w' := by
  unfold mostN at hn
  rcases hb with rfl | rfl
  all_goals
    cases hf : fitsN n _ d with
    | true =>
      have hf2 := of_decide_eq_true hf
      unfold mostN at hf2
      have HF := Lib.hid hf; clear hf
      go_enter Tryd.func30, Tryd.ntmps30
      go_wp2
      all_goals (go_ret2; exact ⟨ret_u64b rfl rfl, rfl⟩)
    | false =>
      have hf2 := of_decide_eq_false hf
      unfold mostN at hf2
      have HF := Lib.hid hf; clear hf
      go_enter Tryd.func30, Tryd.ntmps30
      go_wp2
      all_goals (go_ret2; exact ⟨ret_u64b rfl rfl, rfl⟩)
end Go.Proofs.YtbpiolklenopcaaDoor
