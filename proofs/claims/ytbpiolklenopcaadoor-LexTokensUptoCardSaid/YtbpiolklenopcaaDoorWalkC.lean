/- The walks of layer 2: Told, Count, based. -/
import Derived.Test.YtbpiolklenopcaaDoorWalkB
set_option linter.unusedSimpArgs false
set_option linter.unusedVariables false
namespace Go.Proofs.YtbpiolklenopcaaDoor
open Go.RowKit Go.Lib
def Tabs (w : World) : Prop := Lib.Utf8Tabs 0 1 w
theorem Tabs.below {w w' : World} (h : Tabs w) (hb : Below w.heap.size w w') : Tabs w' := by
  have lt : ∀ b c v, w.cell? ⟨b, c, none⟩ = some v → w'.cell? ⟨b, c, none⟩ = some v := fun b c v hc =>
    (hb.cell (p := ⟨b, c, none⟩) (World.block_lt_of_cell? w _ hc)).trans hc
  exact ⟨fun c hc => lt _ _ _ (h.1 c hc), fun i hi => ⟨lt _ _ _ (h.2 i hi).1, lt _ _ _ (h.2 i hi).2⟩⟩
set_option maxHeartbeats 400000 in
theorem told_any (s : ByteArray) (w : World) (hT : Tabs w) (hs : s.size ≤ 9223372036854775807) :
    Calls Tryd.prog 12 #[.string s] w fun e w' => e = .returned (.bool (validD s.data.toList)) ∧ Below w.heap.size w w' := by
  have c1 := Tryd.utf8_ValidString s w hs hT
  generalize validD s.data.toList = V at c1 ⊢
  have C1 := Lib.hid c1; clear c1
  go_enter Tryd.func12, Tryd.ntmps12
  go_wp2_with (go_at_call 22; refine C1.out.mono ?_; rintro e w' ⟨rfl, hb⟩)
  go_ret
  exact ⟨rfl, hb⟩
/-- A told text's characters are counted. -/
theorem count_told (s : ByteArray) (qs : List Ch) (w : World) (hT : Tabs w) (hq : AllPc qs) (hs : Hid (s.data.toList = bytesOf qs)) (hm : s.size ≤ 9223372036854775807) :
    Calls Tryd.prog 10 #[.string s] w fun e w' => e = .returned (.int .i64 qs.length) ∧ Below w.heap.size w w' := by
  have c1 := told_any s w hT hm
  rw [hs, valid_of qs hq] at c1
  have C1 := Lib.hid c1; clear c1
  have hlen : ∀ qs : List Ch, AllPc qs → qs.length ≤ (bytesOf qs).length := by
    intro qs hq
    induction qs with
    | nil => simp
    | cons q t ih =>
      have := pc_len hq.head
      have := ih hq.tail
      rw [bytesOf_cons, List.length_append, List.length_cons]
      omega
  have hl := hlen qs hq
  rw [← size_chars hs] at hl
  clear hlen
  go_enter Tryd.func10, Tryd.ntmps10
  go_wp2_with (go_at_call 12; refine C1.out.mono ?_; rintro e w1 ⟨rfl, hb1⟩)
  clear C1
  go_loopw [3] (fun n wr => ∃ (d t : List Ch), wr = w1.iter s (bytesOf d).length ∧ Hid (qs = d ++ t) ∧ d.length ≤ qs.length ∧ n = .int .i64 (d.length : Nat)) (fun _ wr => s.size - wr.iterPos w1.heap.size)
  case atStart => exact ⟨[], qs, rfl, rfl, by simp, rfl⟩
  case round =>
    obtain ⟨d, t, rfl, HQ, hdl, rfl⟩ := hrel
    cases t with
    | nil =>
      have hz := size_chars hs
      rw [HQ, List.append_nil] at hz
      have hnx : ∀ ty, (Instr.next (.pointer (some ⟨w1.heap.size, 0, none⟩)) true ty).run Tryd.prog (w1.iter s (bytesOf d).length) = _ := fun ty => run_next_end w1 s _ ty (by omega)
      clear hz
      go_wp2
      go_ret
      refine ⟨ret_int ?_, hb1.alloc hb1.size _⟩
      rw [HQ, List.append_nil]
    | cons q t =>
      have hp : PcOk q := hq q (by rw [HQ]; simp)
      obtain ⟨h1, h2⟩ := next_at s d q t hp (by rw [hs, HQ])
      have hnx : ∀ ty, (Instr.next (.pointer (some ⟨w1.heap.size, 0, none⟩)) true ty).run Tryd.prog (w1.iter s (bytesOf d).length) = _ := fun ty => run_next_any w1 s _ ty h2
      rw [h1] at hnx
      have hl2 := pc_len hp
      clear h1
      have HQ2 : Hid (qs = (d ++ [q]) ++ t) := by unfold Hid; rw [HQ]; simp
      have hb2 : (bytesOf (d ++ [q])).length = (bytesOf d).length + q.2.length := by rw [bytesOf_append, List.length_append, bytesOf_cons, bytesOf_nil, List.append_nil]
      have HB2 := Lib.hid hb2; clear hb2
      have hdl2 : (d ++ [q]).length ≤ qs.length := by rw [HQ]; simp
      have hdl3 : d.length + 1 ≤ qs.length := by simpa using hdl2
      go_wp2
      go_roundw
      case rel => exact ⟨d ++ [q], t, by rw [HB2.out], HQ2, hdl2, by simp⟩
      case measure => simp; omega
set_option maxHeartbeats 400000 in
theorem count_bad (s : ByteArray) (w : World) (hT : Tabs w) (hs : validD s.data.toList = false) (hm : s.size ≤ 9223372036854775807) :
    Calls Tryd.prog 10 #[.string s] w fun e w' => e = .returned (.int .i64 0) ∧ Below w.heap.size w w' := by
  have c1 := told_any s w hT hm
  rw [hs] at c1
  have C1 := Lib.hid c1; clear c1
  clear hs
  go_enter Tryd.func10, Tryd.ntmps10
  go_wp2_with (go_at_call 12; refine C1.out.mono ?_; rintro e w1 ⟨rfl, hb1⟩)
  go_ret
  exact ⟨rfl, hb1⟩
end Go.Proofs.YtbpiolklenopcaaDoor
