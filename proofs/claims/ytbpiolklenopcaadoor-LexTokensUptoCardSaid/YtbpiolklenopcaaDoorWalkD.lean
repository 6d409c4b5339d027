/- The walk of layer 2: based. -/
import Derived.Test.YtbpiolklenopcaaDoorWalkC
set_option linter.unusedSimpArgs false
set_option linter.unusedVariables false
namespace Go.Proofs.YtbpiolklenopcaaDoor
open Go.RowKit Go.Lib
def figs : Bs := [48, 49, 50, 51, 52, 53, 54, 55, 56, 57, 97, 98, 99, 100, 101, 102]
def idxV (base c : Nat) : Int := indexByte (figs.take base) (c % 256).toUInt8
theorem idx_figs : ∀ c : Fin 128, idxV 10 c.val = (match digD 10 c.val with | some d => (d : Int) | none => -1) ∧ idxV 16 c.val = (match digD 16 c.val with | some d => (d : Int) | none => -1) := by
  decide +kernel
theorem idx_eq {base c : Nat} (hb : base = 10 ∨ base = 16) (hc : c < 128) : idxV base c = (match digD base c with | some d => (d : Int) | none => -1) := by
  rcases hb with rfl | rfl
  · exact (idx_figs ⟨c, hc⟩).1
  · exact (idx_figs ⟨c, hc⟩).2
theorem digD_le {base c d : Nat} (h : digD base c = some d) : d ≤ 15 := by
  unfold digD at h
  split at h
  · injection h with h; omega
  · split at h
    · injection h with h; omega
    · cases h
theorem idx_any {base c : Nat} {v : Int} (hv : idxV base c = v) (S : ByteArray) (x : Int) (w : World) (hS : S.data.toList = figs.take base) (hx : x.toNat = c % 256) :
    Calls Tryd.prog 27 #[.string S, .int .u8 x] w fun e w' => e = .returned (.int .i64 v) ∧ w = w' :=
  (Tryd.strings_IndexByte S x w).mono fun e w' ⟨h1, h2⟩ => ⟨by
    rw [h1, hS, hx, ← hv]
    rfl, h2.symm⟩
set_option maxRecDepth 100000 in
set_option maxHeartbeats 2000000 in
theorem based_any (base : Nat) (s : ByteArray) (qs : List Ch) (w : World) (hbase : base = 10 ∨ base = 16) (hq : AllPc qs) (hs : Hid (s.data.toList = bytesOf qs)) (hm : s.size ≤ 9223372036854775807) :
    Calls Tryd.prog 24 #[.string s, .int .i64 base] w fun e w' => e = .returned (.tuple #[.int .u64 (basedC base (charsOf qs) 0 true false).1, .int .i64 (basedC base (charsOf qs) 0 true false).2]) ∧ Below w.heap.size w w' := by
  go_enter Tryd.func24, Tryd.ntmps24
  go_wp2
  go_loopw [6, 7, 8] (fun nv fv lv wr => ∃ (d t : List Ch) (n : Nat) (fits : Bool) (last : Nat), wr = w.iter s (bytesOf d).length ∧ nv = .int .u64 n ∧ fv = .bool fits ∧ lv = .int .i32 last ∧ n ≤ mostN ∧ Hid (qs = d ++ t) ∧ Hid (basedC base (charsOf qs) 0 true false = basedC base (charsOf t) n fits (decide (last ≠ 95)))) (fun _ _ _ wr => s.size - wr.iterPos w.heap.size)
  case atStart => exact ⟨[], qs, 0, true, 95, rfl, rfl, rfl, rfl, by unfold mostN; omega, rfl, rfl⟩
  case round =>
    obtain ⟨d, t, n, fits, last, rfl, rfl, rfl, rfl, hn, HQ, HR⟩ := hrel
    cases t with
    | nil =>
      have hz := size_chars hs
      rw [HQ, List.append_nil] at hz
      have hnx : ∀ ty, (Instr.next (.pointer (some ⟨w.heap.size, 0, none⟩)) true ty).run Tryd.prog (w.iter s (bytesOf d).length) = _ := fun ty => run_next_end w s _ ty (by omega)
      clear hz
      by_cases hl : last = 95
      · subst hl
        go_wp2
        go_ret2
        exact ⟨by rw [HR]; rfl, (Below.refl _ _).alloc (Nat.le_refl _) _⟩
      · cases fits with
        | true =>
          go_wp2
          go_ret2
          exact ⟨by rw [HR]; simp [basedC, charsOf, hl], (Below.refl _ _).alloc (Nat.le_refl _) _⟩
        | false =>
          go_wp2
          go_ret2
          exact ⟨by rw [HR]; simp [basedC, charsOf, hl], (Below.refl _ _).alloc (Nat.le_refl _) _⟩
    | cons q t =>
      obtain ⟨c, p⟩ := q
      have hp : PcOk (c, p) := hq _ (by rw [HQ]; simp)
      obtain ⟨h1, h2⟩ := next_at s d (c, p) t hp (by rw [hs, HQ])
      have hnx : ∀ ty, (Instr.next (.pointer (some ⟨w.heap.size, 0, none⟩)) true ty).run Tryd.prog (w.iter s (bytesOf d).length) = _ := fun ty => run_next_any w s _ ty h2
      rw [h1] at hnx
      have hl2 : 1 ≤ p.length := pc_len hp
      have hcr : c ≤ 1114111 := pc_rune hp
      clear h1
      have HQ2 : Hid (qs = (d ++ [(c, p)]) ++ t) := by unfold Hid; rw [HQ]; simp
      have hb2 : (bytesOf (d ++ [(c, p)])).length = (bytesOf d).length + p.length := by rw [bytesOf_append, List.length_append, bytesOf_cons, bytesOf_nil, List.append_nil]
      have HB2 := Lib.hid hb2; clear hb2
      have hst : basedC base (charsOf ((c, p) :: t)) n fits (decide (last ≠ 95)) = if c = 95 ∧ decide (last ≠ 95) = true then basedC base (charsOf t) n fits false
        else match digD base c with
          | none => (0, 61)
          | some d => basedC base (charsOf t) (if fitsN n base d then n * base + d else 0) (fits && fitsN n base d) true := rfl
      have HR1 : Hid (basedC base (charsOf qs) 0 true false = _) := HR.trans hst
      clear hst HR
      by_cases h95 : c = 95
      · subst h95
        by_cases hl : last = 95
        · subst hl
          have HR2 : Hid (basedC base (charsOf qs) 0 true false = (0, 61)) := by
            unfold Hid; rw [HR1]; simp [digD]
          clear HR1
          have hi : idxV base 95 = -1 := by rw [idx_eq hbase (by omega)]; simp [digD]
          have HI := Lib.hid (idx_any hi); clear hi
          rcases hbase with rfl | rfl
          all_goals
            go_wp2_with (go_at_call 27; refine (HI.out _ _ _ (by rfl) (by omega)).mono ?_; rintro e w' ⟨rfl, rfl⟩)
            go_ret2
            exact ⟨by rw [HR2]; rfl, (Below.refl _ _).alloc (Nat.le_refl _) _⟩
        · have HR2 : Hid (basedC base (charsOf qs) 0 true false = basedC base (charsOf t) n fits (decide (95 ≠ 95))) := by
            unfold Hid; rw [HR1]; simp [hl]
          clear HR1
          go_wp2
          go_roundw
          case rel => exact ⟨d ++ [(95, p)], t, n, fits, 95, by rw [HB2.out], rfl, rfl, rfl, hn, HQ2, HR2⟩
          case measure => simp; omega
      · rw [if_neg (by simp [h95])] at HR1
        cases hd : digD base c with
        | none =>
          have HR2 : Hid (basedC base (charsOf qs) 0 true false = (0, 61)) := by
            unfold Hid; rw [HR1, hd]
          clear HR1
          by_cases h128 : 128 ≤ c
          · clear hd
            have HI := Lib.hid (idx_any (rfl : idxV base c = idxV base c))
            rcases hbase with rfl | rfl
            all_goals
              go_wp2_with (go_at_call 27; refine (HI.out _ _ _ (by rfl) (by omega)).mono ?_; rintro e w' ⟨rfl, rfl⟩)
              go_ret2
              exact ⟨by rw [HR2]; rfl, (Below.refl _ _).alloc (Nat.le_refl _) _⟩
          · have hi : idxV base c = -1 := by rw [idx_eq hbase (by omega), hd]
            have HI := Lib.hid (idx_any hi); clear hi hd
            rcases hbase with rfl | rfl
            all_goals
              go_wp2_with (go_at_call 27; refine (HI.out _ _ _ (by rfl) (by omega)).mono ?_; rintro e w' ⟨rfl, rfl⟩)
              go_ret2
              exact ⟨by rw [HR2]; rfl, (Below.refl _ _).alloc (Nat.le_refl _) _⟩
        | some dd =>
          have h128 : c < 128 := by
            unfold digD at hd
            split at hd
            · omega
            · split at hd
              · omega
              · cases hd
          have hdd := digD_le hd
          have hi : idxV base c = (dd : Int) := by rw [idx_eq hbase h128, hd]
          have HR2 : Hid (basedC base (charsOf qs) 0 true false = basedC base (charsOf t) (if fitsN n base dd then n * base + dd else 0) (fits && fitsN n base dd) (decide (c ≠ 95))) := by
            unfold Hid; rw [HR1, hd]; simp [h95]
          have hn2 : (if fitsN n base dd then n * base + dd else 0) ≤ mostN := by
            split
            · rename_i hh; exact of_decide_eq_true hh
            · unfold mostN; omega
          have HI := Lib.hid (idx_any hi); clear hi hd HR1
          have HA := fun w => add_any n base dd w hn hbase hdd
          generalize (if fitsN n base dd then n * base + dd else 0) = n2 at HR2 hn2 HA
          generalize fitsN n base dd = f2 at HR2 HA
          have HB := Lib.hid HA; clear HA
          rcases hbase with rfl | rfl
          all_goals
            cases fits
            all_goals
              go_wp2_with (first | (go_at_call 27; refine (HI.out _ _ _ (by rfl) (by omega)).mono ?_; rintro e w' ⟨rfl, rfl⟩) | (go_at_call 30; refine (HB.out _).mono ?_; rintro e w' ⟨rfl, rfl⟩))
              go_roundw
              case rel => ((repeat apply Exists.intro); exact ⟨⟨d ++ [(c, p)], t, n2, _, c, by rw [HB2.out], rfl, rfl, rfl, hn2, HQ2, HR2⟩, rfl⟩)
              case measure => simp; omega
end Go.Proofs.YtbpiolklenopcaaDoor
