/- The statement LexShows, walked. -/
import Derived.Test.YtbpiolklenopcaaDoorWalkM
import Derived.Laws.BitsAllLaws
set_option linter.unusedSimpArgs false
set_option linter.unusedVariables false
namespace Go.Proofs.YtbpiolklenopcaaDoor
open Go.RowKit Go.Lib
theorem hexW_facts : ∀ (m n : Nat), n ≤ m → n < 16 ^ (hexW n).length ∧ (n ≠ 0 → 16 ^ ((hexW n).length - 1) ≤ n) ∧ ∀ k, k < (hexW n).length → (hexW n)[k]? = some (figs.getD (n / 16 ^ ((hexW n).length - 1 - k) % 16) 0)
  | 0, n, h => by
    obtain rfl : n = 0 := by omega
    rw [hexW_zero]
    exact ⟨by decide, fun h => absurd rfl h, fun k h => by simp at h⟩
  | m + 1, n, h => by
    by_cases h0 : n = 0
    · subst h0
      rw [hexW_zero]
      exact ⟨by decide, fun h => absurd rfl h, fun k h => by simp at h⟩
    · obtain ⟨h1, h2, h3⟩ := hexW_facts m (n / 16) (by omega)
      rw [hexW_step h0]
      have hzl : n / 16 = 0 → (hexW (n / 16)).length = 0 := fun e => by rw [e]; rfl
      generalize hexW (n / 16) = H at h1 h2 h3 hzl
      have hl : (H ++ [figs.getD (n % 16) 0]).length = H.length + 1 := by simp
      refine ⟨?_, fun _ => ?_, fun k hk => ?_⟩
      · rw [hl, Nat.pow_succ]; omega
      · rw [hl, Nat.add_sub_cancel]
        by_cases hz : n / 16 = 0
        · rw [hzl hz]; simp; omega
        · have h4 := h2 hz
          cases hH : H.length with
          | zero => rw [hH] at h1; simp at h1; omega
          | succ q =>
            rw [hH, Nat.add_sub_cancel] at h4
            rw [Nat.pow_succ]
            omega
      · rw [hl, Nat.add_sub_cancel]
        by_cases hk2 : k < H.length
        · rw [List.getElem?_append_left hk2, h3 k hk2]
          rw [show H.length - k = (H.length - 1 - k) + 1 by omega, Nat.pow_succ, Nat.mul_comm, ← Nat.div_div_eq_div_mul]
        · obtain rfl : k = H.length := by rw [hl] at hk; omega
          rw [List.getElem?_append_right (Nat.le_refl _)]
          simp
theorem or_add (x d : Nat) (hd : d < 16) (hx : x * 16 + d < 18446744073709551616) : bits .or .u64 ((x : Int) * 16) (d : Int) = (x : Int) * 16 + d := by
  have h := u64_or_nat (x * 16) d (by omega) (by omega)
  have h2 : x * 16 ||| d = x * 16 + d := by
    have := Nat.shiftLeft_add_eq_or_of_lt (i := 4) (b := d) (by omega) x
    rw [Nat.shiftLeft_eq] at this
    exact this.symm
  rw [h2] at h
  push_cast at h
  exact h
theorem fig_cases : ∀ d : Fin 16, (figs.getD d.val 0).toNat = (if d.val < 10 then 48 + d.val else 87 + d.val) := by decide
theorem fig_val {d : Nat} (h : d < 16) : (figs.getD d 0).toNat = (if d < 10 then 48 + d else 87 + d) := fig_cases ⟨d, h⟩
theorem strOf_get {l : Bs} {i : Nat} {b : UInt8} (h : i < (strOf l).size) (hb : l[i]? = some b) : (strOf l)[i]'h = b := by
  have h1 := data_getElem? (strOf l) i h
  rw [strOf_list, hb] at h1
  exact (Option.some.inj h1).symm
set_option maxRecDepth 100000 in
set_option maxHeartbeats 4000000 in
theorem shows_any (n : Nat) (w : World) (hT : Tabs w) (hn : n ≤ mostN) :
    Calls Tryd.prog 6 #[.int .u64 n] w fun e w' => e = .returned (.bool true) ∧ Below w.heap.size w w' := by
  have C1 := Lib.hid (anchor_any w hT)
  have C2 := Lib.hid (fun w => show_any n w hn)
  clear hT
  unfold mostN at hn
  by_cases h10 : n < 10
  · have hS : (strOf (showW n)).size = 1 := by unfold showW; rw [if_pos h10]; rfl
    have hb : ∀ h, ((strOf (showW n))[0]'h).toNat = 48 + n := fun h => by
      rw [strOf_get h (b := figs.getD n 0) (by unfold showW; rw [if_pos h10]; rfl), fig_val (by omega), if_pos h10]
    generalize strOf (showW n) = S at C2 hS hb
    have hz : 0 < S.size := by omega
    have hb0 := hb hz
    clear hb
    go_enter Tryd.func6, Tryd.ntmps6
    go_wp2_with (first | (go_at_call 7; refine C1.out.mono ?_; rintro e w1 ⟨rfl, hb1⟩) | (go_at_call 16; refine (C2.out _).mono ?_; rintro e w' ⟨rfl, rfl⟩))
    go_ret
    refine ⟨ret_bool ?_, hb1⟩
    simp
    omega
  · have hfn := hexW_facts n n (Nat.le_refl _)
    have hsh : showW n = 48 :: 120 :: hexW n := by unfold showW; rw [if_neg h10]
    rw [hsh] at C2
    clear hsh
    obtain ⟨L, hL⟩ : ∃ L, (hexW n).length = L := ⟨_, rfl⟩
    rw [hL] at hfn
    obtain ⟨f1, f2, f3⟩ := hfn
    have f2 := f2 (by omega)
    have hL1 : 1 ≤ L := by
      cases L with
      | zero => simp at f1; omega
      | succ q => omega
    have hL16 : L ≤ 16 := by
      apply Nat.le_of_not_lt
      intro hk
      have e1 : 16 ^ 16 ≤ 16 ^ (L - 1) := Nat.pow_le_pow_right (by omega) (by omega)
      have e2 : (16 : Nat) ^ 16 = 18446744073709551616 := by decide
      omega
    have hSz : (strOf (48 :: 120 :: hexW n)).size = L + 2 := by rw [strOf_size]; simp [hL]
    have hb0 : ∀ h, ((strOf (48 :: 120 :: hexW n))[0]'h).toNat = 48 := fun h => by rw [strOf_get h (b := 48) rfl]; rfl
    have hb1 : ∀ h, ((strOf (48 :: 120 :: hexW n))[1]'h).toNat = 120 := fun h => by rw [strOf_get h (b := 120) rfl]; rfl
    have hbk : ∀ k (hk : k < L) h, ((strOf (48 :: 120 :: hexW n))[k + 2]'h).toNat = (if n / 16 ^ (L - 1 - k) % 16 < 10 then 48 + n / 16 ^ (L - 1 - k) % 16 else 87 + n / 16 ^ (L - 1 - k) % 16) := fun k hk h => by
      rw [strOf_get h (b := figs.getD (n / 16 ^ (L - 1 - k) % 16) 0) (by simp; exact f3 k hk), fig_val (Nat.mod_lt _ (by omega))]
    generalize strOf (48 :: 120 :: hexW n) = S at C2 hSz hb0 hb1 hbk
    have hz0 : 0 < S.size := by omega
    have hz1 : 1 < S.size := by omega
    have hz2 : 2 < S.size := by omega
    have g0 := hb0 hz0
    have g1 := hb1 hz1
    have g2 := hbk 0 (by omega) (by omega)
    obtain ⟨y0, hy0⟩ : ∃ y0, n / 16 ^ (L - 1 - 0) % 16 = y0 := ⟨_, rfl⟩
    rw [hy0] at g2
    have hy0n : y0 ≠ 0 := by
      rw [← hy0, Nat.sub_zero]
      have e1 : n / 16 ^ (L - 1) < 16 := by
        rw [Nat.div_lt_iff_lt_mul (Nat.pow_pos (by omega)), Nat.mul_comm, ← Nat.pow_succ]
        rw [show (L - 1).succ = L by omega]
        exact f1
      have e2 : 1 ≤ n / 16 ^ (L - 1) := by
        rw [Nat.le_div_iff_mul_le (Nat.pow_pos (by omega))]
        omega
      omega
    have hy016 : y0 < 16 := by rw [← hy0]; exact Nat.mod_lt _ (by omega)
    obtain ⟨b2, hb2⟩ : ∃ b2, (if y0 < 10 then 48 + y0 else 87 + y0) = b2 := ⟨_, rfl⟩
    have hb2n : 48 < b2 ∧ b2 < 256 := by rw [← hb2]; split <;> omega
    rw [hb2] at g2
    obtain ⟨hb2a, hb2b⟩ := hb2n
    have hbb : ((b2 : Int) == 48) = false := by simp; omega
    have hL3 : decide ((L : Int) + 2 < 3) = false := decide_eq_false (by omega)
    have HBK := Lib.hid hbk
    have HF1 := Lib.hid f1
    have HSZ := hSz
    clear hb0 hb1 hbk f1 f2 f3 hL hy0 hb2 hy0n hy016
    go_enter Tryd.func6, Tryd.ntmps6
    go_wp2_with (first | (go_at_call 7; refine C1.out.mono ?_; rintro e w1 ⟨rfl, hb1⟩) | (go_at_call 16; refine (C2.out _).mono ?_; rintro e w' ⟨rfl, rfl⟩))
    go_loop [4, 5] (fun nv iv => ∃ k : Nat, iv = .int .i64 (k + 2 : Nat) ∧ k ≤ L ∧ nv = .int .u64 (n / 16 ^ (L - k) : Nat)) (fun _ iv => L + 2 - (RowKit.intOf iv).toNat)
    case atStart => exact ⟨0, rfl, by omega, by rw [Nat.sub_zero, Nat.div_eq_of_lt HF1.out]; rfl⟩
    case round =>
      obtain ⟨k, rfl, hk, rfl⟩ := hrel
      by_cases hlt : k < L
      · obtain ⟨X, hX⟩ : ∃ X, n / 16 ^ (L - k) = X := ⟨_, rfl⟩
        obtain ⟨Z, hZ⟩ : ∃ Z, n / 16 ^ (L - 1 - k) = Z := ⟨_, rfl⟩
        have hXZ : X = Z / 16 := by
          rw [← hX, ← hZ, Nat.div_div_eq_div_mul, ← Nat.pow_succ]
          rw [show (L - 1 - k).succ = L - k by omega]
        have hZn : Z ≤ n := by rw [← hZ]; exact Nat.div_le_self _ _
        have hby := HBK.out k hlt (by omega)
        rw [hZ] at hby
        have HZ2 : Hid (n / 16 ^ (L - (k + 1)) = Z) := by unfold Hid; rw [← hZ, show L - (k + 1) = L - 1 - k by omega]
        rw [hX]
        obtain ⟨y, hy⟩ : ∃ y, Z % 16 = y := ⟨_, rfl⟩
        rw [hy] at hby
        have hy16 : y < 16 := by omega
        have hsum : X * 16 + y = Z := by omega
        have HS := Lib.hid hsum
        have hor := or_add X y hy16 (by omega)
        have hXs : X * 16 + y ≤ 18446744073709551615 := by omega
        have hin : k + 2 < S.size := by omega
        clear hX hZ hXZ hy
        by_cases hy10 : y < 10
        · rw [if_pos hy10] at hby
          have hor2 : bits .or .u64 ((X : Int) * 16) (48 + (y : Int) - 48) = (X : Int) * 16 + y := by rw [show (48 + (y : Int) - 48) = y by omega]; exact hor
          clear hor hsum hZn
          go_wp2
          go_round
          case rel => exact ⟨k + 1, by first | rfl | go_num, by omega, by rw [HZ2.out, ← HS.out]; first | rfl | go_num | simp⟩
          case measure => simp [RowKit.intOf]; omega
        · rw [if_neg hy10] at hby
          have hor2 : bits .or .u64 ((X : Int) * 16) (87 + (y : Int) - 97 + 10) = (X : Int) * 16 + y := by rw [show (87 + (y : Int) - 97 + 10) = y by omega]; exact hor
          clear hor hsum hZn
          go_wp2
          go_round
          case rel => exact ⟨k + 1, by first | rfl | go_num, by omega, by rw [HZ2.out, ← HS.out]; first | rfl | go_num | simp⟩
          case measure => simp [RowKit.intOf]; omega
      · obtain rfl : k = L := by omega
        have hfin : n / 16 ^ (k - k) = n := by rw [Nat.sub_self, Nat.pow_zero, Nat.div_one]
        rw [hfin]
        clear hfin
        go_wp2
        go_ret
        refine ⟨ret_bool ?_, hb1⟩
        first | rfl | (simp; omega) | simp
end Go.Proofs.YtbpiolklenopcaaDoor
