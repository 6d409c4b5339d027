/- The walk of the ninth reference's table. -/
import Derived.Test.YtbapgngngaaojaaGreatG24
import Derived.Test.YtbapgngngaaojaaGreatG26
set_option linter.unusedSimpArgs false
set_option linter.unusedVariables false
namespace Go.Proofs.YtbapgngngaaojaaGreat
open Go.RowKit Go.Lib
set_option maxRecDepth 100000
@[local go_sem] theorem field_L3 (v0 v1 v2 v3 v4 v5 v6 v7 v8 v9 v10 : Value) (w : World) : (Instr.field 106 (.agg #[v0, v1, v2, v3, v4, v5, v6, v7, v8, v9, v10]) 3).run Tryz.prog w = .ok v10 w := by kernel_rfl
set_option maxHeartbeats 2000000 in
theorem rtable_nat (sz most root asid va level : Nat) (on : Bool) (ws : List (Nat × Nat)) (A1 A2 A3 A4 : Option Addr) (n2 n3 n4 c1 c2 c3 c4 : Nat) (w : World) (ht : Tb root) (hl : level ≤ 3) (hv : va < 18446744073709551616) (hn : ws.length ≤ 1000000) (hws : ∀ a, rdM ws a < 18446744073709551616) (hsz : sz < 9223372036854775808) (h1 : RdRow w (.slice A1 ws.length c1) ws.length (rowL wL ws)) :
    Calls Tryz.prog 89 #[xV sz most root asid on (.slice A1 ws.length c1) (.slice A2 n2 c2) (.slice A3 n3 c3) (.slice A4 n4 c4), .int .u64 va, .int .i64 level] w fun e w' => e = .returned (.tuple #[.int .u64 (tableGo (fromP sz (rdM ws) 0 root va).steps level 0 root).1, .bool (tableGo (fromP sz (rdM ws) 0 root va).steps level 0 root).2]) ∧ Below w.heap.size w w' := by
  have C3 : Hid (∀ u, Below w.heap.size w u → Calls Tryz.prog 83 #[.agg #[.int .u64 sz, .slice A1 ws.length c1], .int .i64 0, .int .u64 root, .int .u64 va] u (RFromPost (fromP sz (rdM ws) 0 root va) u)) := fun u hb =>
    rfrom_nat sz 0 root va ws A1 c1 u (by omega) ht hv hn hws hsz (h1.below hb)
  have C4 : Hid (∀ i : Nat, i ≤ 3 → ∀ x : Nat, x < 18446744073709551616 → ∀ w, Calls Tryz.prog 123 #[.int .i64 i, .int .u64 x] w (RDecPost (decP i x) w)) := fun i hi x hx w => rdecode_nat i x w hx hi
  have hfo := fromP_ok sz (rdM ws) 0 root va
  have hst : ∀ y ∈ (fromP sz (rdM ws) 0 root va).steps, y.2 < 18446744073709551616 := fun y hy => by rw [hfo.1.1 y hy]; exact hws _
  have hs4 := hfo.2.1
  clear hfo
  generalize fromP sz (rdM ws) 0 root va = F at *
  obtain ⟨Fl, Fd, Ff, st⟩ := F
  dsimp only at hst hs4 ⊢
  obtain ⟨R, hR⟩ : ∃ R, tableGo st level 0 root = R := ⟨_, rfl⟩
  rw [hR]
  have HR := Lib.hid hR
  have HST := Lib.hid hst
  have HS4 := Lib.hid hs4
  clear hR hst hs4 hws hn h1 hv hsz ht
  unfold xV
  go_enter Tryz.func89, Tryz.ntmps89
  go_upto_region 1 with fail
  have HXB : Hid (Box (w.alloc (.cells #[.int .u64 sz, .slice A1 ws.length c1, .int .i64 most, .slice A2 n2 c2, .slice A3 n3 c3, .bool on, .int .u64 root, .int .i64 asid, .slice A4 n4 c4] 36)) w.heap.size (xC sz most root asid on (.slice A1 ws.length c1) (.slice A2 n2 c2) (.slice A3 n3 c3) (.slice A4 n4 c4))) := Box.new w (xC sz most root asid on (.slice A1 ws.length c1) (.slice A2 n2 c2) (.slice A3 n3 c3) (.slice A4 n4 c4)) 36
  have HB0 : Hid (Below w.heap.size w (w.alloc (.cells #[.int .u64 sz, .slice A1 ws.length c1, .int .i64 most, .slice A2 n2 c2, .slice A3 n3 c3, .bool on, .int .u64 root, .int .i64 asid, .slice A4 n4 c4] 36))) := below1 _ _
  generalize World.alloc w _ = W at *
  have x0 := HXB.out.at 0 _ rfl
  have x1 := HXB.out.at 1 _ rfl
  have x6 := HXB.out.at 6 _ rfl
  go_upto_region 3 with (go_at_call 83; refine (C3.out _ HB0.out).mono ?_; rintro e wc ⟨A, c, rfl, hrow, hb⟩; dsimp only [lV]; have HROW := Lib.hid hrow.rd; have HWC : Hid (Below w.heap.size w wc) := HB0.out.trans (hb.mono HB0.out.size); clear hrow hb)
  clear x0 x1 x6 HXB
  go_wp2
  go_loopw [8, 10] (fun av iv wr => ∃ (i at_ : Nat), iv = .int .i64 i ∧ av = .int .u64 at_ ∧ i ≤ level ∧ Hid (tableGo st (level - i) i at_ = R) ∧ Hid (Below wc.heap.size wc wr)) (fun _ iv _ => level - (RowKit.intOf iv).toNat)
  case atStart => exact ⟨0, root, rfl, rfl, by omega, HR, Below.refl _ _⟩
  case round =>
    obtain ⟨i, at_, rfl, rfl, hi, HS, HB⟩ := hrel
    by_cases hlt : i < level
    · have d1 : decide ((i : Int) < (level : Int)) = true := by simp; omega
      have HS1 : Hid ((match st[i]? with
        | none => (0, false)
        | some s => match decP i s.2 with
          | none => (0, false)
          | some d => if d.kind = 1 then tableGo st (level - (i + 1)) (i + 1) d.out else (0, false)) = R) := by
        have := HS.out
        rw [show level - i = (level - (i + 1)) + 1 by omega] at this
        exact this
      clear HS
      by_cases hls : i < st.length
      · rw [List.getElem?_eq_getElem hls] at HS1
        have hcs := stepCells_at st i hls
        obtain ⟨A', c', hsl, hrr⟩ := HROW.out
        obtain ⟨rfl, -, rfl⟩ := Value.slice.inj hsl
        obtain ⟨g, o, rfl, hrg⟩ := hrr (by omega)
        have k1 : wr.cell? ⟨g, o + i * 2 + 1, none⟩ = some (.int .u64 st[i].2) := keep_cell HB.out (by have := hrg _ _ hcs.2; rwa [← Nat.add_assoc] at this)
        have hxw := HST.out st[i] (List.getElem_mem hls)
        have d2 : decide ((st.length : Int) ≤ (i : Int)) = false := by simp; omega
        clear hcs hrr hrg hsl
        generalize st[i] = y at *
        obtain ⟨sa, sw⟩ := y
        dsimp only at k1 hxw HS1
        have C2 := Lib.hid (C4.out i (by omega) sw hxw)
        cases hd : decP i sw with
        | none =>
          rw [hd] at HS1 C2
          have HS2 : Hid ((0, false) = R) := HS1.out
          clear hd HS1
          go_wp2_with fail
          refine (C2.out _).mono ?_
          rintro e w2 ⟨rfl, hb2⟩
          have HB2 : Hid (Below wc.heap.size wc w2) := HB.out.trans (hb2.mono HB.out.size)
          clear hb2
          simp only [Option.getD_none, Option.isSome_none, dV, zeroD]
          go_wp2
          go_ret2
          exact ⟨by rw [← HS2.out]; rfl, (HWC.out.trans (HB2.out.mono HWC.out.size)).alloc (Nat.le_trans HWC.out.size HB2.out.size) _⟩
        | some d =>
          rw [hd] at HS1 C2
          clear hd
          obtain ⟨K, out, b1, b2, b3, b4, attr⟩ := d
          dsimp only at HS1
          by_cases hK : K = 1
          · subst hK
            rw [if_pos rfl] at HS1
            go_wp2_with fail
            refine (C2.out _).mono ?_
            rintro e w2 ⟨rfl, hb2⟩
            have HB2 : Hid (Below wc.heap.size wc w2) := HB.out.trans (hb2.mono HB.out.size)
            clear hb2
            simp only [Option.getD_some, Option.isSome_some, dV]
            go_wp2
            exact ⟨⟨i + 1, out, by first | rfl | go_num, rfl, by omega, HS1, HB2.out.alloc HB2.out.size _⟩, by simp [RowKit.intOf]; omega⟩
          · rw [if_neg hK] at HS1
            have hk1 : ((K : Int) != 1) = true := by rw [bne_iff_ne]; omega
            go_wp2_with fail
            refine (C2.out _).mono ?_
            rintro e w2 ⟨rfl, hb2⟩
            have HB2 : Hid (Below wc.heap.size wc w2) := HB.out.trans (hb2.mono HB.out.size)
            clear hb2
            simp only [Option.getD_some, Option.isSome_some, dV]
            go_wp2
            go_ret2
            exact ⟨by rw [← HS1.out]; rfl, (HWC.out.trans (HB2.out.mono HWC.out.size)).alloc (Nat.le_trans HWC.out.size HB2.out.size) _⟩
      · have d2 : decide ((st.length : Int) ≤ (i : Int)) = true := by simp; omega
        rw [List.getElem?_eq_none (by omega)] at HS1
        have HS2 : Hid ((0, false) = R) := HS1.out
        clear HS1
        go_wp2
        go_ret2
        exact ⟨by rw [← HS2.out]; rfl, HWC.out.trans (HB.out.mono HWC.out.size)⟩
    · have d1 : decide ((i : Int) < (level : Int)) = false := by simp; omega
      obtain rfl : i = level := by omega
      have HS2 : Hid ((at_, true) = R) := by have := HS.out; rw [Nat.sub_self] at this; exact this
      go_wp2
      go_ret2
      exact ⟨by rw [← HS2.out]; rfl, HWC.out.trans (HB.out.mono HWC.out.size)⟩
end Go.Proofs.YtbapgngngaaojaaGreat
