/- validMoves, ascending. -/
import Derived.Test.YtpaioaknppgggaaGreatDoorNest
import Derived.Outline
import Derived.Deep.QuietTactic
import Derived.BigQuiet
import Derived.IntWalk
import Derived.Test.YtpaioaknppgggaaGreatDoorAll
namespace Go.Proofs.YtpaioaknppgggaaGreatDoor
open Go.RowKit
set_option linter.unusedVariables false
set_option linter.unusedSimpArgs false

theorem ascB_yes {xs : List Int} (h : ∀ i, i < xs.length → i = 0 ∨ xs.getD (i - 1) 0 < xs.getD i 0) : ascB xs = true := ascB_iff.2 h

/-- validMoves: the program's. -/
theorem validMoves_any (w : World) (lo : Nat) (v : Value) (xs : List Int) (n : Int) (hn : 0 ≤ n ∧ n ≤ 1000) (hv : Ints w lo v xs) :
    Calls Tryz.prog 57 #[v, .int .i64 n] w fun e w' => e = .returned (.bool (movesB xs n)) ∧ Below w.heap.size w w' := by
  obtain ⟨ao, cap, rfl, hcap, hm⟩ := hv.form
  have HV := Lib.hid hv
  obtain ⟨hn1, hn2⟩ := hn
  have wr1 : IntKind.i64.wrap (n - 1) = n - 1 := IntWalk.i64_in _ (by omega)
  by_cases hall : allB xs 0 (n - 1) = true
  · have HAL := Lib.hid hall
    go_enter Tryz.func57, Tryz.ntmps57
    go_wp2_with (go_at_call 79; refine (allWithin_any _ _ _ xs _ _ hv).mono ?_; rintro e w' ⟨rfl, rfl⟩; rw [hall])
    clear hv hall
    go_loopw [5] (fun i wo => ∃ k : Nat, 1 ≤ k ∧ i = .int .i64 k ∧ (∀ j, j < k → j < xs.length → j = 0 ∨ xs.getD (j - 1) 0 < xs.getD j 0) ∧ Below w.heap.size w wo ∧ k ≤ xs.length + 1) (fun i _ => xs.length + 1 - (intOf i).toNat)
    case atStart => exact ⟨1, Nat.le_refl _, rfl, fun j hj _ => .inl (by omega), Below.refl _ _, by omega⟩
    case round =>
      obtain ⟨k, hk, rfl, hal, hB, hkl⟩ := hrel
      have HA := Lib.hid hal
      clear hal
      by_cases hlt : k < xs.length
      · obtain ⟨b0, off, rfl, _, hb, hc⟩ := (Rd.below HV.out hB (Nat.le_refl _) (by decide) : Ints wr lo _ xs).spot 0 (by omega)
        have hck := hc k hlt
        have hcp := hc (k - 1) (by omega)
        clear hc
        obtain ⟨y, hy⟩ : ∃ y, y = xs.getD k 0 := ⟨_, rfl⟩
        obtain ⟨z, hz⟩ : ∃ z, z = xs.getD (k - 1) 0 := ⟨_, rfl⟩
        rw [← hy] at hck
        rw [← hz] at hcp
        have HY := Lib.hid hy
        have HZ := Lib.hid hz
        have e1 : ((k : Int) - 1).toNat = k - 1 := by omega
        have g1 : 0 ≤ (k : Int) - 1 := by omega
        have g2 : (k : Int) - 1 < xs.length := by omega
        have g3 : (k : Int) < xs.length := by omega
        have wr2 : IntKind.i64.wrap ((k : Int) - 1) = (k : Int) - 1 := IntWalk.i64_in _ (by omega)
        clear hy hz
        by_cases he : y ≤ z
        · have t1 : decide (y ≤ z) = true := decide_eq_true he
          have HN : Hid (movesB xs n = false) := by unfold Hid movesB; rw [ascB_no hlt (by omega) (by rw [← HY.out, ← HZ.out]; omega)]; simp
          go_wp2_with fail
          go_quiet (fail)
          go_wp2
          go_ret
          exact ⟨by rw [HN.out]; rfl, below_drewN hB _⟩
        · have t1 : decide (y ≤ z) = false := decide_eq_false he
          go_wp2_with fail
          go_quiet (fail)
          go_wp2
          go_roundw
          case rel => exact ⟨k + 1, by omega, by go_num, fun j hj hjl => by
            by_cases h : j = k
            · subst h; right; rw [← HY.out, ← HZ.out]; omega
            · exact HA.out j (by omega) hjl, below_drewN hB _, by omega⟩
          case measure => simp [intOf]; omega
      · have HN : Hid (movesB xs n = true) := by unfold Hid movesB; rw [HAL.out, ascB_yes (fun i hi => HA.out i (by omega) hi)]; rfl
        go_wp2
        go_ret
        exact ⟨by rw [HN.out]; rfl, hB⟩
  · have hall : allB xs 0 (n - 1) = false := by simpa using hall
    have HN : Hid (movesB xs n = false) := by unfold Hid movesB; rw [hall]; rfl
    go_enter Tryz.func57, Tryz.ntmps57
    go_wp2_with (go_at_call 79; refine (allWithin_any _ _ _ xs _ _ hv).mono ?_; rintro e w' ⟨rfl, rfl⟩; rw [hall])
    go_ret
    exact ⟨by rw [HN.out]; rfl, Below.refl _ _⟩
/-- ascending: the reference's. -/
theorem ascending_any (w : World) (lo : Nat) (v : Value) (xs : List Int) (a c : Int) (hv : Ints w lo v xs) :
    Calls Tryz.prog 94 #[v, .int .i64 a, .int .i64 c] w fun e w' => e = .returned (.bool (ascB xs && allB xs a c)) ∧ Below w.heap.size w w' := by
  obtain ⟨ao, cap, rfl, hcap, hm⟩ := hv.form
  have HV := Lib.hid hv
  clear hv
  go_enter Tryz.func94, Tryz.ntmps94
  go_wp2
  go_loopw [7] (fun i wo => ∃ k : Nat, 1 ≤ k ∧ i = .int .i64 k ∧ (∀ j, j < k → j < xs.length → j = 0 ∨ xs.getD (j - 1) 0 < xs.getD j 0) ∧ Below w.heap.size w wo ∧ k ≤ xs.length + 1) (fun i _ => xs.length + 1 - (intOf i).toNat)
  case atStart => exact ⟨1, Nat.le_refl _, rfl, fun j hj _ => .inl (by omega), Below.refl _ _, by omega⟩
  case round =>
    obtain ⟨k, hk, rfl, hal, hB, hkl⟩ := hrel
    have HA := Lib.hid hal
    clear hal
    by_cases hlt : k < xs.length
    · obtain ⟨b0, off, rfl, _, hb, hc⟩ := (Rd.below HV.out hB (Nat.le_refl _) (by decide) : Ints wr lo _ xs).spot 0 (by omega)
      have hck := hc k hlt
      have hcp := hc (k - 1) (by omega)
      clear hc
      obtain ⟨y, hy⟩ : ∃ y, y = xs.getD k 0 := ⟨_, rfl⟩
      obtain ⟨z, hz⟩ : ∃ z, z = xs.getD (k - 1) 0 := ⟨_, rfl⟩
      rw [← hy] at hck
      rw [← hz] at hcp
      have HY := Lib.hid hy
      have HZ := Lib.hid hz
      have e1 : ((k : Int) - 1).toNat = k - 1 := by omega
      have g1 : 0 ≤ (k : Int) - 1 := by omega
      have g2 : (k : Int) - 1 < xs.length := by omega
      have g3 : (k : Int) < xs.length := by omega
      have wr2 : IntKind.i64.wrap ((k : Int) - 1) = (k : Int) - 1 := IntWalk.i64_in _ (by omega)
      clear hy hz
      by_cases he : y ≤ z
      · have t1 : decide (y ≤ z) = true := decide_eq_true he
        have HN : Hid ((ascB xs && allB xs a c) = false) := by unfold Hid; rw [ascB_no hlt (by omega) (by rw [← HY.out, ← HZ.out]; omega)]; rfl
        go_wp2_with fail
        go_quiet (fail)
        go_wp2
        go_ret
        exact ⟨by rw [HN.out]; rfl, below_drewN hB _⟩
      · have t1 : decide (y ≤ z) = false := decide_eq_false he
        go_wp2_with fail
        go_quiet (fail)
        go_wp2
        go_roundw
        case rel => exact ⟨k + 1, by omega, by go_num, fun j hj hjl => by
          by_cases h : j = k
          · subst h; right; rw [← HY.out, ← HZ.out]; omega
          · exact HA.out j (by omega) hjl, below_drewN hB _, by omega⟩
        case measure => simp [intOf]; omega
    · have HN : Hid (ascB xs = true) := ascB_yes (fun i hi => HA.out i (by omega) hi)
      have hv2 : Ints wr lo _ xs := Rd.below HV.out hB (Nat.le_refl _) (by decide)
      go_wp2_with fail
      go_at_call 114
      refine (allIn_any _ _ _ xs a c hv2).mono ?_; rintro e w2 ⟨rfl, rfl⟩
      go_wp2
      go_ret
      exact ⟨by rw [HN.out]; rfl, hB⟩
end Go.Proofs.YtpaioaknppgggaaGreatDoor
