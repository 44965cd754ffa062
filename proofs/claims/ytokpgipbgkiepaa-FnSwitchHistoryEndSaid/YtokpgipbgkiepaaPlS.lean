/- Small functions on lists of numbers: ascending, validMoves, isIn. -/
import Derived.Test.YtokpgipbgkiepaaPl1
import Derived.Outline
import Derived.Deep.QuietTactic
import Derived.BigQuiet
import Derived.IntWalk
namespace Go.Proofs.Ytokpgipbgkiepaa
open Go.RowKit
set_option linter.unusedVariables false
set_option linter.unusedSimpArgs false

/-- isIn: the reference's search. -/
theorem isIn_any (w : World) (lo : Nat) (v : Value) (xs : List Int) (x : Int) (hv : Ints w lo v xs) :
    Calls Try.prog 125 #[v, .int .i64 x] w fun e w' => e = .returned (.bool (hasB xs x)) ∧ w = w' := by
  obtain ⟨ao, cap, rfl, hcap, hm⟩ := hv.form
  have HV := Lib.hid hv
  clear hv
  go_enter Try.func125, Try.ntmps125
  go_wp2
  go_loop [5] (fun i => ∃ k : Nat, k ≤ xs.length ∧ i = .int .i64 k ∧ ∀ j, j < k → xs.getD j 0 ≠ x) (fun i => xs.length - (intOf i).toNat)
  case atStart => exact ⟨0, Nat.zero_le _, rfl, fun j hj => by omega⟩
  case round =>
    obtain ⟨k, hk, rfl, hall⟩ := hrel
    have HA := Lib.hid hall
    clear hall
    by_cases hlt : k < xs.length
    · obtain ⟨b0, off, rfl, _, hb, hc⟩ := HV.out.spot 0 (by omega)
      have hck := hc k hlt
      clear hc
      obtain ⟨y, hy⟩ : ∃ y, y = xs.getD k 0 := ⟨_, rfl⟩
      rw [← hy] at hck
      have HY := Lib.hid hy
      clear hy
      by_cases he : y = x
      · have t1 : (y == x) = true := by simp [he]
        have HN : Hid (hasB xs x = true) := hasB_iff.2 ⟨k, hlt, by rw [← HY.out]; exact he⟩
        clear he
        go_wp2
        go_ret
        exact ⟨by rw [HN.out]; rfl, rfl⟩
      · have t1 : (y == x) = false := by simp [he]
        have HE := Lib.hid he
        clear he
        go_wp2
        go_round
        case rel => exact ⟨k + 1, by omega, by go_num, fun j hj => by
          by_cases h : j = k
          · subst h; rw [← HY.out]; exact HE.out
          · exact HA.out j (by omega)⟩
        case measure => simp [intOf]; omega
    · have HN : Hid (hasB xs x = false) := hasB_no (fun i hi => HA.out i (by omega))
      go_wp2
      go_ret
      exact ⟨by rw [HN.out]; rfl, rfl⟩

theorem ascB_yes {xs : List Int} (h : ∀ i, i < xs.length → i = 0 ∨ xs.getD (i - 1) 0 < xs.getD i 0) : ascB xs = true := ascB_iff.2 h

/-- validMoves: the program's. -/
theorem validMoves_any (w : World) (lo : Nat) (v : Value) (xs : List Int) (n : Int) (hn : 0 ≤ n ∧ n ≤ 1000) (hv : Ints w lo v xs) :
    Calls Try.prog 94 #[v, .int .i64 n] w fun e w' => e = .returned (.bool (movesB xs n)) ∧ Below w.heap.size w w' := by
  obtain ⟨ao, cap, rfl, hcap, hm⟩ := hv.form
  have HV := Lib.hid hv
  obtain ⟨hn1, hn2⟩ := hn
  have wr1 : IntKind.i64.wrap (n - 1) = n - 1 := IntWalk.i64_in _ (by omega)
  by_cases hall : allB xs 0 (n - 1) = true
  · have HAL := Lib.hid hall
    go_enter Try.func94, Try.ntmps94
    go_wp2_with (go_at_call 55; refine (allWithin_any _ _ _ xs _ _ hv).mono ?_; rintro e w' ⟨rfl, rfl⟩; rw [hall])
    clear hv hall
    go_loopw [5] (fun i wo => ∃ k : Nat, 1 ≤ k ∧ i = .int .i64 k ∧ (∀ j, j < k → j < xs.length → j = 0 ∨ xs.getD (j - 1) 0 < xs.getD j 0) ∧ Below w.heap.size w wo ∧ k ≤ xs.length + 1) (fun i _ => xs.length + 1 - (intOf i).toNat)
    case atStart => exact ⟨1, Nat.le_refl _, rfl, fun j hj _ => .inl (by omega), Below.refl _ _, by omega⟩
    case round =>
      obtain ⟨k, hk, rfl, hal, hB, hkl⟩ := hrel
      have HA := Lib.hid hal
      clear hal
      by_cases hlt : k < xs.length
      · obtain ⟨b0, off, rfl, _, hb, hc⟩ := (Rd.below HV.out hB (Nat.le_refl _) (by decide) : Ints wr lo _ xs).spot 0 (by omega)
        have hck := hc k hlt
        have hcp := hc (k - 1) (by omega)
        clear hc
        obtain ⟨y, hy⟩ : ∃ y, y = xs.getD k 0 := ⟨_, rfl⟩
        obtain ⟨z, hz⟩ : ∃ z, z = xs.getD (k - 1) 0 := ⟨_, rfl⟩
        rw [← hy] at hck
        rw [← hz] at hcp
        have HY := Lib.hid hy
        have HZ := Lib.hid hz
        have e1 : ((k : Int) - 1).toNat = k - 1 := by omega
        have g1 : 0 ≤ (k : Int) - 1 := by omega
        have g2 : (k : Int) - 1 < xs.length := by omega
        have g3 : (k : Int) < xs.length := by omega
        have wr2 : IntKind.i64.wrap ((k : Int) - 1) = (k : Int) - 1 := IntWalk.i64_in _ (by omega)
        clear hy hz
        by_cases he : y ≤ z
        · have t1 : decide (y ≤ z) = true := decide_eq_true he
          have HN : Hid (movesB xs n = false) := by unfold Hid movesB; rw [ascB_no hlt (by omega) (by rw [← HY.out, ← HZ.out]; omega)]; simp
          go_wp2_with fail
          go_quiet (fail)
          go_wp2
          go_ret
          exact ⟨by rw [HN.out]; rfl, below_drewN hB _⟩
        · have t1 : decide (y ≤ z) = false := decide_eq_false he
          go_wp2_with fail
          go_quiet (fail)
          go_wp2
          go_roundw
          case rel => exact ⟨k + 1, by omega, by go_num, fun j hj hjl => by
            by_cases h : j = k
            · subst h; right; rw [← HY.out, ← HZ.out]; omega
            · exact HA.out j (by omega) hjl, below_drewN hB _, by omega⟩
          case measure => simp [intOf]; omega
      · have HN : Hid (movesB xs n = true) := by unfold Hid movesB; rw [HAL.out, ascB_yes (fun i hi => HA.out i (by omega) hi)]; rfl
        go_wp2
        go_ret
        exact ⟨by rw [HN.out]; rfl, hB⟩
  · have hall : allB xs 0 (n - 1) = false := by simpa using hall
    have HN : Hid (movesB xs n = false) := by unfold Hid movesB; rw [hall]; rfl
    go_enter Try.func94, Try.ntmps94
    go_wp2_with (go_at_call 55; refine (allWithin_any _ _ _ xs _ _ hv).mono ?_; rintro e w' ⟨rfl, rfl⟩; rw [hall])
    go_ret
    exact ⟨by rw [HN.out]; rfl, Below.refl _ _⟩
/-- slices.Index at a number: not negative just where it is there. -/
theorem index_any (w : World) (lo : Nat) (v : Value) (xs : List Int) (x : Int) (hv : Ints w lo v xs) :
    Calls Try.prog 128 #[v, .int .i64 x] w fun e w' => ∃ r : Int, e = .returned (.int .i64 r) ∧ Hid (decide (0 ≤ r) = hasB xs x) ∧ w = w' := by
  obtain ⟨ao, cap, rfl, hcap, hm⟩ := hv.form
  have HV := Lib.hid hv
  clear hv
  go_enter Try.func128, Try.ntmps128
  go_wp2
  go_loop [8] (fun i => ∃ k : Nat, k ≤ xs.length ∧ i = .int .i64 k ∧ ∀ j, j < k → xs.getD j 0 ≠ x) (fun i => xs.length - (intOf i).toNat)
  case atStart => exact ⟨0, Nat.zero_le _, rfl, fun j hj => by omega⟩
  case round =>
    obtain ⟨k, hk, rfl, hall⟩ := hrel
    have HA := Lib.hid hall
    clear hall
    by_cases hlt : k < xs.length
    · obtain ⟨b0, off, rfl, _, hb, hc⟩ := HV.out.spot 0 (by omega)
      have hck := hc k hlt
      clear hc
      obtain ⟨y, hy⟩ : ∃ y, y = xs.getD k 0 := ⟨_, rfl⟩
      rw [← hy] at hck
      have HY := Lib.hid hy
      clear hy
      by_cases he : x = y
      · have t1 : (x == y) = true := by simp [he]
        have HN : Hid (hasB xs x = true) := hasB_iff.2 ⟨k, hlt, by rw [← HY.out]; exact he.symm⟩
        clear he
        go_wp2
        go_ret
        exact ⟨_, rfl, by unfold Hid; rw [HN.out]; simp, rfl⟩
      · have t1 : (x == y) = false := by simp [he]
        have HE := Lib.hid he
        clear he
        go_wp2
        go_round
        case rel => exact ⟨k + 1, by omega, by go_num, fun j hj => by
          by_cases h : j = k
          · subst h; rw [← HY.out]; exact fun e => HE.out e.symm
          · exact HA.out j (by omega)⟩
        case measure => simp [intOf]; omega
    · have HN : Hid (hasB xs x = false) := hasB_no (fun i hi => HA.out i (by omega))
      go_wp2
      go_ret
      exact ⟨_, rfl, by unfold Hid; rw [HN.out]; rfl, rfl⟩
/-- slices.Contains at a number. -/
theorem contains_any (w : World) (lo : Nat) (v : Value) (xs : List Int) (x : Int) (hv : Ints w lo v xs) :
    Calls Try.prog 118 #[v, .int .i64 x] w fun e w' => e = .returned (.bool (hasB xs x)) ∧ w = w' := by
  go_enter Try.func118, Try.ntmps118
  go_wp2_with fail
  go_at_call 128
  refine (index_any _ _ _ xs x hv).mono ?_; rintro e w' ⟨r, rfl, hr, rfl⟩
  go_wp2
  go_ret
  exact ⟨by rw [← hr.out]; rfl, rfl⟩

/-- ascending: the reference's. -/
theorem ascending_any (w : World) (lo : Nat) (v : Value) (xs : List Int) (a c : Int) (hv : Ints w lo v xs) :
    Calls Try.prog 121 #[v, .int .i64 a, .int .i64 c] w fun e w' => e = .returned (.bool (ascB xs && allB xs a c)) ∧ Below w.heap.size w w' := by
  obtain ⟨ao, cap, rfl, hcap, hm⟩ := hv.form
  have HV := Lib.hid hv
  clear hv
  go_enter Try.func121, Try.ntmps121
  go_wp2
  go_loopw [7] (fun i wo => ∃ k : Nat, 1 ≤ k ∧ i = .int .i64 k ∧ (∀ j, j < k → j < xs.length → j = 0 ∨ xs.getD (j - 1) 0 < xs.getD j 0) ∧ Below w.heap.size w wo ∧ k ≤ xs.length + 1) (fun i _ => xs.length + 1 - (intOf i).toNat)
  case atStart => exact ⟨1, Nat.le_refl _, rfl, fun j hj _ => .inl (by omega), Below.refl _ _, by omega⟩
  case round =>
    obtain ⟨k, hk, rfl, hal, hB, hkl⟩ := hrel
    have HA := Lib.hid hal
    clear hal
    by_cases hlt : k < xs.length
    · obtain ⟨b0, off, rfl, _, hb, hc⟩ := (Rd.below HV.out hB (Nat.le_refl _) (by decide) : Ints wr lo _ xs).spot 0 (by omega)
      have hck := hc k hlt
      have hcp := hc (k - 1) (by omega)
      clear hc
      obtain ⟨y, hy⟩ : ∃ y, y = xs.getD k 0 := ⟨_, rfl⟩
      obtain ⟨z, hz⟩ : ∃ z, z = xs.getD (k - 1) 0 := ⟨_, rfl⟩
      rw [← hy] at hck
      rw [← hz] at hcp
      have HY := Lib.hid hy
      have HZ := Lib.hid hz
      have e1 : ((k : Int) - 1).toNat = k - 1 := by omega
      have g1 : 0 ≤ (k : Int) - 1 := by omega
      have g2 : (k : Int) - 1 < xs.length := by omega
      have g3 : (k : Int) < xs.length := by omega
      have wr2 : IntKind.i64.wrap ((k : Int) - 1) = (k : Int) - 1 := IntWalk.i64_in _ (by omega)
      clear hy hz
      by_cases he : y ≤ z
      · have t1 : decide (y ≤ z) = true := decide_eq_true he
        have HN : Hid ((ascB xs && allB xs a c) = false) := by unfold Hid; rw [ascB_no hlt (by omega) (by rw [← HY.out, ← HZ.out]; omega)]; rfl
        go_wp2_with fail
        go_quiet (fail)
        go_wp2
        go_ret
        exact ⟨by rw [HN.out]; rfl, below_drewN hB _⟩
      · have t1 : decide (y ≤ z) = false := decide_eq_false he
        go_wp2_with fail
        go_quiet (fail)
        go_wp2
        go_roundw
        case rel => exact ⟨k + 1, by omega, by go_num, fun j hj hjl => by
          by_cases h : j = k
          · subst h; right; rw [← HY.out, ← HZ.out]; omega
          · exact HA.out j (by omega) hjl, below_drewN hB _, by omega⟩
        case measure => simp [intOf]; omega
    · have HN : Hid (ascB xs = true) := ascB_yes (fun i hi => HA.out i (by omega) hi)
      have hv2 : Ints wr lo _ xs := Rd.below HV.out hB (Nat.le_refl _) (by decide)
      go_wp2_with fail
      go_at_call 58
      refine (allIn_any _ _ _ xs a c hv2).mono ?_; rintro e w2 ⟨rfl, rfl⟩
      go_wp2
      go_ret
      exact ⟨by rw [HN.out]; rfl, hB⟩
end Go.Proofs.Ytokpgipbgkiepaa
