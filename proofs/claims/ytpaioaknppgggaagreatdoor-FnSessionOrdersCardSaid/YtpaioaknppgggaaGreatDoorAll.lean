/- allWithin and allIn, each proved once. -/
import Derived.Test.YtpaioaknppgggaaGreatDoorSmall
namespace Go.Proofs.YtpaioaknppgggaaGreatDoor
open Go.RowKit

def allB (xs : List Int) (a b : Int) : Bool := xs.all fun x => decide (a ≤ x) && decide (x ≤ b)
theorem allB_iff {xs : List Int} {a b : Int} : allB xs a b = true ↔ ∀ x ∈ xs, a ≤ x ∧ x ≤ b := by simp [allB]
theorem allB_no {xs : List Int} {a b : Int} {k : Nat} (hk : k < xs.length) (h : ¬ (a ≤ xs.getD k 0 ∧ xs.getD k 0 ≤ b)) : allB xs a b = false := by
  rw [Bool.eq_false_iff]; intro ha
  have := allB_iff.1 ha (xs.getD k 0) (by simp [hk])
  exact h this
theorem allB_yes {xs : List Int} {a b : Int} (h : ∀ k, k < xs.length → a ≤ xs.getD k 0 ∧ xs.getD k 0 ≤ b) : allB xs a b = true := by
  rw [allB_iff]; intro x hx
  obtain ⟨k, hk, rfl⟩ := List.getElem_of_mem hx
  have := h k hk
  simpa [hk] using this

theorem allWithin_any (w : World) (lo : Nat) (v : Value) (xs : List Int) (a b : Int) (hv : Ints w lo v xs) :
    Calls Tryz.prog 79 #[v, .int .i64 a, .int .i64 b] w fun e w' => e = .returned (.bool (allB xs a b)) ∧ w = w' := by
  obtain ⟨ao, cap, rfl, hcap, hm⟩ := hv.form
  have HV := Lib.hid hv
  clear hv
  go_enter Tryz.func79, Tryz.ntmps79
  go_wp2
  go_loop [11] (fun i => ∃ k : Nat, k ≤ xs.length ∧ i = .int .i64 k ∧ ∀ j, j < k → a ≤ xs.getD j 0 ∧ xs.getD j 0 ≤ b) (fun i => xs.length - (intOf i).toNat)
  case atStart => exact ⟨0, Nat.zero_le _, rfl, fun j hj => by omega⟩
  case round =>
    obtain ⟨k, hk, rfl, hall⟩ := hrel
    have HA := Lib.hid hall
    clear hall
    by_cases hlt : k < xs.length
    · obtain ⟨b0, off, rfl, _, hb, hc⟩ := HV.out.spot 0 (by omega)
      have hck := hc k hlt
      clear hc
      obtain ⟨x, hx⟩ : ∃ x, x = xs.getD k 0 := ⟨_, rfl⟩
      rw [← hx] at hck
      have HX := Lib.hid hx
      clear hx
      by_cases hin : a ≤ x ∧ x ≤ b
      · have ht : (decide (a ≤ x) && decide (x ≤ b)) = true := by simp; omega
        have HI := Lib.hid hin
        clear hin
        go_wp2_with (go_at_call 50; refine (within_any _ _ _ _).mono ?_; rintro e w' ⟨rfl, rfl⟩; rw [ht])
        go_round
        case rel => exact ⟨k + 1, by omega, by go_num, fun j hj => by
          by_cases h : j = k
          · subst h; rw [← HX.out]; exact HI.out
          · exact HA.out j (by omega)⟩
        case measure => simp [intOf]; omega
      · have ht : (decide (a ≤ x) && decide (x ≤ b)) = false := by simp; omega
        have HN : Hid (allB xs a b = false) := allB_no hlt (by rw [← HX.out]; exact hin)
        clear hin
        go_wp2_with (go_at_call 50; refine (within_any _ _ _ _).mono ?_; rintro e w' ⟨rfl, rfl⟩; rw [ht])
        go_ret
        exact ⟨by rw [HN.out]; rfl, rfl⟩
    · go_wp2
      go_ret
      exact ⟨by rw [allB_yes (fun j hj => HA.out j (by omega))]; rfl, rfl⟩

theorem allIn_any (w : World) (lo : Nat) (v : Value) (xs : List Int) (a b : Int) (hv : Ints w lo v xs) :
    Calls Tryz.prog 114 #[v, .int .i64 a, .int .i64 b] w fun e w' => e = .returned (.bool (allB xs a b)) ∧ w = w' := by
  obtain ⟨ao, cap, rfl, hcap, hm⟩ := hv.form
  have HV := Lib.hid hv
  clear hv
  go_enter Tryz.func114, Tryz.ntmps114
  go_wp2
  go_loop [7] (fun i => ∃ k : Nat, k ≤ xs.length ∧ i = .int .i64 k ∧ ∀ j, j < k → a ≤ xs.getD j 0 ∧ xs.getD j 0 ≤ b) (fun i => xs.length - (intOf i).toNat)
  case atStart => exact ⟨0, Nat.zero_le _, rfl, fun j hj => by omega⟩
  case round =>
    obtain ⟨k, hk, rfl, hall⟩ := hrel
    have HA := Lib.hid hall
    clear hall
    by_cases hlt : k < xs.length
    · obtain ⟨b0, off, rfl, _, hb, hc⟩ := HV.out.spot 0 (by omega)
      have hck := hc k hlt
      clear hc
      obtain ⟨x, hx⟩ : ∃ x, x = xs.getD k 0 := ⟨_, rfl⟩
      rw [← hx] at hck
      have HX := Lib.hid hx
      clear hx
      by_cases hin : a ≤ x ∧ x ≤ b
      · have ht : (decide (a ≤ x) && decide (x ≤ b)) = true := by simp; omega
        have HI := Lib.hid hin
        clear hin
        go_wp2_with (go_at_call 61; refine (inRange_any _ _ _ _).mono ?_; rintro e w' ⟨rfl, rfl⟩; rw [ht])
        go_round
        case rel => exact ⟨k + 1, by omega, by go_num, fun j hj => by
          by_cases h : j = k
          · subst h; rw [← HX.out]; exact HI.out
          · exact HA.out j (by omega)⟩
        case measure => simp [intOf]; omega
      · have ht : (decide (a ≤ x) && decide (x ≤ b)) = false := by simp; omega
        have HN : Hid (allB xs a b = false) := allB_no hlt (by rw [← HX.out]; exact hin)
        clear hin
        go_wp2_with (go_at_call 61; refine (inRange_any _ _ _ _).mono ?_; rintro e w' ⟨rfl, rfl⟩; rw [ht])
        go_ret
        exact ⟨by rw [HN.out]; rfl, rfl⟩
    · go_wp2
      go_ret
      exact ⟨by rw [allB_yes (fun j hj => HA.out j (by omega))]; rfl, rfl⟩

end Go.Proofs.YtpaioaknppgggaaGreatDoor
