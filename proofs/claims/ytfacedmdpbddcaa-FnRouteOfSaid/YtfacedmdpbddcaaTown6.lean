/- ValidRoads of the model; times. -/
import Derived.Test.YtfacedmdpbddcaaTown4
import Derived.Deep.QuietTactic
import Derived.BigQuiet
namespace Go.Proofs.Ytfacedmdpbddcaa
open Go.RowKit
set_option linter.unusedVariables false
set_option linter.unusedSimpArgs false

set_option maxHeartbeats 4000000 in
theorem spec_validRoads (w : World) (lo : Nat) (n : Int) (v : Value) (rs : List Rod) (hv : Rods w lo v rs) :
    Calls Try.prog 28 #[.int .i64 n, v] w fun e w' => e = .returned (.bool (validR n rs)) ∧ Below w.heap.size w w' := by
  obtain ⟨ao, cap, rfl, hcap, hm⟩ := hv.form
  obtain ⟨m, wrm⟩ : ∃ m, IntKind.i64.wrap (n - 1) = m := ⟨_, rfl⟩
  have hmn : (1 ≤ n ∧ n ≤ 8) → m = n - 1 := fun h => by rw [← wrm]; exact IntWalk.i64_in _ (by omega)
  have HM := Lib.hid hmn
  clear hmn
  go_enter Try.func28, Try.ntmps28
  go_wp2
  go_loopw [5] (fun i wo => ∃ k : Nat, k ≤ rs.length ∧ i = .int .i64 k ∧ (∀ j, j < k → okAt m rs j = true) ∧ Below w.heap.size w wo) (fun i _ => rs.length - (intOf i).toNat)
  case atStart => exact ⟨0, Nat.zero_le _, rfl, fun j hj => by omega, Below.refl _ _⟩
  case round =>
    obtain ⟨k, hk, rfl, hall, hB⟩ := hrel
    have hsz := hB.size
    by_cases hlt : k < rs.length
    · have HA := Lib.hid hall
      obtain ⟨b, off, rfl, _, hb1, hc⟩ := Rods.spot (Rd.below hv hB (Nat.le_refl _) (by decide)) (by omega)
      obtain ⟨s1, s2, s3⟩ := hc k hlt
      have hyes : okR m (rs.getD k r0) = true → okAt m rs k = true := fun h => h
      have hno := okAt_no (m := m) (rs := rs) (i := k)
      have hiff := okR_iff (m := m) (r := rs.getD k r0)
      obtain ⟨x, hx⟩ : ∃ x, x = rs.getD k r0 := ⟨_, rfl⟩
      rw [← hx] at s1 s2 s3 hyes hno hiff
      obtain ⟨xf, xt, xc⟩ := x
      simp only at s1 s2 s3 hyes hno hiff
      clear hc hv hall hx
      have HY := Lib.hid (fun h => hyes (hiff.2 h))
      have HN : Hid (¬ (0 ≤ xf ∧ xf ≤ m ∧ 0 ≤ xt ∧ xt ≤ m ∧ xf ≠ xt ∧ 1 ≤ xc ∧ xc ≤ 60) → validR n rs = false) := fun h => by
        by_cases h8 : 1 ≤ n ∧ n ≤ 8
        · exact validR_bad hlt (by rw [← HM.out h8]; exact hno h)
        · exact validR_no (fun h' => h8 ⟨h'.1, h'.2.1⟩)
      clear hyes hno hiff
      have hk0 : (0 : Int) ≤ (k : Int) := by omega
      have hk1 : (k : Int) < (rs.length : Int) := by omega
      by_cases h1 : 0 ≤ xf ∧ xf ≤ m
      · have d1 : (decide (0 ≤ xf) && decide (xf ≤ m)) = true := by simp; omega
        by_cases h2 : 0 ≤ xt ∧ xt ≤ m
        · have d2 : (decide (0 ≤ xt) && decide (xt ≤ m)) = true := by simp; omega
          by_cases h3 : xf = xt
          · have d3 : (xf == xt) = true := by simp [h3]
            have HNO := Lib.hid (HN.out (fun h => h.2.2.2.2.1 h3))
            clear HN HY h3 h1 h2
            go_wp2_with fail
            go_quiet ((go_at_call 36; first | (with_reducible exact quiet_eq (inRange_dec xf 0 m true _ d1)) | (with_reducible exact quiet_eq (inRange_dec xt 0 m true _ d2))))
            go_wp2
            go_ret
            exact ⟨by rw [HNO.out]; rfl, below_drewN hB _⟩
          · have d3 : (xf == xt) = false := by simp [h3]
            by_cases h4 : 1 ≤ xc ∧ xc ≤ 60
            · have d4 : (decide (1 ≤ xc) && decide (xc ≤ 60)) = true := by simp; omega
              have HOK := Lib.hid (HY.out ⟨h1.1, h1.2, h2.1, h2.2, h3, h4.1, h4.2⟩)
              clear HN HY h3 h1 h2 h4
              go_wp2_with fail
              go_quiet ((go_at_call 36; first | (with_reducible exact quiet_eq (inRange_dec xf 0 m true _ d1)) | (with_reducible exact quiet_eq (inRange_dec xt 0 m true _ d2)) | (with_reducible exact quiet_eq (inRange_dec xc 1 60 true _ d4))))
              go_wp2
              go_roundw
              case rel => exact ⟨k + 1, by omega, by go_num, fun j hj => by
                by_cases h : j = k
                · subst h; exact HOK.out
                · exact HA.out j (by omega), below_drewN hB _⟩
              case measure => simp [intOf]; omega
            · have d4 : (decide (1 ≤ xc) && decide (xc ≤ 60)) = false := by simp; omega
              have HNO := Lib.hid (HN.out (fun h => h4 ⟨h.2.2.2.2.2.1, h.2.2.2.2.2.2⟩))
              clear HN HY h3 h1 h2 h4
              go_wp2_with fail
              go_quiet ((go_at_call 36; first | (with_reducible exact quiet_eq (inRange_dec xf 0 m true _ d1)) | (with_reducible exact quiet_eq (inRange_dec xt 0 m true _ d2)) | (with_reducible exact quiet_eq (inRange_dec xc 1 60 false _ d4))))
              go_wp2
              go_ret
              exact ⟨by rw [HNO.out]; rfl, below_drewN hB _⟩
        · have d2 : (decide (0 ≤ xt) && decide (xt ≤ m)) = false := by simp; omega
          have HNO := Lib.hid (HN.out (fun h => h2 ⟨h.2.2.1, h.2.2.2.1⟩))
          clear HN HY h1 h2
          go_wp2_with fail
          go_quiet ((go_at_call 36; first | (with_reducible exact quiet_eq (inRange_dec xf 0 m true _ d1)) | (with_reducible exact quiet_eq (inRange_dec xt 0 m false _ d2))))
          go_wp2
          go_ret
          exact ⟨by rw [HNO.out]; rfl, below_drewN hB _⟩
      · have d1 : (decide (0 ≤ xf) && decide (xf ≤ m)) = false := by simp; omega
        have HNO := Lib.hid (HN.out (fun h => h1 ⟨h.1, h.2.1⟩))
        clear HN HY h1
        go_wp2_with fail
        go_quiet ((go_at_call 36; first | (with_reducible exact quiet_eq (inRange_dec xf 0 m false _ d1))))
        go_wp2
        go_ret
        exact ⟨by rw [HNO.out]; rfl, below_drewN hB _⟩
    · have HALL := Lib.hid hall
      clear hall
      by_cases hn : 1 ≤ n ∧ n ≤ 8
      · have dn : (decide (1 ≤ n) && decide (n ≤ 8)) = true := by simp; omega
        have hyes : Hid (validR n rs = decide ((rs.length : Int) ≤ 24)) := by
          unfold Hid
          rw [Bool.eq_iff_iff, validR_iff, decide_eq_true_eq]
          exact ⟨fun h => by omega, fun h => ⟨hn.1, hn.2, by omega, fun i hi => by rw [← HM.out hn]; exact HALL.out i (by omega)⟩⟩
        go_wp2_with (go_at_call 36; with_reducible refine (inRange_dec n 1 8 true _ dn).mono ?_; rintro e' w2 ⟨rfl, rfl⟩)
        go_ret
        exact ⟨by rw [hyes.out]; rfl, hB⟩
      · have dn : (decide (1 ≤ n) && decide (n ≤ 8)) = false := by simp; omega
        have HNO : Hid (validR n rs = false) := validR_no (fun h => hn ⟨h.1, h.2.1⟩)
        go_wp2_with (go_at_call 36; with_reducible refine (inRange_dec n 1 8 false _ dn).mono ?_; rintro e' w2 ⟨rfl, rfl⟩)
        go_ret
        exact ⟨by rw [HNO.out]; rfl, hB⟩

theorem spec_ValidRoads (w : World) (lo : Nat) (n : Int) (v : Value) (rs : List Rod) (hv : Rods w lo v rs) :
    Calls Try.prog 12 #[.int .i64 n, v] w fun e w' => e = .returned (.bool (validR n rs)) ∧ Below w.heap.size w w' := by
  go_enter Try.func12, Try.ntmps12
  go_wp2_with fail
  go_at_call 28
  refine (spec_validRoads _ _ _ _ rs hv).mono ?_; rintro e' w2 ⟨rfl, hB⟩
  go_wp2
  go_ret
  exact ⟨rfl, hB⟩
end Go.Proofs.Ytfacedmdpbddcaa
