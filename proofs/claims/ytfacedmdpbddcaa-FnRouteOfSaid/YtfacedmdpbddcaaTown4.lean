/- ValidRoads and times: the program's and the model's. -/
import Derived.Test.YtfacedmdpbddcaaTown2
import Derived.Test.YtfacedmdpbddcaaSmall
import Derived.Test.YtfacedmdpbddcaaTown5
import Derived.Test.YtfacedmdpbddcaaRepeat
import Derived.Deep.RegionHeld3
namespace Go.Proofs.Ytfacedmdpbddcaa
open Go.RowKit
set_option linter.unusedVariables false
set_option linter.unusedSimpArgs false

theorem inRange_dec (a b c : Int) (v : Bool) (w : World) (h : (decide (b ≤ a) && decide (a ≤ c)) = v) :
    Calls Try.prog 36 #[.int .i64 a, .int .i64 b, .int .i64 c] w fun e w' => e = .returned (.bool v) ∧ w = w' := by
  rw [← h]; exact inRange_any a b c w
theorem within_dec (a b c : Int) (v : Bool) (w : World) (h : (decide (b ≤ a) && decide (a ≤ c)) = v) :
    Calls Try.prog 30 #[.int .i64 a, .int .i64 b, .int .i64 c] w fun e w' => e = .returned (.bool v) ∧ w = w' := by
  rw [← h]; exact within_any a b c w

theorem okAt_no {m : Int} {rs : List Rod} {i : Nat} (h : ¬ (0 ≤ (rs.getD i r0).f ∧ (rs.getD i r0).f ≤ m ∧ 0 ≤ (rs.getD i r0).t ∧ (rs.getD i r0).t ≤ m ∧ (rs.getD i r0).f ≠ (rs.getD i r0).t ∧ 1 ≤ (rs.getD i r0).c ∧ (rs.getD i r0).c ≤ 60)) : okAt m rs i = false := by
  unfold okAt; rw [Bool.eq_false_iff]; intro h'; exact h (okR_iff.1 h')

set_option maxHeartbeats 4000000 in
theorem impl_validRoads (w : World) (lo : Nat) (n : Int) (v : Value) (rs : List Rod) (hv : Rods w lo v rs) :
    Calls Try.prog 14 #[.int .i64 n, v] w fun e w' => e = .returned (.bool (validR n rs)) ∧ Below w.heap.size w w' := by
  obtain ⟨ao, cap, rfl, hcap, hm⟩ := hv.form
  by_cases hn : 1 ≤ n ∧ n ≤ 8
  · have dn : (decide (1 ≤ n) && decide (n ≤ 8)) = true := by simp; omega
    have hn1 := hn.1
    have hn2 := hn.2
    by_cases hl : rs.length ≤ 24
    · go_enter Try.func14, Try.ntmps14
      go_wp2_with (go_at_call 30; with_reducible refine (within_dec n 1 8 true _ dn).mono ?_; rintro e' w2 ⟨rfl, rfl⟩)
      go_loopw [17] (fun i wo => ∃ k : Nat, k ≤ rs.length ∧ i = .int .i64 k ∧ (∀ j, j < k → okAt (n - 1) rs j = true) ∧ Below w.heap.size w wo) (fun i _ => rs.length - (intOf i).toNat)
      case atStart => exact ⟨0, Nat.zero_le _, rfl, fun j hj => by omega, Below.refl _ _⟩
      case round =>
        obtain ⟨k, hk, rfl, hall, hB⟩ := hrel
        have hsz := hB.size
        by_cases hlt : k < rs.length
        · have HA := Lib.hid hall
          obtain ⟨b, off, rfl, _, hb1, hc⟩ := Rods.spot (Rd.below hv hB (Nat.le_refl _) (by decide)) (by omega)
          obtain ⟨s1, s2, s3⟩ := hc k hlt
          have hyes : okR (n - 1) (rs.getD k r0) = true → okAt (n - 1) rs k = true := fun h => h
          have hno := okAt_no (m := n - 1) (rs := rs) (i := k)
          have hiff := okR_iff (m := n - 1) (r := rs.getD k r0)
          obtain ⟨x, hx⟩ : ∃ x, x = rs.getD k r0 := ⟨_, rfl⟩
          rw [← hx] at s1 s2 s3 hyes hno hiff
          obtain ⟨xf, xt, xc⟩ := x
          simp only at s1 s2 s3 hyes hno hiff
          clear hc hv hall hx
          have HY := Lib.hid (fun h => hyes (hiff.2 h))
          have HN := Lib.hid (fun h => validR_bad (n := n) hlt (hno h))
          clear hyes hno hiff
          by_cases h1 : 0 ≤ xf ∧ xf ≤ n - 1
          · have d1 : (decide (0 ≤ xf) && decide (xf ≤ n - 1)) = true := by simp; omega
            by_cases h2 : 0 ≤ xt ∧ xt ≤ n - 1
            · have d2 : (decide (0 ≤ xt) && decide (xt ≤ n - 1)) = true := by simp; omega
              by_cases h3 : xf = xt
              · have d3 : (xf == xt) = true := by simp [h3]
                have HNO := Lib.hid (HN.out (fun h => h.2.2.2.2.1 h3))
                clear HN HY h3
                go_wp2_with (first
                  | (go_at_call 30; with_reducible refine (within_dec xf 0 (n - 1) true _ d1).mono ?_; rintro e' w2 ⟨rfl, rfl⟩)
                  | (go_at_call 30; with_reducible refine (within_dec xt 0 (n - 1) true _ d2).mono ?_; rintro e' w2 ⟨rfl, rfl⟩))
                go_ret
                exact ⟨by rw [HNO.out]; rfl, hB.alloc (by omega) _⟩
              · have d3 : (xf == xt) = false := by simp [h3]
                by_cases h4 : 1 ≤ xc ∧ xc ≤ 60
                · have d4 : (decide (1 ≤ xc) && decide (xc ≤ 60)) = true := by simp; omega
                  have HOK := Lib.hid (HY.out ⟨h1.1, h1.2, h2.1, h2.2, h3, h4.1, h4.2⟩)
                  clear HN HY h3
                  go_wp2_with (first
                    | (go_at_call 30; with_reducible refine (within_dec xf 0 (n - 1) true _ d1).mono ?_; rintro e' w2 ⟨rfl, rfl⟩)
                    | (go_at_call 30; with_reducible refine (within_dec xt 0 (n - 1) true _ d2).mono ?_; rintro e' w2 ⟨rfl, rfl⟩)
                    | (go_at_call 30; with_reducible refine (within_dec xc 1 60 true _ d4).mono ?_; rintro e' w2 ⟨rfl, rfl⟩))
                  go_roundw
                  case rel => exact ⟨k + 1, by omega, by go_num, fun j hj => by
                    by_cases h : j = k
                    · subst h; exact HOK.out
                    · exact HA.out j (by omega), hB.alloc (by omega) _⟩
                  case measure => simp [intOf]; omega
                · have d4 : (decide (1 ≤ xc) && decide (xc ≤ 60)) = false := by simp; omega
                  have HNO := Lib.hid (HN.out (fun h => h4 ⟨h.2.2.2.2.2.1, h.2.2.2.2.2.2⟩))
                  clear HN HY h3
                  go_wp2_with (first
                    | (go_at_call 30; with_reducible refine (within_dec xf 0 (n - 1) true _ d1).mono ?_; rintro e' w2 ⟨rfl, rfl⟩)
                    | (go_at_call 30; with_reducible refine (within_dec xt 0 (n - 1) true _ d2).mono ?_; rintro e' w2 ⟨rfl, rfl⟩)
                    | (go_at_call 30; with_reducible refine (within_dec xc 1 60 false _ d4).mono ?_; rintro e' w2 ⟨rfl, rfl⟩))
                  go_ret
                  exact ⟨by rw [HNO.out]; rfl, hB.alloc (by omega) _⟩
            · have d2 : (decide (0 ≤ xt) && decide (xt ≤ n - 1)) = false := by simp; omega
              have HNO := Lib.hid (HN.out (fun h => h2 ⟨h.2.2.1, h.2.2.2.1⟩))
              clear HN HY
              go_wp2_with (first
                | (go_at_call 30; with_reducible refine (within_dec xf 0 (n - 1) true _ d1).mono ?_; rintro e' w2 ⟨rfl, rfl⟩)
                | (go_at_call 30; with_reducible refine (within_dec xt 0 (n - 1) false _ d2).mono ?_; rintro e' w2 ⟨rfl, rfl⟩))
              go_ret
              exact ⟨by rw [HNO.out]; rfl, hB.alloc (by omega) _⟩
          · have d1 : (decide (0 ≤ xf) && decide (xf ≤ n - 1)) = false := by simp; omega
            have HNO := Lib.hid (HN.out (fun h => h1 ⟨h.1, h.2.1⟩))
            clear HN HY
            go_wp2_with (go_at_call 30; with_reducible refine (within_dec xf 0 (n - 1) false _ d1).mono ?_; rintro e' w2 ⟨rfl, rfl⟩)
            go_ret
            exact ⟨by rw [HNO.out]; rfl, hB.alloc (by omega) _⟩
        · have hyes : Hid (validR n rs = true) := validR_iff.2 ⟨hn1, hn2, hl, fun i hi => hall i (by omega)⟩
          clear hall
          go_wp2
          go_ret
          exact ⟨by rw [hyes.out]; rfl, hB⟩
    · have HNO : Hid (validR n rs = false) := validR_no (fun h => hl h.2.2.1)
      go_enter Try.func14, Try.ntmps14
      go_wp2_with (go_at_call 30; with_reducible refine (within_dec n 1 8 true _ dn).mono ?_; rintro e' w2 ⟨rfl, rfl⟩)
      go_ret
      exact ⟨by rw [HNO.out]; rfl, Below.refl _ _⟩
  · have dn : (decide (1 ≤ n) && decide (n ≤ 8)) = false := by simp; omega
    have HNO : Hid (validR n rs = false) := validR_no (fun h => hn ⟨h.1, h.2.1⟩)
    go_enter Try.func14, Try.ntmps14
    go_wp2_with (go_at_call 30; with_reducible refine (within_dec n 1 8 false _ dn).mono ?_; rintro e' w2 ⟨rfl, rfl⟩)
    go_ret
    exact ⟨by rw [HNO.out]; rfl, Below.refl _ _⟩

end Go.Proofs.Ytfacedmdpbddcaa
