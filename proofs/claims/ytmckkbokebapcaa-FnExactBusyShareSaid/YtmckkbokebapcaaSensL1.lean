/- The laws of the sensors, walked: StuckSensor, CountRises, BusyShare. -/
import Derived.Test.YtmckkbokebapcaaSens2
import Derived.Test.YtmckkbokebapcaaSlB
import Derived.Test.YtmckkbokebapcaaRdr2
namespace Go.Proofs.Ytmckkbokebapcaa
open Go.RowKit

theorem exactStuck_walk (w : World) (v : Value) (xs : List Bool) (n : Int) (hv : Bools w 0 v xs) (_hn : in64 n) :
    Calls Try.prog 3 #[v, .int .i64 n] w fun e w' => e = .returned (.bool true) ∧ Below w.heap.size w w' := by
  obtain ⟨ao, cap, rfl, hcap, hm⟩ := hv.form
  by_cases hlen : xs.length ≤ 1048576
  · go_enter Try.func3, Try.ntmps3
    go_wp2_with fail
    go_at_call 14
    refine (toBoolS_any _ _ xs hv (by omega)).mono ?_; rintro e w1 ⟨v1, rfl, hO1, hB1⟩
    go_wp2_with fail
    go_at_call 13
    refine (spec_stuck _ _ _ xs n hO1.rd).mono ?_; rintro e w2 ⟨rfl, hB2⟩
    have hT := hB1.trans (hB2.mono hB1.size)
    go_wp2_with fail
    go_at_call 14
    refine (toBoolS_any _ _ xs (Rd.below hv hT (Nat.le_refl _) (by decide)) (by omega)).mono ?_; rintro e w3 ⟨v3, rfl, hO3, hB3⟩
    have hT3 := hT.trans (hB3.mono hT.size)
    go_wp2_with fail
    go_at_call 15
    refine (impl_stuck _ _ _ xs n hO3.rd).mono ?_; rintro e w4 ⟨rfl, rfl⟩
    go_wp2_with fail
    go_at_call 14
    refine (toBoolS_any _ _ xs (Rd.below hv hT3 (Nat.le_refl _) (by decide)) (by omega)).mono ?_; rintro e w5 ⟨v5, rfl, hO5, hB5⟩
    have hT5 := hT3.trans (hB5.mono hT3.size)
    go_wp2_with fail
    go_at_call 16
    refine (eqBoolS_same _ _ _ xs ((Rd.below hO3.rd hB5 (Nat.le_refl _) (by decide)).mono (Nat.zero_le _)) (hO5.rd.mono (Nat.zero_le _))).mono ?_; rintro e w6 ⟨rfl, hB6⟩
    go_wp2
    go_ret
    exact ⟨rfl, hT5.trans (hB6.mono hT5.size)⟩
  · go_enter Try.func3, Try.ntmps3
    go_wp2
    go_ret
    exact ⟨rfl, Below.refl _ _⟩
theorem exactRises_walk (w : World) (v : Value) (xs : List Bool)  (hv : Bools w 0 v xs)  :
    Calls Try.prog 4 #[v] w fun e w' => e = .returned (.bool true) ∧ Below w.heap.size w w' := by
  obtain ⟨ao, cap, rfl, hcap, hm⟩ := hv.form
  by_cases hlen : xs.length ≤ 1048576
  · go_enter Try.func4, Try.ntmps4
    go_wp2_with fail
    go_at_call 14
    refine (toBoolS_any _ _ xs hv (by omega)).mono ?_; rintro e w1 ⟨v1, rfl, hO1, hB1⟩
    go_wp2_with fail
    go_at_call 17
    refine (spec_rises _ _ _ xs hO1.rd).mono ?_; rintro e w2 ⟨rfl, hB2⟩
    have hT := hB1
    subst hB2
    go_wp2_with fail
    go_at_call 14
    refine (toBoolS_any _ _ xs (Rd.below hv hT (Nat.le_refl _) (by decide)) (by omega)).mono ?_; rintro e w3 ⟨v3, rfl, hO3, hB3⟩
    have hT3 := hT.trans (hB3.mono hT.size)
    go_wp2_with fail
    go_at_call 18
    refine (impl_rises _ _ _ xs hO3.rd).mono ?_; rintro e w4 ⟨rfl, hB4⟩
    subst hB4; have hT4 := hT3
    have hR4 := hO3.rd
    go_wp2_with fail
    go_at_call 14
    refine (toBoolS_any _ _ xs (Rd.below hv hT4 (Nat.le_refl _) (by decide)) (by omega)).mono ?_; rintro e w5 ⟨v5, rfl, hO5, hB5⟩
    have hT5 := hT4.trans (hB5.mono hT4.size)
    go_wp2_with fail
    go_at_call 16
    refine (eqBoolS_same _ _ _ xs ((Rd.below hR4 hB5 (Nat.le_refl _) (by decide)).mono (Nat.zero_le _)) (hO5.rd.mono (Nat.zero_le _))).mono ?_; rintro e w6 ⟨rfl, hB6⟩
    go_wp2
    go_ret
    exact ⟨rfl, hT5.trans (hB6.mono hT5.size)⟩
  · go_enter Try.func4, Try.ntmps4
    go_wp2
    go_ret
    exact ⟨rfl, Below.refl _ _⟩

theorem exactBusy_walk (w : World) (v : Value) (xs : List Bool)  (hv : Bools w 0 v xs)  :
    Calls Try.prog 5 #[v] w fun e w' => e = .returned (.bool true) ∧ Below w.heap.size w w' := by
  obtain ⟨ao, cap, rfl, hcap, hm⟩ := hv.form
  by_cases hlen : xs.length ≤ 1048576
  · go_enter Try.func5, Try.ntmps5
    go_wp2_with fail
    go_at_call 14
    refine (toBoolS_any _ _ xs hv (by omega)).mono ?_; rintro e w1 ⟨v1, rfl, hO1, hB1⟩
    go_wp2_with fail
    go_at_call 19
    refine (spec_busy _ _ _ xs hO1.rd).mono ?_; rintro e w2 ⟨rfl, hB2⟩
    have hT := hB1
    subst hB2
    go_wp2_with fail
    go_at_call 14
    refine (toBoolS_any _ _ xs (Rd.below hv hT (Nat.le_refl _) (by decide)) (by omega)).mono ?_; rintro e w3 ⟨v3, rfl, hO3, hB3⟩
    have hT3 := hT.trans (hB3.mono hT.size)
    go_wp2_with fail
    go_at_call 20
    refine (impl_busy _ _ _ xs hO3.rd).mono ?_; rintro e w4 ⟨rfl, hB4⟩
    subst hB4; have hT4 := hT3
    have hR4 := hO3.rd
    go_wp2_with fail
    go_at_call 14
    refine (toBoolS_any _ _ xs (Rd.below hv hT4 (Nat.le_refl _) (by decide)) (by omega)).mono ?_; rintro e w5 ⟨v5, rfl, hO5, hB5⟩
    have hT5 := hT4.trans (hB5.mono hT4.size)
    go_wp2_with fail
    go_at_call 16
    refine (eqBoolS_same _ _ _ xs ((Rd.below hR4 hB5 (Nat.le_refl _) (by decide)).mono (Nat.zero_le _)) (hO5.rd.mono (Nat.zero_le _))).mono ?_; rintro e w6 ⟨rfl, hB6⟩
    go_wp2
    go_ret
    exact ⟨rfl, hT5.trans (hB6.mono hT5.size)⟩
  · go_enter Try.func5, Try.ntmps5
    go_wp2
    go_ret
    exact ⟨rfl, Below.refl _ _⟩
end Go.Proofs.Ytmckkbokebapcaa
