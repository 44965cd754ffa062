/- FnStoppedTime: the walk. -/
import Derived.Test.YtfdnkfhldgcnmaaLog6
import Derived.Test.YtfdnkfhldgcnmaaLogD
import Derived.ProofKit
namespace Go.Proofs.Ytfdnkfhldgcnmaa
open Go.RowKit

set_option maxHeartbeats 2000000 in
theorem fnStoppedTime_walk (w : World) (v : Value) (bs : List UInt8) (hv : Bytes w 0 v bs) :
    Calls Try.prog 10 #[v] w fun e w' => e = .returned (.bool true) ∧ Below w.heap.size w w' := by
  obtain ⟨ao, cap, rfl, hcap, hm⟩ := hv.form
  by_cases hlen : bs.length ≤ 1048576
  · go_enter Try.func10, Try.ntmps10
    go_wp2_with fail
    go_at_call 30
    refine (drawStoppedTime _ _ bs hv).mono ?_; rintro e w1 ⟨v1, es, U, T, rfl, hr, hl31, hU, hT, hB⟩
    clear hv
    go_wp2_with fail
    go_at_call 29
    refine (impl_stoppedTime _ _ _ es U T hr).mono ?_; rintro e w2 ⟨rfl, hB2⟩
    have hr2 := Rd.below hr hB2 (Nat.le_refl _) (by decide)
    have hT2 := hB.trans (hB2.mono hB.size)
    clear hr hB2 hB
    go_wp2_with fail
    go_at_call 28
    refine (spec_stoppedTime _ _ _ es U T hr2).mono ?_; rintro e w3 ⟨rfl, hB3⟩
    have hr3 := Rd.below hr2 hB3 (Nat.le_refl _) (by decide)
    have hT3 := hT2.trans (hB3.mono hT2.size)
    clear hr2 hB3 hT2
    have hne : (!(stoppedT es U T == stoppedT es U T)) = false := by simp
    obtain ⟨b1, b2, _, b4⟩ := stopped_bd es U T
    by_cases hp : stoppedT es U T < 0
    · clear b4
      go_wp2_with fail
      go_at_call 28
      refine (spec_stoppedTime _ _ _ es U T hr3).mono ?_; rintro e w4 ⟨rfl, hB4⟩
      have hT4 := hT3.trans (hB4.mono hT3.size)
      go_wp2
      go_ret
      exact ⟨by simp, hT4⟩
    · have hok : validL es = true ∧ 0 ≤ U ∧ U ≤ 7 ∧ 0 ≤ T ∧ T ≤ 9999 := by
        apply Classical.byContradiction; intro h; have := b4 h; omega
      clear b4
      obtain ⟨hva, hU1, hU2, hT1, hT2⟩ := hok
      have dp : decide (stoppedT es U T < 0) = false := decide_eq_false hp
      by_cases hT9 : T = 9999
      · have dT : (T == 9999) = true := by simp [hT9]
        clear hT9
        go_wp2_with fail
        go_at_call 28
        refine (spec_stoppedTime _ _ _ es U T hr3).mono ?_; rintro e w4 ⟨rfl, hB4⟩
        have hT4 := hT3.trans (hB4.mono hT3.size)
        go_wp2
        go_ret
        exact ⟨by simp, hT4⟩
      · have dT : (T == 9999) = false := by simp [hT9]
        obtain ⟨l1, l2, l3, l4⟩ := stopped_law hva ⟨hU1, hU2⟩ (T := T) ⟨hT1, by omega⟩
        have h0 := Lib.hid (stopped_nil (U := U) (T := T) ⟨hU1, hU2⟩ ⟨hT1, hT2⟩)
        clear hT9 hva
        have wr1 : IntKind.i64.wrap (T + 1) = T + 1 := IntWalk.i64_in _ (by omega)
        have wr2 : IntKind.i64.wrap (stoppedT es U T + 1) = stoppedT es U T + 1 := IntWalk.i64_in _ (by omega)
        go_wp2_with fail
        go_at_call 29
        refine (impl_stoppedTime _ _ _ es U (T + 1) hr3).mono ?_; rintro e w4 ⟨rfl, hB4⟩
        have hT4 := hT3.trans (hB4.mono hT3.size)
        have d1 : decide (stoppedT es U T ≤ stoppedT es U (T + 1)) = true := decide_eq_true l3
        have d2 : decide (stoppedT es U (T + 1) ≤ stoppedT es U T + 1) = true := decide_eq_true l4
        have d3 : decide (stoppedT es U T ≤ T) = true := decide_eq_true l2
        go_wp2_with fail
        go_at_call 29
        refine (impl_stoppedTime _ 0 _ [] U T (Rd.nil _ _ _)).mono ?_; rintro e w5 ⟨rfl, hB5⟩
        have hT5 := hT4.trans (hB5.mono hT4.size)
        rw [h0.out]
        go_wp2
        go_ret
        exact ⟨rfl, hT5⟩
  · go_enter Try.func10, Try.ntmps10
    go_wp2
    go_ret
    exact ⟨rfl, Below.refl _ _⟩
end Go.Proofs.Ytfdnkfhldgcnmaa
