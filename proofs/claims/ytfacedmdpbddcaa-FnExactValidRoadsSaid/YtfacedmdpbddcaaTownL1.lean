/- FnExactValidRoads: the walk. -/
import Derived.Test.YtfacedmdpbddcaaTown3
import Derived.Test.YtfacedmdpbddcaaTown6
import Derived.Test.YtfacedmdpbddcaaRows
import Derived.ProofKit
namespace Go.Proofs.Ytfacedmdpbddcaa
open Go.RowKit

theorem exactValidRoads_walk (w : World) (n : Int) (v : Value) (es : List Rod) (_hn : in64 n) (hv : Rods w 0 v es) (_hx : ∀ x ∈ es, RodOk x) :
    Calls Try.prog 3 #[.int .i64 n, v] w fun e w' => e = .returned (.bool true) ∧ Below w.heap.size w w' := by
  obtain ⟨ao, cap, rfl, hcap, hm⟩ := hv.form
  by_cases hlen : es.length ≤ 1048576
  · go_enter Try.func3, Try.ntmps3
    go_wp2_with fail
    go_at_call 11
    refine (szRoadS_any _ _ _ es hv).mono ?_; rintro e w0 ⟨rfl, hw0⟩
    subst hw0
    rw [if_pos hlen]
    go_wp2_with fail
    go_at_call 13
    refine (toRoadS_any _ _ es hv (by omega)).mono ?_; rintro e w1 ⟨v1, rfl, hO1, hB1⟩
    go_wp2_with fail
    go_at_call 12
    refine (spec_ValidRoads _ _ n _ es hO1.rd).mono ?_; rintro e w2 ⟨rfl, hB2⟩
    have hT := hB1.trans (hB2.mono hB1.size)
    go_wp2_with fail
    go_at_call 13
    refine (toRoadS_any _ _ es (Rd.below hv hT (Nat.le_refl _) (by decide)) (by omega)).mono ?_; rintro e w3 ⟨v3, rfl, hO3, hB3⟩
    have hT3 := hT.trans (hB3.mono hT.size)
    go_wp2_with fail
    go_at_call 14
    refine (impl_validRoads _ _ n _ es hO3.rd).mono ?_; rintro e w4 ⟨rfl, hB4⟩
    have hT4 := hT3.trans (hB4.mono hT3.size)
    have hR4 := Rd.below hO3.rd hB4 (Nat.le_refl _) (by decide)
    go_wp2_with fail
    go_at_call 13
    refine (toRoadS_any _ _ es (Rd.below hv hT4 (Nat.le_refl _) (by decide)) (by omega)).mono ?_; rintro e w5 ⟨v5, rfl, hO5, hB5⟩
    have hT5 := hT4.trans (hB5.mono hT4.size)
    go_wp2_with fail
    go_at_call 15
    refine (eqRoadS_same _ _ _ es ((Rd.below hR4 hB5 (Nat.le_refl _) (by decide)).mono (Nat.zero_le _)) (hO5.rd.mono (Nat.zero_le _))).mono ?_; rintro e w6 ⟨rfl, hB6⟩
    go_wp2
    go_ret
    exact ⟨rfl, hT5.trans (hB6.mono hT5.size)⟩
  · go_enter Try.func3, Try.ntmps3
    go_wp2_with fail
    go_at_call 11
    refine (szRoadS_any _ _ _ es hv).mono ?_; rintro e w0 ⟨rfl, hw0⟩
    subst hw0
    rw [if_neg hlen]
    go_wp2
    go_ret
    exact ⟨rfl, Below.refl _ _⟩

end Go.Proofs.Ytfacedmdpbddcaa
