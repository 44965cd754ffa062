/- The laws FnExactLongestWait, FnExactShareWithin, FnExactWaitRank, walked. -/
import Derived.Test.YtiiaccigoilddaaFair2
import Derived.Test.YtiiaccigoilddaaSlI
namespace Go.Proofs.Ytiiaccigoilddaa
open Go.RowKit

theorem exactLongest_walk (w : World) (v : Value) (xs : List Int)  (hv : Ints w 0 v xs) (_hx : ∀ x ∈ xs, in64 x) :
    Calls Try.prog 3 #[v] w fun e w' => e = .returned (.bool true) ∧ Below w.heap.size w w' := by
  obtain ⟨ao, cap, rfl, hcap, hm⟩ := hv.form
  by_cases hlen : xs.length ≤ 1048576
  · go_enter Try.func3, Try.ntmps3
    go_wp2_with fail
    go_at_call 14
    refine (toIntS_any _ _ xs hv (by omega)).mono ?_; rintro e w1 ⟨v1, rfl, hO1, hB1⟩
    go_wp2_with fail
    go_at_call 13
    refine (spec_longest _ _ _ xs hO1.rd).mono ?_; rintro e w2 ⟨rfl, hB2⟩
    have hT := hB1
    subst hB2
    go_wp2_with fail
    go_at_call 14
    refine (toIntS_any _ _ xs (Rd.below hv hT (Nat.le_refl _) (by decide)) (by omega)).mono ?_; rintro e w3 ⟨v3, rfl, hO3, hB3⟩
    have hT3 := hT.trans (hB3.mono hT.size)
    go_wp2_with fail
    go_at_call 15
    refine (impl_longest _ _ _ xs hO3.rd).mono ?_; rintro e w4 ⟨rfl, hB4⟩
    subst hB4; have hT4 := hT3
    have hR4 := hO3.rd
    go_wp2_with fail
    go_at_call 14
    refine (toIntS_any _ _ xs (Rd.below hv hT4 (Nat.le_refl _) (by decide)) (by omega)).mono ?_; rintro e w5 ⟨v5, rfl, hO5, hB5⟩
    have hT5 := hT4.trans (hB5.mono hT4.size)
    go_wp2_with fail
    go_at_call 16
    refine (eqIntS_same _ _ _ xs ((Rd.below hR4 hB5 (Nat.le_refl _) (by decide)).mono (Nat.zero_le _)) (hO5.rd.mono (Nat.zero_le _))).mono ?_; rintro e w6 ⟨rfl, hB6⟩
    go_wp2
    go_ret
    exact ⟨rfl, hT5.trans (hB6.mono hT5.size)⟩
  · go_enter Try.func3, Try.ntmps3
    go_wp2
    go_ret
    exact ⟨rfl, Below.refl _ _⟩

theorem exactShare_walk (w : World) (v : Value) (xs : List Int) (n : Int) (hv : Ints w 0 v xs) (_hx : ∀ x ∈ xs, in64 x) (_hn : in64 n) :
    Calls Try.prog 6 #[v, .int .i64 n] w fun e w' => e = .returned (.bool true) ∧ Below w.heap.size w w' := by
  obtain ⟨ao, cap, rfl, hcap, hm⟩ := hv.form
  by_cases hlen : xs.length ≤ 1048576
  · go_enter Try.func6, Try.ntmps6
    go_wp2_with fail
    go_at_call 14
    refine (toIntS_any _ _ xs hv (by omega)).mono ?_; rintro e w1 ⟨v1, rfl, hO1, hB1⟩
    go_wp2_with fail
    go_at_call 19
    refine (spec_share _ _ _ xs n hO1.rd).mono ?_; rintro e w2 ⟨rfl, hB2⟩
    have hT := hB1
    subst hB2
    go_wp2_with fail
    go_at_call 14
    refine (toIntS_any _ _ xs (Rd.below hv hT (Nat.le_refl _) (by decide)) (by omega)).mono ?_; rintro e w3 ⟨v3, rfl, hO3, hB3⟩
    have hT3 := hT.trans (hB3.mono hT.size)
    go_wp2_with fail
    go_at_call 20
    refine (impl_share _ _ _ xs n hO3.rd).mono ?_; rintro e w4 ⟨rfl, hB4⟩
    subst hB4; have hT4 := hT3
    have hR4 := hO3.rd
    go_wp2_with fail
    go_at_call 14
    refine (toIntS_any _ _ xs (Rd.below hv hT4 (Nat.le_refl _) (by decide)) (by omega)).mono ?_; rintro e w5 ⟨v5, rfl, hO5, hB5⟩
    have hT5 := hT4.trans (hB5.mono hT4.size)
    go_wp2_with fail
    go_at_call 16
    refine (eqIntS_same _ _ _ xs ((Rd.below hR4 hB5 (Nat.le_refl _) (by decide)).mono (Nat.zero_le _)) (hO5.rd.mono (Nat.zero_le _))).mono ?_; rintro e w6 ⟨rfl, hB6⟩
    go_wp2
    go_ret
    exact ⟨rfl, hT5.trans (hB6.mono hT5.size)⟩
  · go_enter Try.func6, Try.ntmps6
    go_wp2
    go_ret
    exact ⟨rfl, Below.refl _ _⟩

theorem exactRank_walk (w : World) (v : Value) (xs : List Int) (n : Int) (hv : Ints w 0 v xs) (_hx : ∀ x ∈ xs, in64 x) (_hn : in64 n) :
    Calls Try.prog 9 #[v, .int .i64 n] w fun e w' => e = .returned (.bool true) ∧ Below w.heap.size w w' := by
  obtain ⟨ao, cap, rfl, hcap, hm⟩ := hv.form
  by_cases hlen : xs.length ≤ 1048576
  · go_enter Try.func9, Try.ntmps9
    go_wp2_with fail
    go_at_call 14
    refine (toIntS_any _ _ xs hv (by omega)).mono ?_; rintro e w1 ⟨v1, rfl, hO1, hB1⟩
    go_wp2_with fail
    go_at_call 22
    refine (spec_rank _ _ _ xs n hO1.rd).mono ?_; rintro e w2 ⟨rfl, hB2⟩
    have hT := hB1
    subst hB2
    go_wp2_with fail
    go_at_call 14
    refine (toIntS_any _ _ xs (Rd.below hv hT (Nat.le_refl _) (by decide)) (by omega)).mono ?_; rintro e w3 ⟨v3, rfl, hO3, hB3⟩
    have hT3 := hT.trans (hB3.mono hT.size)
    go_wp2_with fail
    go_at_call 23
    refine (impl_rank _ _ _ xs n hO3.rd).mono ?_; rintro e w4 ⟨rfl, hB4⟩
    subst hB4; have hT4 := hT3
    have hR4 := hO3.rd
    go_wp2_with fail
    go_at_call 14
    refine (toIntS_any _ _ xs (Rd.below hv hT4 (Nat.le_refl _) (by decide)) (by omega)).mono ?_; rintro e w5 ⟨v5, rfl, hO5, hB5⟩
    have hT5 := hT4.trans (hB5.mono hT4.size)
    go_wp2_with fail
    go_at_call 16
    refine (eqIntS_same _ _ _ xs ((Rd.below hR4 hB5 (Nat.le_refl _) (by decide)).mono (Nat.zero_le _)) (hO5.rd.mono (Nat.zero_le _))).mono ?_; rintro e w6 ⟨rfl, hB6⟩
    go_wp2
    go_ret
    exact ⟨rfl, hT5.trans (hB6.mono hT5.size)⟩
  · go_enter Try.func9, Try.ntmps9
    go_wp2
    go_ret
    exact ⟨rfl, Below.refl _ _⟩
end Go.Proofs.Ytiiaccigoilddaa
