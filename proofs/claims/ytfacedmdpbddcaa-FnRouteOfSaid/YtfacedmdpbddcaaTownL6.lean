/- FnExactRouteOf: the walk. -/
import Derived.Test.YtfacedmdpbddcaaTown11
import Derived.Test.YtfacedmdpbddcaaTown3
import Derived.Test.YtfacedmdpbddcaaEqIS
import Derived.Test.YtfacedmdpbddcaaMkI
namespace Go.Proofs.Ytfacedmdpbddcaa
open Go.RowKit
set_option linter.unusedVariables false
set_option linter.unusedSimpArgs false

theorem routeL_pos {n : Int} {rs : List Rod} {s t : Int} (h : (routeL n rs s t).length ≠ 0) : ∃ N S T : Nat, n = N ∧ s = S ∧ t = T ∧ S < N ∧ T < N ∧ N ≤ 8 ∧ validR N rs = true ∧
    0 ≤ restD (restOf N rs T) S ∧ routeL n rs s t = routeN rs (restOf N rs T) N T (restD (restOf N rs T) S).toNat S := by
  unfold routeL at h ⊢
  by_cases ha : askR n rs s t = true ∧ 0 ≤ restD (restOf n rs t) s
  · obtain ⟨h1, h2, h3⟩ := askR_iff.1 ha.1
    obtain ⟨a1, a2, _, _⟩ := validR_iff.1 h1
    obtain ⟨N, rfl⟩ := Int.eq_ofNat_of_zero_le (show 0 ≤ n by omega)
    obtain ⟨S, rfl⟩ := Int.eq_ofNat_of_zero_le h2.1
    obtain ⟨T, rfl⟩ := Int.eq_ofNat_of_zero_le h3.1
    exact ⟨N, S, T, rfl, rfl, rfl, by omega, by omega, by omega, h1, ha.2, if_pos ha⟩
  · rw [if_neg ha] at h; simp at h
theorem route_along {N S T : Nat} {rs : List Rod} (hS : S < N) (hT : T < N) (hval : validR N rs = true) (h0 : 0 ≤ restD (restOf N rs T) S) :
    Town.Along N rs T (restOf N rs T) (routeN rs (restOf N rs T) N T (restD (restOf N rs T) S).toNat S) S :=
  (town_of hval (by omega) (by omega)).along _ S (by omega) (by omega) h0 (by omega)
theorem routeL_len (n : Int) (rs : List Rod) (s t : Int) : (routeL n rs s t).length ≤ 20001 := by
  by_cases h : (routeL n rs s t).length = 0
  · omega
  · obtain ⟨N, S, T, rfl, rfl, rfl, hS, hT, _, hval, h0, e⟩ := routeL_pos h
    rw [e]
    have := (route_along hS hT hval h0).2.2.2.1
    have := (rest_bd hval hT hS).2
    omega

set_option maxHeartbeats 1000000 in
theorem fnExactRouteOf_walk (w : World) (n : Int) (v : Value) (xs : List Rod) (s t : Int) (_ : in64 n) (hv : Rods w 0 v xs) (_ : ∀ e ∈ xs, RodOk e) (_ : in64 s) (_ : in64 t) :
    Calls Try.prog 10 #[.int .i64 n, v, .int .i64 s, .int .i64 t] w fun e w' => e = .returned (.bool true) ∧ Below w.heap.size w w' := by
  obtain ⟨ao, cap, rfl, hcap, hm⟩ := hv.form
  by_cases hlen : xs.length ≤ 1048576
  · skip
    go_enter Try.func10, Try.ntmps10
    go_wp2_with fail
    go_at_call 11
    refine (szRoadS_any _ _ _ xs hv).mono ?_; rintro e w1 ⟨rfl, rfl⟩
    first | rw [if_pos hlen] | rw [if_neg hlen]
    go_wp2_with fail
    go_at_call 13
    refine (toRoadS_any _ _ xs hv (by omega)).mono ?_; rintro e w1 ⟨v1, rfl, hO1, hB1⟩
    go_wp2_with fail
    go_at_call 27
    refine (spec_routeOf _ 0 n _ xs s t (hO1.rd.mono (Nat.zero_le _))).mono ?_; rintro e w2 ⟨v2, rfl, hW, hB2⟩
    have T2 := hB1.trans (hB2.mono hB1.size)
    go_wp2_with fail
    go_at_call 13
    refine (toRoadS_any _ _ xs (Rd.below hv T2 (Nat.le_refl _) (by decide)) (by omega)).mono ?_; rintro e w3 ⟨v3, rfl, hX, U3⟩
    go_wp2_with fail
    go_at_call 26
    refine (impl_routeOf _ 0 n _ xs s t (hX.rd.mono (Nat.zero_le _))).mono ?_; rintro e w4 ⟨v4, rfl, hG, V4⟩
    have U4 := U3.trans (V4.mono U3.size)
    go_wp2_with fail
    go_at_call 21
    refine (eqIntS_same _ _ _ (routeL n xs s t) (hG.rd.mono (Nat.zero_le _)) (Rd.mono (Rd.below hW.rd U4 (Nat.le_refl _) (by decide)) (Nat.zero_le _))).mono ?_; rintro e w5 ⟨rfl, hB5⟩
    have G5 : Below w4.heap.size w4 w5 := hB5
    have V5 := V4.trans (hB5.mono V4.size)
    have U5 := U4.trans (hB5.mono U4.size)
    have T5 := T2.trans (U5.mono T2.size)
    go_wp2_with fail
    go_at_call 13
    refine (toRoadS_any _ _ xs (Rd.below hv T5 (Nat.le_refl _) (by decide)) (by omega)).mono ?_; rintro e w6 ⟨v6, rfl, hY, hB6⟩
    have G6 := G5.trans (hB6.mono G5.size)
    have V6 := V5.trans (hB6.mono V5.size)
    have U6 := U5.trans (hB6.mono U5.size)
    go_wp2_with fail
    go_at_call 15
    refine (eqRoadS_same _ _ _ xs (Rd.mono (Rd.below hX.rd V6 (Nat.le_refl _) (by decide)) (Nat.zero_le _)) (hY.rd.mono (Nat.zero_le _))).mono ?_; rintro e w7 ⟨rfl, hB7⟩
    have G7 := G6.trans (hB7.mono G6.size)
    have V7 := V6.trans (hB7.mono V6.size)
    have U7 := U6.trans (hB7.mono U6.size)
    have hX7 := hX.below V7 (Nat.le_refl _)
    have hG7 := hG.below G7 (Nat.le_refl _)
    go_wp2_with fail
    go_at_call 22
    refine (markRoadS_any _ _ _ _ 1 _ hX7 (by omega)).mono ?_; rintro e w8 ⟨rfl, _, hm8⟩
    have hG8 := hG7.grown hm8 (fun k hk => .inl (hX.wblk hk).2)
    have U8 := U7.trans (below_of_grownBy hm8 (B := w2.heap.size) (U7.size) (fun k hk => (hX.wblk hk).1))
    go_wp2_with fail
    go_at_call 21
    refine (eqIntS_same _ _ _ (routeL n xs s t) (hG8.rd.mono (Nat.zero_le _)) (Rd.mono (Rd.below hW.rd U8 (Nat.le_refl _) (by decide)) (Nat.zero_le _))).mono ?_; rintro e w9 ⟨rfl, hB9⟩
    have hG9 := hG8.below hB9 (Nat.le_refl _)
    have U9 := U8.trans (hB9.mono U8.size)
    go_wp2_with fail
    go_at_call 23
    refine (markIntS_any _ _ _ _ 1 _ hG9 (by have := routeL_len n xs s t; omega)).mono ?_; rintro e w10 ⟨rfl, hG10, hm10⟩
    have U10 := U9.trans (below_of_grownBy hm10 (B := w2.heap.size) (U9.size) (fun k hk => Nat.le_trans U3.size (hG9.wblk hk).1))
    have T10 := T2.trans (U10.mono T2.size)
    go_wp2_with fail
    go_at_call 24
    refine (heldIntS_any _ _ _ _ 1 hG10.rd (by have := routeL_len n xs s t; omega)).mono ?_; rintro e w10' ⟨rfl, rfl⟩
    skip
    go_wp2_with fail
    go_at_call 13
    refine (toRoadS_any _ _ xs (Rd.below hv T10 (Nat.le_refl _) (by decide)) (by omega)).mono ?_; rintro e w11 ⟨v11, rfl, hZ, hB11⟩
    have U11 := U10.trans (hB11.mono U10.size)
    have hG11 := hG10.below hB11 (Nat.le_refl _)
    go_wp2_with fail
    go_at_call 26
    refine (impl_routeOf _ 0 n _ xs s t (hZ.rd.mono (Nat.zero_le _))).mono ?_; rintro e w12 ⟨v12, rfl, hH, hB12⟩
    have U12 := U11.trans (hB12.mono U11.size)
    have hG12 := hG11.below hB12 (Nat.le_refl _)
    go_wp2_with fail
    go_at_call 21
    refine (eqIntS_same _ _ _ (routeL n xs s t) (hH.rd.mono (Nat.zero_le _)) (Rd.mono (Rd.below hW.rd U12 (Nat.le_refl _) (by decide)) (Nat.zero_le _))).mono ?_; rintro e w13 ⟨rfl, hB13⟩
    have U13 := U12.trans (hB13.mono U12.size)
    have hG13 := hG12.below hB13 (Nat.le_refl _)
    go_wp2_with fail
    go_at_call 24
    refine (heldIntS_any _ _ _ _ 1 hG13.rd (by have := routeL_len n xs s t; omega)).mono ?_; rintro e w14 ⟨rfl, rfl⟩
    go_wp2
    go_ret
    exact ⟨rfl, (T2.trans (U13.mono T2.size))⟩
  · skip
    go_enter Try.func10, Try.ntmps10
    go_wp2_with fail
    go_at_call 11
    refine (szRoadS_any _ _ _ xs hv).mono ?_; rintro e w1 ⟨rfl, rfl⟩
    first | rw [if_pos hlen] | rw [if_neg hlen]
    go_wp2_with fail
    go_ret
    exact ⟨rfl, (Below.refl _ _)⟩

end Go.Proofs.Ytfacedmdpbddcaa
