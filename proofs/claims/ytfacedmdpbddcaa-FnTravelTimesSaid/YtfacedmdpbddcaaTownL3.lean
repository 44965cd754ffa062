/- FnTravelTimes: the walk. -/
import Derived.Test.YtfacedmdpbddcaaTownD
import Derived.Test.YtfacedmdpbddcaaTown9
import Derived.Test.YtfacedmdpbddcaaEqI
import Derived.ProofKit
import Derived.Deep.RegionHeld3
namespace Go.Proofs.Ytfacedmdpbddcaa
open Go.RowKit
set_option linter.unusedVariables false
set_option linter.unusedSimpArgs false

set_option maxHeartbeats 4000000 in
theorem fnTravelTimes_walk (w : World) (v : Value) (bs : List UInt8) (hv : Bytes w 0 v bs) :
    Calls Try.prog 5 #[v] w fun e w' => e = .returned (.bool true) ∧ Below w.heap.size w w' := by
  obtain ⟨ao, cap, rfl, hcap, hm⟩ := hv.form
  by_cases hlen : bs.length ≤ 1048576
  · go_enter Try.func5, Try.ntmps5
    go_wp2_with fail
    go_at_call 18
    refine (drawTravelTimes _ _ bs hv).mono ?_; rintro e w1 ⟨n, v1, rs, s, rfl, hr0, hl24, hn, hs, hB⟩
    have hr1 : Rods w1 0 v1 rs := hr0.mono (Nat.zero_le _)
    clear hv hr0
    obtain ⟨ao1, cap1, rfl, hcap1, hm1⟩ := hr1.form
    go_wp2_with fail
    go_at_call 17
    refine (impl_travelTimes _ 0 n _ rs s hr1).mono ?_; rintro e w2 ⟨v2, rfl, hO2, hB2⟩
    have hr2 : Rods w2 0 _ rs := Rd.below hr1 hB2 (Nat.le_refl _) (by decide)
    have hT2 := hB.trans (hB2.mono hB.size)
    clear hr1 hB2 hB
    go_wp2_with fail
    go_at_call 20
    refine (spec_travelTimes _ 0 n _ rs s hr2).mono ?_; rintro e w3 ⟨v3, rfl, hO3, hB3⟩
    have hr3 : Rods w3 0 _ rs := Rd.below hr2 hB3 (Nat.le_refl _) (by decide)
    have hO23 := hO2.below hB3 (Nat.le_refl _)
    have hT3 := hT2.trans (hB3.mono hT2.size)
    clear hr2 hB3 hT2 hO2
    have hI3 : Ints w3 0 v2 (ttL n rs s) := hO23.rd.mono (Nat.zero_le _)
    have hJ3 : Ints w3 0 v3 (ttL n rs s) := hO3.rd.mono (Nat.zero_le _)
    go_wp2_with fail
    go_at_call 19
    refine (equalInts_same _ _ _ (ttL n rs s) hI3 hJ3).mono ?_; rintro e w4 ⟨rfl, hB4⟩
    have hr4 : Rods w4 0 _ rs := Rd.below hr3 hB4 (Nat.le_refl _) (by decide)
    have hO4 := hO23.below hB4 (Nat.le_refl _)
    have hI4 : Ints w4 0 v2 (ttL n rs s) := hO4.rd.mono (Nat.zero_le _)
    have hT4 := hT3.trans (hB4.mono hT3.size)
    clear hr3 hB4 hT3 hO23 hO3 hI3 hJ3
    obtain ⟨ao2, cap2, rfl, hcap2, hm2⟩ := hI4.form
    by_cases hz : (ttL n rs s).length = 0
    · have hz1 : (((ttL n rs s).length : Int) == 0) = true := by rw [hz]; rfl
      clear hz
      go_wp2_with fail
      go_at_call 20
      refine (spec_travelTimes _ 0 n _ rs s hr4).mono ?_; rintro e w5 ⟨v5, rfl, hO5, hB5⟩
      have hT5 := hT4.trans (hB5.mono hT4.size)
      have hI5 : Ints w5 0 _ (ttL n rs s) := Rd.below hI4 hB5 (Nat.le_refl _) (by decide)
      have hJ5 : Ints w5 0 v5 (ttL n rs s) := hO5.rd.mono (Nat.zero_le _)
      clear hz1 hI4 hO5 hB5 hr4 hO4
      go_wp2_with fail
      go_at_call 19
      refine (equalInts_same _ _ _ (ttL n rs s) hI5 hJ5).mono ?_; rintro e w6 ⟨rfl, hB6⟩
      go_wp2
      go_ret
      exact ⟨rfl, hT5.trans (hB6.mono hT5.size)⟩
    · have hz1 : (((ttL n rs s).length : Int) == 0) = false := beq_eq_false_iff_ne.mpr (by omega)
      obtain ⟨N, S, rfl, rfl, hS, hN8, hval, htt⟩ := ttL_pos hz
      rw [htt] at hI4 hz1 hcap2 hO4 ⊢
      rw [times_len] at hz1 hcap2 ⊢
      have HT := Lib.hid hT4
      have hN1 : 1 ≤ N := by omega
      have HI : Hid (∀ v, v < N → ∃ b off, ao2 = some ⟨b, off, none⟩ ∧ w4.cell? ⟨b, off + v, none⟩ = some (.int .i64 ((times N rs S).getD v 0))) := fun v hv => by
        obtain ⟨b, off, rfl, _, _, hc⟩ := hI4.spot 0 (by rw [times_len]; omega)
        exact ⟨b, off, rfl, hc v (by rw [times_len]; exact hv)⟩
      have hA2 : ∃ b2 off2, ao2 = some ⟨b2, off2, none⟩ ∧ b2 < w4.heap.size := by
        obtain ⟨b, off, rfl, _, hlt, hc⟩ := hI4.spot 0 (by rw [times_len]; omega)
        exact ⟨b, off, rfl, hlt⟩
      obtain ⟨b2, off2, rfl, hb2⟩ := hA2
      have HC : Hid (∀ v, v < N → w4.cell? ⟨b2, off2 + v, none⟩ = some (.int .i64 ((times N rs S).getD v 0))) := fun v hv => by
        obtain ⟨b, off, e1, hc⟩ := HI.out v hv
        cases e1; exact hc
      have HV := Lib.hid hval
      have HR : Hid (∀ i, i < rs.length → rs.getD i r0 ∈ rs) := fun i hi => by simp [hi]
      have HOK : Hid (∀ r ∈ rs, 0 ≤ r.f ∧ r.f < N ∧ 0 ≤ r.t ∧ r.t < N ∧ 1 ≤ r.c ∧ r.c ≤ 60) := fun r hr => by have := okR_iff.1 (validR_mem hval hr); omega
      clear hI4 hT4 HI htt hz hval
      have hs0 : (0 : Int) ≤ (S : Int) := by omega
      have hs1 : (S : Int) < (N : Int) := by omega
      go_wp2_with fail
      go_loop [7] (fun i => ∃ k : Nat, k ≤ rs.length ∧ i = .int .i64 k) (fun i => rs.length - (intOf i).toNat)
      case atStart => exact ⟨0, by omega, rfl⟩
      case round =>
        obtain ⟨k, hk, rfl⟩ := hrel
        by_cases hlt : k < rs.length
        · obtain ⟨b, off, rfl, _, hb1, hc⟩ := Rods.spot hr4 (by omega)
          obtain ⟨s1, s2, s3⟩ := hc k hlt
          have hx0 := HOK.out _ (HR.out k hlt)
          have hro := fun F T hf ht h0 => tt_road HV.out hS (HR.out k hlt) (F := F) (T := T) hf ht h0
          obtain ⟨x, hx⟩ : ∃ x, x = rs.getD k r0 := ⟨_, rfl⟩
          rw [← hx] at s1 s2 s3 hx0 hro
          obtain ⟨xf, xt, xc⟩ := x
          simp only at s1 s2 s3 hx0 hro
          obtain ⟨x1, x2, x3, x4, x5, x6⟩ := hx0
          obtain ⟨F, rfl⟩ := Int.eq_ofNat_of_zero_le x1
          obtain ⟨T, rfl⟩ := Int.eq_ofNat_of_zero_le x3
          have hro2 := hro F T rfl rfl
          have cF := HC.out F (by omega)
          have cT := HC.out T (by omega)
          have bF := tt_bd HV.out hS (v := F) (by omega)
          obtain ⟨a, ha⟩ : ∃ a, a = (times N rs S).getD F 0 := ⟨_, rfl⟩
          obtain ⟨c, hcc⟩ : ∃ c, c = (times N rs S).getD T 0 := ⟨_, rfl⟩
          rw [← ha] at cF bF hro2
          rw [← hcc] at cT hro2
          clear hc hx hro ha hcc hr4
          by_cases h0 : 0 ≤ a
          · obtain ⟨h1, h2⟩ := hro2 h0
            clear hro2
            go_wp2_with fail
            go_round
            case rel => exact ⟨k + 1, by omega, by go_num⟩
            case measure => simp [intOf]; omega
          · clear hro2
            go_wp2_with fail
            go_round
            case rel => exact ⟨k + 1, by omega, by go_num⟩
            case measure => simp [intOf]; omega
        · have cS := HC.out S (by omega)
          rw [tt_self HV.out hS] at cS
          go_wp2_with fail
          go_ret
          exact ⟨rfl, HT.out⟩
  · go_enter Try.func5, Try.ntmps5
    go_wp2
    go_ret
    exact ⟨rfl, Below.refl _ _⟩
end Go.Proofs.Ytfacedmdpbddcaa
