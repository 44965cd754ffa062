/- FnValidRoads: the walk. -/
import Derived.Test.YtfacedmdpbddcaaTownD
import Derived.Test.YtfacedmdpbddcaaTown9
import Derived.ProofKit
import Derived.Deep.RegionHeld3
namespace Go.Proofs.Ytfacedmdpbddcaa
open Go.RowKit
set_option linter.unusedVariables false
set_option linter.unusedSimpArgs false

theorem flat_take (k : Nat) : ∀ es : List Rod, k ≤ es.length → (es.take k).flatMap rodCells = (es.flatMap rodCells).take (k * 3) := by
  induction k with
  | zero => intro es _; simp
  | succ k ih =>
    intro es h
    cases es with
    | nil => simp at h
    | cons x r =>
      have e1 : (k + 1) * 3 = k * 3 + 1 + 1 + 1 := by omega
      rw [e1, List.take_succ_cons, List.flatMap_cons, List.flatMap_cons, ih r (by simpa using h)]
      simp [rodCells]

theorem Rods.take' {w : World} {lo : Nat} {ao : Option Addr} {n cap k : Nat} {es : List Rod} (h : Rods w lo (.slice ao n cap) es) (hk : k ≤ es.length) : Rods w lo (.slice ao k cap) (es.take k) := by
  obtain ⟨h1, ao', cap', h2, h3, h4, h5, h6⟩ := h
  cases h2
  have hl : (es.take k).length = k := by simp; omega
  unfold Rods
  rw [hl, flat_take k es hk]
  refine ⟨by rw [List.length_take]; omega, ao, cap, rfl, by omega, h4, h5, fun h0 => ?_⟩
  obtain ⟨b', off', e, hb, hc⟩ := h6 (by omega)
  refine ⟨b', off', e, hb, fun i hi => ?_⟩
  rw [List.length_take] at hi
  rw [hc i (by omega), List.getElem_take]


set_option maxHeartbeats 4000000 in
theorem fnValidRoads_walk (w : World) (v : Value) (bs : List UInt8) (hv : Bytes w 0 v bs) :
    Calls Try.prog 4 #[v] w fun e w' => e = .returned (.bool true) ∧ Below w.heap.size w w' := by
  obtain ⟨ao, cap, rfl, hcap, hm⟩ := hv.form
  by_cases hlen : bs.length ≤ 1048576
  · go_enter Try.func4, Try.ntmps4
    go_wp2_with fail
    go_at_call 16
    refine (drawValidRoads _ _ bs hv).mono ?_; rintro e w1 ⟨n, v1, rs, rfl, hr1, hl24, hn, hB⟩
    clear hv
    obtain ⟨ao1, cap1, rfl, hcap1, hm1⟩ := hr1.form
    go_wp2_with fail
    go_at_call 14
    refine (impl_validRoads _ 0 n _ rs hr1).mono ?_; rintro e w2 ⟨rfl, hB2⟩
    have hr2 : Rods w2 0 _ rs := Rd.below hr1 hB2 (Nat.le_refl _) (by decide)
    have hT2 := hB.trans (hB2.mono hB.size)
    clear hr1 hB2 hB
    go_wp2_with fail
    go_at_call 12
    refine (spec_ValidRoads _ 0 n _ rs hr2).mono ?_; rintro e w3 ⟨rfl, hB3⟩
    have hr3 : Rods w3 0 _ rs := Rd.below hr2 hB3 (Nat.le_refl _) (by decide)
    have hT3 := hT2.trans (hB3.mono hT2.size)
    clear hr2 hB3 hT2
    by_cases hgo : validR n rs = true ∧ 0 < rs.length
    · obtain ⟨hval, hl0⟩ := hgo
      rw [hval]
      have hln : ((rs.length : Int) == 0) = false := beq_eq_false_iff_ne.mpr (by omega)
      obtain ⟨a1, a2, a3, a4⟩ := validR_iff.1 hval
      obtain ⟨N, rfl⟩ := Int.eq_ofNat_of_zero_le (show 0 ≤ n by omega)
      have hS : 0 < N := by omega
      obtain ⟨q, hq⟩ : ∃ q, rs.length = q + 1 := ⟨rs.length - 1, by omega⟩
      have hpre : Rods w3 0 (.slice ao1 q cap1) (rs.take q) := by rw [hq] at hr3; exact Rods.take' hr3 (by omega)
      have wr1 : IntKind.i64.wrap ((rs.length : Int) - 1) = (q : Int) := by rw [IntWalk.i64_in _ (by omega)]; omega
      have HV := Lib.hid hval
      have hvl := less_valid hval q
      have hTT : Hid (ttL N rs 0 = times N rs 0) := by unfold Hid ttL; rw [if_pos (askT_iff.2 ⟨hval, by omega, by omega⟩)]; simp
      have hTL : Hid (ttL N (rs.take q) 0 = times N (rs.take q) 0) := by unfold Hid ttL; rw [if_pos (askT_iff.2 ⟨hvl, by omega, by omega⟩)]; simp
      have HVL := Lib.hid hvl
      have g3 : (0 : Int) ≤ (rs.length : Int) - 1 := by omega
      have g4 : (rs.length : Int) - 1 < (rs.length : Int) := by omega
      have g5 : (rs.length : Int) - 1 ≤ (cap1 : Int) := by omega
      have g6 : ((rs.length : Int) - 1).toNat = q := by omega
      have HQ := Lib.hid hq
      clear a4 hval hvl hq
      go_wp2_with fail
      go_at_call 17
      refine (impl_travelTimes _ 0 N _ rs 0 hr3).mono ?_; rintro e w4 ⟨v4, rfl, hO4, hB4⟩
      rw [hTT.out, times_len] at hO4
      have hp4 : Rods w4 0 _ (rs.take q) := Rd.below hpre hB4 (Nat.le_refl _) (by decide)
      have hT4 := hT3.trans (hB4.mono hT3.size)
      clear hpre hr3 hB4 hT3
      go_wp2_with fail
      go_at_call 17
      refine (impl_travelTimes _ 0 N _ (rs.take q) 0 hp4).mono ?_; rintro e w5 ⟨v5, rfl, hO5, hB5⟩
      rw [hTL.out, times_len] at hO5
      have hp5 : Rods w5 0 _ (rs.take q) := Rd.below hp4 hB5 (Nat.le_refl _) (by decide)
      have hO45 := hO4.below hB5 (Nat.le_refl _)
      have hT5 := hT4.trans (hB5.mono hT4.size)
      obtain ⟨ao4, cap4, rfl, hcap4, hm4⟩ := hO45.form
      obtain ⟨g4', rfl, _, _, _, _, _⟩ := hO45.parts (by omega)
      obtain ⟨ao5, cap5, rfl, hcap5, hm5⟩ := hO5.form
      obtain ⟨g5', rfl, _, _, _, _, _⟩ := hO5.parts (by omega)
      have HC4 : Hid (∀ v, v < N → w5.cell? ⟨g4', v, none⟩ = some (.int .i64 ((times N rs 0).getD v 0))) := fun v hv => (ints_cell hO45 hv).1
      have HC5 : Hid (∀ v, v < N → w5.cell? ⟨g5', v, none⟩ = some (.int .i64 ((times N (rs.take q) 0).getD v 0))) := fun v hv => (ints_cell hO5 hv).1
      have HT := Lib.hid hT5
      clear hO4 hO5 hO45 hB5 hT4 hT5 hp4
      go_wp2_with fail
      go_loopw [9] (fun i wo => ∃ k : Nat, k ≤ N ∧ i = .int .i64 k ∧ Below w5.heap.size w5 wo) (fun i _ => N - (intOf i).toNat)
      case atStart => exact ⟨0, Nat.zero_le _, rfl, Below.refl _ _⟩
      case round =>
        obtain ⟨k, hk, rfl, hB⟩ := hrel
        by_cases hlt : k < N
        · have p1 := HC4.out k hlt
          have p2 := HC5.out k hlt
          rw [← hB.cell (p := ⟨g4', k, none⟩) (World.block_lt_of_cell? w5 ⟨g4', k, none⟩ p1)] at p1
          rw [← hB.cell (p := ⟨g5', k, none⟩) (World.block_lt_of_cell? w5 ⟨g5', k, none⟩ p2)] at p2
          have hle := fun h => tt_less (k := q) HV.out hS (v := k) hlt h
          obtain ⟨a, ha⟩ : ∃ a, a = (times N rs 0).getD k 0 := ⟨_, rfl⟩
          obtain ⟨c, hcc⟩ : ∃ c, c = (times N (rs.take q) 0).getD k 0 := ⟨_, rfl⟩
          rw [← ha] at p1 hle
          rw [← hcc] at p2 hle
          have hk0 : (0 : Int) ≤ (k : Int) := by omega
          have hk1 : (k : Int) < (N : Int) := by omega
          have dkn : decide (N ≤ k) = false := decide_eq_false (by omega)
          have dk : decide ((N : Int) ≤ (k : Int)) = false := decide_eq_false (by omega)
          clear ha hcc
          by_cases h0 : 0 ≤ c
          · obtain ⟨h1, h2⟩ := hle h0
            have d0 : decide (0 ≤ c) = true := decide_eq_true h0
            have d1 : decide (a < 0) = false := decide_eq_false (by omega)
            have d2 : decide (c < a) = false := decide_eq_false (by omega)
            clear hle
            go_wp2_with fail
            go_quiet (fail)
            go_wp2
            go_roundw
            case rel => exact ⟨k + 1, by omega, by go_num, below_drewN hB _⟩
            case measure => simp [intOf]; omega
          · have d0 : decide (0 ≤ c) = false := decide_eq_false h0
            clear hle
            go_wp2_with fail
            go_quiet (fail)
            go_wp2
            go_roundw
            case rel => exact ⟨k + 1, by omega, by go_num, below_drewN hB _⟩
            case measure => simp [intOf]; omega
        · have hp6 : Rods wr 0 _ (rs.take q) := Rd.below hp5 hB (Nat.le_refl _) (by decide)
          have hT6 := Lib.hid (HT.out.trans (hB.mono HT.out.size))
          go_wp2_with fail
          go_at_call 14
          refine (impl_validRoads _ 0 N _ (rs.take q) hp6).mono ?_; rintro e w7 ⟨rfl, hB7⟩
          rw [HVL.out]
          go_wp2
          go_ret
          exact ⟨rfl, hT6.out.trans (hB7.mono hT6.out.size)⟩
    · by_cases hva : validR n rs = true
      · have h0 : rs.length = 0 := by
          apply Classical.byContradiction; intro h; exact hgo ⟨hva, by omega⟩
        have hln : ((rs.length : Int) == 0) = true := by rw [h0]; rfl
        rw [hva]
        clear hgo h0
        go_wp2_with fail
        go_at_call 12
        refine (spec_ValidRoads _ 0 n _ rs hr3).mono ?_; rintro e w4 ⟨rfl, hB4⟩
        rw [hva]
        go_wp2
        go_ret
        exact ⟨rfl, hT3.trans (hB4.mono hT3.size)⟩
      · have hva : validR n rs = false := by simpa using hva
        rw [hva]
        clear hgo
        go_wp2_with fail
        go_at_call 12
        refine (spec_ValidRoads _ 0 n _ rs hr3).mono ?_; rintro e w4 ⟨rfl, hB4⟩
        rw [hva]
        go_wp2
        go_ret
        exact ⟨rfl, hT3.trans (hB4.mono hT3.size)⟩
  · go_enter Try.func4, Try.ntmps4
    go_wp2
    go_ret
    exact ⟨rfl, Below.refl _ _⟩
end Go.Proofs.Ytfacedmdpbddcaa
