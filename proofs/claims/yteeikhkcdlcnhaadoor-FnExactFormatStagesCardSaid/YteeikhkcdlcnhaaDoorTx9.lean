/- FnExactFormatStages: the walk. -/
import Derived.Test.YteeikhkcdlcnhaaDoorTx8
namespace Go.Proofs.YteeikhkcdlcnhaaDoor
open Go.RowKit
set_option linter.unusedVariables false
set_option linter.unusedSimpArgs false

set_option maxHeartbeats 8000000 in
theorem fnExactFormatStages_walk (w : World) (v : Value) (ss : List Stg) (hv : StgS w 0 v ss) :
    Calls Tryd.prog 3 #[v] w fun e w' => e = .returned (.bool true) ∧ Below w.heap.size w w' := by
  have HV := Lib.hid hv
  clear hv
  go_enter Tryd.func3, Tryd.ntmps3
  go_wp2_with fail
  go_at_call 7
  refine (szStageS_any _ 0 _ ss 1048576 HV.out (by omega)).mono ?_; rintro e w1 ⟨r, rfl, ⟨hr1, hr2, hr3⟩, hB1⟩
  by_cases hr0 : r < 0
  · clear hr1 hr2 hr3
    go_wp2_with fail
    go_ret
    exact ⟨rfl, hB1⟩
  · obtain ⟨q1, q2⟩ := hr3 (by omega)
    have hn1 : ss.length ≤ 2097152 := by omega
    have HN2 : Hid (∀ i, i < ss.length → (ss.getD i s0).ph.length ≤ 2097152) := fun i hi => by have := q2 i hi; omega
    have HV1 := Lib.hid (HV.out.below hB1 (Nat.le_refl _))
    obtain ⟨S, hS⟩ : ∃ S : ByteArray, S = ⟨(fmtO ss).toArray⟩ := ⟨_, rfl⟩
    have HS := Lib.hid hS
    have hse : (S.toList == S.toList) = true := by simp
    clear hr1 hr2 hr3 q1 q2 hS
    go_wp2_with fail
    go_at_call 9
    refine (toStageS_any _ _ ss HV1.out hn1 HN2.out).mono ?_; rintro e w2 ⟨v2, rfl, hO2, hB2'⟩
    have hB2 := hB1.trans (hB2'.mono hB1.size)
    have HV2 := Lib.hid (HV.out.below hB2 (Nat.le_refl _))
    have HO2 := Lib.hid (hO2.stg)
    clear HV1 hB2' hO2
    go_wp2_with fail
    go_at_call 8
    refine (spec_format _ _ _ ss HO2.out).mono ?_; rintro e w3 ⟨rfl, hB3'⟩
    rw [← HS.out]
    have hB3 := hB2.trans (hB3'.mono hB2.size)
    have HV3 := Lib.hid (HV.out.below hB3 (Nat.le_refl _))
    clear HV2 HO2 hB3' hB2
    go_wp2_with fail
    go_at_call 9
    refine (toStageS_any _ _ ss HV3.out hn1 HN2.out).mono ?_; rintro e w4 ⟨v4, rfl, hO4, hB4'⟩
    have hB4 := hB3.trans (hB4'.mono hB3.size)
    have HV4 := Lib.hid (HV.out.below hB4 (Nat.le_refl _))
    have HO4 := Lib.hid (hO4.stg)
    clear HV3 hB4' hB3 hO4
    go_wp2_with fail
    go_at_call 10
    refine (impl_format _ _ _ ss HO4.out).mono ?_; rintro e w5 ⟨rfl, hB5'⟩
    rw [← HS.out]
    have hB5 := hB4.trans (hB5'.mono hB4.size)
    have HV5 := Lib.hid (HV.out.below hB5 (Nat.le_refl _))
    have HO5 := Lib.hid (HO4.out.below hB5' (Nat.le_refl _))
    clear HV4 HO4 hB5' hB4
    go_wp2_with fail
    go_at_call 9
    refine (toStageS_any _ _ ss HV5.out hn1 HN2.out).mono ?_; rintro e w6 ⟨v6, rfl, hO6, hB6'⟩
    have hB6 := hB5.trans (hB6'.mono hB5.size)
    have HO6 := Lib.hid ((HO5.out.below hB6' (Nat.le_refl _)).mono (Nat.zero_le _))
    have HP6 := Lib.hid (hO6.stg.mono (Nat.zero_le _))
    clear HV5 HO5 hB6' hB5 hO6
    go_wp2_with fail
    go_at_call 11
    refine (eqStageS_same _ _ _ ss HO6.out HP6.out).mono ?_; rintro e w7 ⟨rfl, hB7⟩
    go_wp2_with fail
    go_ret
    exact ⟨rfl, hB6.trans (hB7.mono hB6.size)⟩
end Go.Proofs.YteeikhkcdlcnhaaDoor
