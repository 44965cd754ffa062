/- FnExactParseStages: the walk. -/
import Derived.Test.YteeikhkcdlcnhaaDoorTx22
namespace Go.Proofs.YteeikhkcdlcnhaaDoor
open Go.RowKit
set_option linter.unusedVariables false
set_option linter.unusedSimpArgs false

theorem ownStg_nil (w : World) (lo : Nat) : OwnStg w lo (.slice none 0 0) [] := ⟨[], Own.nil _ _ _ _, RowsO.nil _ _ _, fun j hj => by simp at hj⟩
theorem parse_small {l : List UInt8} {ss : List Stg} (h : parseO l = some ss) : ss.length ≤ 5 ∧ ∀ i, i < ss.length → (ss.getD i s0).ph.length ≤ 8 := by
  unfold parseO at h
  split at h
  · rename_i h5
    obtain ⟨i1, i2, i3⟩ := parseL_some _ _ h
    refine ⟨by rw [i3]; simpa using h5, fun i hi => ?_⟩
    have := i1 (ss.getD i s0) (by rw [List.getD_eq_getElem?_getD, List.getElem?_eq_getElem hi]; simp)
    exact moves_len (stOkT_iff.1 this).1
  · cases h
def ParU (ss : List Stg) (ok : Bool) (w : World) (e : Ending) (w' : World) : Prop :=
  ∃ v : Value, e = .returned (.tuple #[v, .bool ok]) ∧ OwnStg w' w.heap.size v ss ∧ Below w.heap.size w w'
theorem parU_of (l : List UInt8) : ∃ ss ok, ss.length ≤ 5 ∧ (∀ i, i < ss.length → (ss.getD i s0).ph.length ≤ 8) ∧ ∀ (w : World) (e : Ending) (w' : World), ParRet l w e w' → ParU ss ok w e w' := by
  cases hp : parseO l with
  | none =>
    refine ⟨[], false, by simp, fun i hi => by simp at hi, ?_⟩
    rintro w e w' ⟨v, ok, rfl, h | ⟨rfl, _, rfl⟩, hB⟩
    · obtain ⟨_, x, hx, _⟩ := h; rw [hp] at hx; cases hx
    · exact ⟨_, rfl, ownStg_nil _ _, hB⟩
  | some ss =>
    refine ⟨ss, true, (parse_small hp).1, (parse_small hp).2, ?_⟩
    rintro w e w' ⟨v, ok, rfl, ⟨rfl, x, hx, hO⟩ | ⟨_, hx, _⟩, hB⟩
    · rw [hp] at hx; cases hx; exact ⟨v, rfl, hO, hB⟩
    · rw [hp] at hx; cases hx

set_option maxRecDepth 100000 in
set_option maxHeartbeats 16000000 in
theorem fnExactParseStages_walk (w : World) (S : ByteArray) (hmx : S.size ≤ maxLen) :
    Calls Tryd.prog 4 #[.string S] w fun e w' => e = .returned (.bool true) ∧ Below w.heap.size w w' := by
  clear hmx
  by_cases hbig : 1048576 < S.size
  · have d1 : (1048576 : Int) < (S.size : Int) := by omega
    go_enter Tryd.func4, Tryd.ntmps4
    go_wp2_with fail
    go_ret
    exact ⟨rfl, Below.refl _ _⟩
  have d1 : ¬ (1048576 : Int) < (S.size : Int) := by omega
  have hS : Str8 S S.data.toList := str8_self S
  have hl : S.data.toList.length ≤ 1000000000 := by rw [← hS.size]; omega
  obtain ⟨ss, ok, h5, h8, hU⟩ := parU_of S.data.toList
  have hn : ss.length ≤ 2097152 := by omega
  have hr : ∀ i, i < ss.length → (ss.getD i s0).ph.length ≤ 2097152 := fun i hi => by have := h8 i hi; omega
  have htb := tots_bd h8 ss.length (Nat.le_refl _)
  have HSP : Hid (∀ w', Calls Tryd.prog 12 #[.string S] w' (ParU ss ok w')) := fun w' => (spec_parse w' S _ hS hl).mono (hU w')
  have HIM : Hid (∀ w', Calls Tryd.prog 13 #[.string S] w' (ParU ss ok w')) := fun w' => (impl_parse w' S _ hS hl).mono (hU w')
  obtain ⟨m, hm⟩ : ∃ m, m = 1 + tots ss ss.length := ⟨_, rfl⟩
  have hmb : m ≤ 1000 := by have : ss.length * (8 + 1) ≤ 5 * (8 + 1) := Nat.mul_le_mul_right _ h5; omega
  have HMK : Hid (∀ w' lo hi v hs, StgY w' lo hi v hs ss → Calls Tryd.prog 14 #[v, .int .i64 1] w' fun e w2 => e = .returned (.int .i64 (m : Int)) ∧ StgY w2 lo hi v hs (mStS ss 1 ss.length) ∧ ChgIn lo hi w' w2) := fun w' lo hi v hs h => by
    have := markStageS_any w' lo hi v hs ss 1 h hn hr (by omega)
    rw [hm]; exact this
  have HHD : Hid (∀ w' lo v, StgS w' lo v (mStS ss 1 ss.length) → Calls Tryd.prog 15 #[v, .int .i64 1] w' fun e w2 => e = .returned (.int .i64 (m : Int)) ∧ w' = w2) := fun w' lo v h => by
    have := heldStageS_any w' lo v ss 1 h hn hr (by omega)
    rw [hm]; exact this
  have hge : decide ((m : Int) < 0) = false := decide_eq_false (by omega)
  have hge2 : ¬ (m : Int) < 0 := by omega
  have hne2 : ((m : Int) != (m : Int)) = false := by simp
  clear h5 h8 hU hn hr htb hS hl hm hbig
  cases ok
  all_goals
    go_enter Tryd.func4, Tryd.ntmps4
    go_wp2_with (first
      | (go_at_call 12; refine (HSP.out _).mono ?_; rintro e w1 ⟨v1, rfl, hO1, hB1⟩; obtain ⟨k1, hY1⟩ := hO1.up; have HY1 := Lib.hid hY1; have HT1 := Lib.hid hB1; have hz1 := hB1.size; clear hO1 hY1 hB1)
      | (go_at_call 13; refine (HIM.out _).mono ?_
         first
         | (have HT := HY4.out; rintro e w5 ⟨v5, rfl, hO5, hB5⟩; have HY15 := Lib.hid (HY14.out.below hB5 (Nat.le_refl _)); have HY25 := Lib.hid (HY4.out.below hB5 (Nat.le_refl _)); have HO5 := Lib.hid hO5; have HT5 := Lib.hid (HT4.out.trans (hB5.mono HT4.out.size)); clear hO5 hB5)
         | (rintro e w2 ⟨v2, rfl, hO2, hB2⟩; obtain ⟨k2, hY2⟩ := hO2.up; have HY12 := Lib.hid (HY1.out.below hB2 (Nat.le_refl _)); have HY2 := Lib.hid hY2; have HT2 := Lib.hid (HT1.out.trans (hB2.mono HT1.out.size)); clear hO2 hY2 hB2))
      | (go_at_call 11
         first
         | (refine (eqStageS_same _ v5 v1 ss (HO5.out.stg.mono (Nat.zero_le _)) (HY15.out.own.stg.mono (Nat.zero_le _))).mono ?_; rintro e w6 ⟨rfl, hB6⟩; have HY26 := Lib.hid (HY25.out.below hB6 (Nat.le_refl _)); have HT6 := Lib.hid (HT5.out.trans (hB6.mono HT5.out.size)); clear hB6)
         | (refine (eqStageS_same _ v2 v1 ss (HY2.out.own.stg.mono (Nat.zero_le _)) (HY12.out.own.stg.mono (Nat.zero_le _))).mono ?_; rintro e w3 ⟨rfl, hB3⟩; have HY13 := Lib.hid (HY12.out.below hB3 (Nat.le_refl _)); have HY23 := Lib.hid (HY2.out.below hB3 (Nat.le_refl _)); have HT3 := Lib.hid (HT2.out.trans (hB3.mono HT2.out.size)); clear hB3))
      | (go_at_call 14; refine (HMK.out _ _ _ _ _ HY23.out).mono ?_; rintro e w4 ⟨rfl, hY4, hC4⟩; have HY14 := Lib.hid (HY13.out.chg hC4 (fun k hk => .inr hk.1)); have HY4 := Lib.hid hY4; have HT4 := Lib.hid (HT3.out.trans (hC4.below HT3.out.size hz1)); clear hY4 hC4)
      | (go_at_call 15
         first
         | (refine (HHD.out _ _ _ HY26.out.own.stg).mono ?_; rintro e w9 ⟨rfl, rfl⟩)
         | (refine (HHD.out _ _ _ HY4.out.own.stg).mono ?_; rintro e w9 ⟨rfl, rfl⟩)))
    go_ret
    exact ⟨rfl, HT6.out⟩
end Go.Proofs.YteeikhkcdlcnhaaDoor
