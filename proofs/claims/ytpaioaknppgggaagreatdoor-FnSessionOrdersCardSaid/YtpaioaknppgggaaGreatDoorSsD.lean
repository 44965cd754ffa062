/- Cars: ValidCar, canMove, StepCar of the program. append, where the older slice stays as it was. Sessions in memory: the state that both sides keep in a box, and what keeps it. Orders' names: both sides. The program's session: order, show. show: the program's and the reference's. Cars: validCar, stepCar, StepCar of the reference. plan of both sides, order of the reference. The reference's desk: show. The program's session: call. The reference's desk: call. -/
import Derived.Test.YtpaioaknppgggaaGreatDoorSsA
import Derived.Test.YtpaioaknppgggaaGreatDoorKit
import Derived.Test.YtpaioaknppgggaaGreatDoorTx17
import Derived.Test.YtpaioaknppgggaaGreatDoorTx8
import Derived.Test.YtpaioaknppgggaaGreatDoorTx18
import Derived.Test.YtpaioaknppgggaaGreatDoorTx21
import Derived.Test.YtpaioaknppgggaaGreatDoorTx4
import Derived.Deep.AppendLies
import Derived.Deep.RegionHeld3
namespace Go.Proofs.YtpaioaknppgggaaGreatDoor

section
open Go.RowKit
set_option linter.unusedVariables false
set_option linter.unusedSimpArgs false

def carV (c : CarV) : Value := .agg #[.int .i64 c.fl, .int .i64 c.hd, .int .i64 c.ld, .bool c.op]
theorem impl_validCar (w : World) (fl hd ld : Int) (op : Bool) (h : carOk ⟨fl, hd, ld, op⟩) :
    Calls Tryz.prog 25 #[.agg #[.int .i64 fl, .int .i64 hd, .int .i64 ld, .bool op]] w fun e w' => e = .returned (.bool true) ∧ w' = w.alloc (.cells #[.int .i64 fl, .int .i64 hd, .int .i64 ld, .bool op] 29) := by
  obtain ⟨h1, h2, h3, h4, h5, h6⟩ := h
  simp only at h1 h2 h3 h4 h5 h6
  have d1 : (decide (0 ≤ fl) && decide (fl ≤ 15)) = true := by simp; omega
  have d2 : (decide (0 ≤ ld) && decide (ld ≤ 5)) = true := by simp; omega
  go_enter Tryz.func25, Tryz.ntmps25
  rcases h3 with e | e | e
  all_goals subst e
  · have op' : op = false := by cases op <;> simp_all
    subst op'
    clear h6
    go_wp2_with (first
      | (go_at_call 49; with_reducible refine (validFloor_dec fl true _ d1).mono ?_; rintro e' w2 ⟨rfl, rfl⟩)
      | (go_at_call 50; with_reducible refine (within_dec ld 0 5 true _ d2).mono ?_; rintro e' w2 ⟨rfl, rfl⟩))
    go_ret
    exact ⟨rfl, rfl⟩
  · clear h6
    cases op
    all_goals
      go_wp2_with (first
        | (go_at_call 49; with_reducible refine (validFloor_dec fl true _ d1).mono ?_; rintro e' w2 ⟨rfl, rfl⟩)
        | (go_at_call 50; with_reducible refine (within_dec ld 0 5 true _ d2).mono ?_; rintro e' w2 ⟨rfl, rfl⟩))
      go_ret
      exact ⟨rfl, rfl⟩
  · have op' : op = false := by cases op <;> simp_all
    subst op'
    clear h6
    go_wp2_with (first
      | (go_at_call 49; with_reducible refine (validFloor_dec fl true _ d1).mono ?_; rintro e' w2 ⟨rfl, rfl⟩)
      | (go_at_call 50; with_reducible refine (within_dec ld 0 5 true _ d2).mono ?_; rintro e' w2 ⟨rfl, rfl⟩))
    go_ret
    exact ⟨rfl, rfl⟩

set_option maxHeartbeats 2000000 in
theorem impl_canMove (w : World) (fl hd ld : Int) (op : Bool) (way : Int) (h : carOk ⟨fl, hd, ld, op⟩) (hw : way = 1 ∨ way = -1) (r : Bool) (hr : r = decide (op = false ∧ ld ≠ 5 ∧ hd ≠ -way ∧ 0 ≤ fl + way ∧ fl + way ≤ 15)) :
    Calls Tryz.prog 51 #[.agg #[.int .i64 fl, .int .i64 hd, .int .i64 ld, .bool op], .int .i64 way] w fun e w' => e = .returned (.bool r) ∧ w' = w.alloc (.cells #[.int .i64 fl, .int .i64 hd, .int .i64 ld, .bool op] 29) := by
  obtain ⟨h1, h2, h3, h4, h5, h6⟩ := h
  simp only at h1 h2 h3 h4 h5 h6
  have wrn : IntKind.i64.wrap (-way) = -way := IntWalk.i64_in _ (by omega)
  have wra : IntKind.i64.wrap (fl + way) = fl + way := IntWalk.i64_in _ (by omega)
  have HR := Lib.hid hr
  clear hr h6 h3
  go_enter Tryz.func51, Tryz.ntmps51
  cases op
  · by_cases k1 : ld < 5
    · by_cases k2 : hd = -way
      · have t2 : (hd != -way) = false := by simp [k2]
        have HE : Hid (r = false) := by unfold Hid; rw [HR.out]; exact decide_eq_false (fun x => x.2.2.1 k2)
        clear k2 hw
        go_wp2_with fail
        go_ret
        exact ⟨by rw [HE.out]; rfl, rfl⟩
      · have t2 : (hd != -way) = true := by simp [k2]
        by_cases k3 : 0 ≤ fl + way ∧ fl + way ≤ 15
        · have d3 : (decide (0 ≤ fl + way) && decide (fl + way ≤ 15)) = true := by simp; omega
          have HE : Hid (r = true) := by unfold Hid; rw [HR.out]; exact decide_eq_true ⟨rfl, by omega, k2, k3.1, k3.2⟩
          clear k2 k3 hw
          go_wp2_with (go_at_call 49; with_reducible refine (validFloor_dec (fl + way) true _ d3).mono ?_; rintro e' w2 ⟨rfl, rfl⟩)
          go_ret
          exact ⟨by rw [HE.out]; rfl, rfl⟩
        · have d3 : (decide (0 ≤ fl + way) && decide (fl + way ≤ 15)) = false := by simp; omega
          have HE : Hid (r = false) := by unfold Hid; rw [HR.out]; exact decide_eq_false (fun x => k3 ⟨x.2.2.2.1, x.2.2.2.2⟩)
          clear k2 k3 hw
          go_wp2_with (go_at_call 49; with_reducible refine (validFloor_dec (fl + way) false _ d3).mono ?_; rintro e' w2 ⟨rfl, rfl⟩)
          go_ret
          exact ⟨by rw [HE.out]; rfl, rfl⟩
    · have HE : Hid (r = false) := by unfold Hid; rw [HR.out]; exact decide_eq_false (fun x => by have := x.2.1; omega)
      clear hw
      go_wp2_with fail
      go_ret
      exact ⟨by rw [HE.out]; rfl, rfl⟩
  · have HE : Hid (r = false) := by unfold Hid; rw [HR.out]; exact decide_eq_false (fun x => by cases x.1)
    clear hw
    go_wp2_with fail
    go_ret
    exact ⟨by rw [HE.out]; rfl, rfl⟩

def StpRet (w : World) (r : Option CarV) (e : Ending) (w' : World) : Prop := e = .returned (.tuple #[carV (r.getD car0), .bool r.isSome]) ∧ Below w.heap.size w w'
theorem goC_some {fl hd ld : Int} {op : Bool} {h : Int} (k : op = false ∧ ld ≠ 5 ∧ hd ≠ -h ∧ 0 ≤ fl + h ∧ fl + h ≤ 15) : goC ⟨fl, hd, ld, op⟩ h = some ⟨fl + h, h, ld, false⟩ := by unfold goC; rw [if_pos k]
theorem goC_none {fl hd ld : Int} {op : Bool} {h : Int} (k : ¬ (op = false ∧ ld ≠ 5 ∧ hd ≠ -h ∧ 0 ≤ fl + h ∧ fl + h ≤ 15)) : goC ⟨fl, hd, ld, op⟩ h = none := by unfold goC; rw [if_neg k]

set_option maxHeartbeats 8000000 in
set_option maxRecDepth 100000 in
theorem impl_stepCar (w : World) (fl hd ld : Int) (op : Bool) (o : Nat) (h : carOk ⟨fl, hd, ld, op⟩) (ho : 1 ≤ o ∧ o ≤ 7) (r : Option CarV) (hr : r = stepC ⟨fl, hd, ld, op⟩ o) :
    Calls Tryz.prog 26 #[.agg #[.int .i64 fl, .int .i64 hd, .int .i64 ld, .bool op], .int .i64 o] w (StpRet w r) := by
  have HVC : Hid (∀ W, Calls Tryz.prog 25 #[.agg #[.int .i64 fl, .int .i64 hd, .int .i64 ld, .bool op]] W fun e w' => e = .returned (.bool true) ∧ w' = W.alloc (.cells #[.int .i64 fl, .int .i64 hd, .int .i64 ld, .bool op] 29)) := fun W => impl_validCar W fl hd ld op h
  have HCM : Hid (∀ W way r, way = 1 ∨ way = -1 → r = decide (op = false ∧ ld ≠ 5 ∧ hd ≠ -way ∧ 0 ≤ fl + way ∧ fl + way ≤ 15) → Calls Tryz.prog 51 #[.agg #[.int .i64 fl, .int .i64 hd, .int .i64 ld, .bool op], .int .i64 way] W fun e w' => e = .returned (.bool r) ∧ w' = W.alloc (.cells #[.int .i64 fl, .int .i64 hd, .int .i64 ld, .bool op] 29)) := fun W way r hw hr => impl_canMove W fl hd ld op way h hw r hr
  obtain ⟨h1, h2, h3, h4, h5, h6⟩ := h
  simp only at h1 h2 h3 h4 h5 h6
  have wr1 : IntKind.i64.wrap (fl + 1) = fl + 1 := IntWalk.i64_in _ (by omega)
  have wr2 : IntKind.i64.wrap (fl - 1) = fl - 1 := IntWalk.i64_in _ (by omega)
  have wr3 : IntKind.i64.wrap (ld + 1) = ld + 1 := IntWalk.i64_in _ (by omega)
  have wr4 : IntKind.i64.wrap (ld - 1) = ld - 1 := IntWalk.i64_in _ (by omega)
  have H6 := Lib.hid h6
  clear h3 h6
  obtain rfl | rfl | rfl | rfl | rfl | rfl | rfl : o = 1 ∨ o = 2 ∨ o = 3 ∨ o = 4 ∨ o = 5 ∨ o = 6 ∨ o = 7 := by omega
  · have HS : Hid (r = goC ⟨fl, hd, ld, op⟩ (1)) := hr
    clear hr
    by_cases hk : op = false ∧ ld ≠ 5 ∧ hd ≠ -(1) ∧ 0 ≤ fl + (1) ∧ fl + (1) ≤ 15
    · have HE : Hid (r = some ⟨fl + 1, 1, ld, false⟩) := by unfold Hid; rw [HS.out, goC_some hk]
      have HCC : Hid (∀ W, Calls Tryz.prog 51 #[.agg #[.int .i64 fl, .int .i64 hd, .int .i64 ld, .bool op], .int .i64 (1)] W fun e w' => e = .returned (.bool true) ∧ w' = W.alloc (.cells #[.int .i64 fl, .int .i64 hd, .int .i64 ld, .bool op] 29)) := fun W => HCM.out W (1) true (by decide) (by rw [decide_eq_true hk])
      have hop := hk.1
      subst hop
      clear hk HCM HS H6
      go_enter Tryz.func26, Tryz.ntmps26
      go_wp2_with (first | (go_at_call 25; refine (HVC.out _).mono ?_; rintro e' w2 ⟨rfl, rfl⟩)| (go_at_call 51; refine (HCC.out _).mono ?_; rintro e' w2 ⟨rfl, rfl⟩))
      refine bodyPost_ret (v := .tuple #[.agg #[.int .i64 (fl + 1), .int .i64 1, .int .i64 ld, .bool false], .bool true]) (by simp [results, Tryz.results26, go_sem]) rfl ⟨by rw [HE.out]; rfl, ?_⟩
      (repeat' (first | exact Below.refl _ _ | refine Below.alloc ?_ (by simp; try omega) _ | refine Below.setCell ?_ (by simp; try omega) _))
    · have HE : Hid (r = none) := by unfold Hid; rw [HS.out, goC_none hk]
      have HCC : Hid (∀ W, Calls Tryz.prog 51 #[.agg #[.int .i64 fl, .int .i64 hd, .int .i64 ld, .bool op], .int .i64 (1)] W fun e w' => e = .returned (.bool false) ∧ w' = W.alloc (.cells #[.int .i64 fl, .int .i64 hd, .int .i64 ld, .bool op] 29)) := fun W => HCM.out W (1) false (by decide) (by rw [decide_eq_false hk])
      clear hk HCM HS H6
      go_enter Tryz.func26, Tryz.ntmps26
      go_wp2_with (first | (go_at_call 25; refine (HVC.out _).mono ?_; rintro e' w2 ⟨rfl, rfl⟩)| (go_at_call 51; refine (HCC.out _).mono ?_; rintro e' w2 ⟨rfl, rfl⟩))
      refine bodyPost_ret (v := .tuple #[.agg #[.int .i64 0, .int .i64 0, .int .i64 0, .bool false], .bool false]) (by simp [results, Tryz.results26, go_sem]) rfl ⟨by rw [HE.out]; rfl, ?_⟩
      (repeat' (first | exact Below.refl _ _ | refine Below.alloc ?_ (by simp; try omega) _ | refine Below.setCell ?_ (by simp; try omega) _))
  · have HS : Hid (r = goC ⟨fl, hd, ld, op⟩ (-1)) := hr
    clear hr
    by_cases hk : op = false ∧ ld ≠ 5 ∧ hd ≠ -(-1) ∧ 0 ≤ fl + (-1) ∧ fl + (-1) ≤ 15
    · have HE : Hid (r = some ⟨fl - 1, -1, ld, false⟩) := by unfold Hid; rw [HS.out, goC_some hk]; simp; omega
      have HCC : Hid (∀ W, Calls Tryz.prog 51 #[.agg #[.int .i64 fl, .int .i64 hd, .int .i64 ld, .bool op], .int .i64 (-1)] W fun e w' => e = .returned (.bool true) ∧ w' = W.alloc (.cells #[.int .i64 fl, .int .i64 hd, .int .i64 ld, .bool op] 29)) := fun W => HCM.out W (-1) true (by decide) (by rw [decide_eq_true hk])
      have hop := hk.1
      subst hop
      clear hk HCM HS H6
      go_enter Tryz.func26, Tryz.ntmps26
      go_wp2_with (first | (go_at_call 25; refine (HVC.out _).mono ?_; rintro e' w2 ⟨rfl, rfl⟩)| (go_at_call 51; refine (HCC.out _).mono ?_; rintro e' w2 ⟨rfl, rfl⟩))
      refine bodyPost_ret (v := .tuple #[.agg #[.int .i64 (fl - 1), .int .i64 (-1), .int .i64 ld, .bool false], .bool true]) (by simp [results, Tryz.results26, go_sem]) rfl ⟨by rw [HE.out]; rfl, ?_⟩
      (repeat' (first | exact Below.refl _ _ | refine Below.alloc ?_ (by simp; try omega) _ | refine Below.setCell ?_ (by simp; try omega) _))
    · have HE : Hid (r = none) := by unfold Hid; rw [HS.out, goC_none hk]
      have HCC : Hid (∀ W, Calls Tryz.prog 51 #[.agg #[.int .i64 fl, .int .i64 hd, .int .i64 ld, .bool op], .int .i64 (-1)] W fun e w' => e = .returned (.bool false) ∧ w' = W.alloc (.cells #[.int .i64 fl, .int .i64 hd, .int .i64 ld, .bool op] 29)) := fun W => HCM.out W (-1) false (by decide) (by rw [decide_eq_false hk])
      clear hk HCM HS H6
      go_enter Tryz.func26, Tryz.ntmps26
      go_wp2_with (first | (go_at_call 25; refine (HVC.out _).mono ?_; rintro e' w2 ⟨rfl, rfl⟩)| (go_at_call 51; refine (HCC.out _).mono ?_; rintro e' w2 ⟨rfl, rfl⟩))
      refine bodyPost_ret (v := .tuple #[.agg #[.int .i64 0, .int .i64 0, .int .i64 0, .bool false], .bool false]) (by simp [results, Tryz.results26, go_sem]) rfl ⟨by rw [HE.out]; rfl, ?_⟩
      (repeat' (first | exact Below.refl _ _ | refine Below.alloc ?_ (by simp; try omega) _ | refine Below.setCell ?_ (by simp; try omega) _))
  · have HS := Lib.hid hr
    clear hr HCM
    cases op
    · have HE : Hid (r = some ⟨fl, 0, ld, false⟩) := by unfold Hid; rw [HS.out]; simp [stepC]
      clear HS H6
      go_enter Tryz.func26, Tryz.ntmps26
      go_wp2_with (first | (go_at_call 25; refine (HVC.out _).mono ?_; rintro e' w2 ⟨rfl, rfl⟩))
      refine bodyPost_ret (v := .tuple #[.agg #[.int .i64 fl, .int .i64 0, .int .i64 ld, .bool false], .bool true]) (by simp [results, Tryz.results26, go_sem]) rfl ⟨by rw [HE.out]; rfl, ?_⟩
      (repeat' (first | exact Below.refl _ _ | refine Below.alloc ?_ (by simp; try omega) _ | refine Below.setCell ?_ (by simp; try omega) _))
    · have HE : Hid (r = none) := by unfold Hid; rw [HS.out]; simp [stepC]
      clear HS H6
      go_enter Tryz.func26, Tryz.ntmps26
      go_wp2_with (first | (go_at_call 25; refine (HVC.out _).mono ?_; rintro e' w2 ⟨rfl, rfl⟩))
      refine bodyPost_ret (v := .tuple #[.agg #[.int .i64 0, .int .i64 0, .int .i64 0, .bool false], .bool false]) (by simp [results, Tryz.results26, go_sem]) rfl ⟨by rw [HE.out]; rfl, ?_⟩
      (repeat' (first | exact Below.refl _ _ | refine Below.alloc ?_ (by simp; try omega) _ | refine Below.setCell ?_ (by simp; try omega) _))
  · have HS := Lib.hid hr
    clear hr HCM
    cases op
    · by_cases hh : hd = 0
      · have t0 : (hd == 0) = true := by simp [hh]
        subst hh
        have HE : Hid (r = some ⟨fl, 0, ld, true⟩) := by unfold Hid; rw [HS.out]; simp [stepC]
        clear HS H6
        go_enter Tryz.func26, Tryz.ntmps26
        go_wp2_with (first | (go_at_call 25; refine (HVC.out _).mono ?_; rintro e' w2 ⟨rfl, rfl⟩))
        refine bodyPost_ret (v := .tuple #[.agg #[.int .i64 fl, .int .i64 0, .int .i64 ld, .bool true], .bool true]) (by simp [results, Tryz.results26, go_sem]) rfl ⟨by rw [HE.out]; rfl, ?_⟩
        (repeat' (first | exact Below.refl _ _ | refine Below.alloc ?_ (by simp; try omega) _ | refine Below.setCell ?_ (by simp; try omega) _))
      · have t0 : (hd == 0) = false := by simp [hh]
        have HE : Hid (r = none) := by unfold Hid; rw [HS.out]; simp [stepC, hh]
        clear HS H6
        clear hh
        go_enter Tryz.func26, Tryz.ntmps26
        go_wp2_with (first | (go_at_call 25; refine (HVC.out _).mono ?_; rintro e' w2 ⟨rfl, rfl⟩))
        refine bodyPost_ret (v := .tuple #[.agg #[.int .i64 0, .int .i64 0, .int .i64 0, .bool false], .bool false]) (by simp [results, Tryz.results26, go_sem]) rfl ⟨by rw [HE.out]; rfl, ?_⟩
        (repeat' (first | exact Below.refl _ _ | refine Below.alloc ?_ (by simp; try omega) _ | refine Below.setCell ?_ (by simp; try omega) _))
    · have HE : Hid (r = none) := by unfold Hid; rw [HS.out]; simp [stepC]
      clear HS H6
      go_enter Tryz.func26, Tryz.ntmps26
      go_wp2_with (first | (go_at_call 25; refine (HVC.out _).mono ?_; rintro e' w2 ⟨rfl, rfl⟩))
      refine bodyPost_ret (v := .tuple #[.agg #[.int .i64 0, .int .i64 0, .int .i64 0, .bool false], .bool false]) (by simp [results, Tryz.results26, go_sem]) rfl ⟨by rw [HE.out]; rfl, ?_⟩
      (repeat' (first | exact Below.refl _ _ | refine Below.alloc ?_ (by simp; try omega) _ | refine Below.setCell ?_ (by simp; try omega) _))
  · have HS := Lib.hid hr
    clear hr HCM
    cases op
    · have HE : Hid (r = none) := by unfold Hid; rw [HS.out]; simp [stepC]
      clear HS H6
      go_enter Tryz.func26, Tryz.ntmps26
      go_wp2_with (first | (go_at_call 25; refine (HVC.out _).mono ?_; rintro e' w2 ⟨rfl, rfl⟩))
      refine bodyPost_ret (v := .tuple #[.agg #[.int .i64 0, .int .i64 0, .int .i64 0, .bool false], .bool false]) (by simp [results, Tryz.results26, go_sem]) rfl ⟨by rw [HE.out]; rfl, ?_⟩
      (repeat' (first | exact Below.refl _ _ | refine Below.alloc ?_ (by simp; try omega) _ | refine Below.setCell ?_ (by simp; try omega) _))
    · have h0 := H6.out rfl
      subst h0
      have HE : Hid (r = some ⟨fl, 0, ld, false⟩) := by unfold Hid; rw [HS.out]; simp [stepC]
      clear HS H6
      go_enter Tryz.func26, Tryz.ntmps26
      go_wp2_with (first | (go_at_call 25; refine (HVC.out _).mono ?_; rintro e' w2 ⟨rfl, rfl⟩))
      refine bodyPost_ret (v := .tuple #[.agg #[.int .i64 fl, .int .i64 0, .int .i64 ld, .bool false], .bool true]) (by simp [results, Tryz.results26, go_sem]) rfl ⟨by rw [HE.out]; rfl, ?_⟩
      (repeat' (first | exact Below.refl _ _ | refine Below.alloc ?_ (by simp; try omega) _ | refine Below.setCell ?_ (by simp; try omega) _))
  · have HS := Lib.hid hr
    clear hr HCM
    cases op
    · have HE : Hid (r = none) := by unfold Hid; rw [HS.out]; simp [stepC]
      clear HS H6
      go_enter Tryz.func26, Tryz.ntmps26
      go_wp2_with (first | (go_at_call 25; refine (HVC.out _).mono ?_; rintro e' w2 ⟨rfl, rfl⟩))
      refine bodyPost_ret (v := .tuple #[.agg #[.int .i64 0, .int .i64 0, .int .i64 0, .bool false], .bool false]) (by simp [results, Tryz.results26, go_sem]) rfl ⟨by rw [HE.out]; rfl, ?_⟩
      (repeat' (first | exact Below.refl _ _ | refine Below.alloc ?_ (by simp; try omega) _ | refine Below.setCell ?_ (by simp; try omega) _))
    · have h0 := H6.out rfl
      subst h0
      by_cases hl : ld < 5
      · have HE : Hid (r = some ⟨fl, 0, ld + 1, true⟩) := by unfold Hid; rw [HS.out]; simp [stepC, hl]
        clear HS H6
        go_enter Tryz.func26, Tryz.ntmps26
        go_wp2_with (first | (go_at_call 25; refine (HVC.out _).mono ?_; rintro e' w2 ⟨rfl, rfl⟩))
        refine bodyPost_ret (v := .tuple #[.agg #[.int .i64 fl, .int .i64 0, .int .i64 (ld + 1), .bool true], .bool true]) (by simp [results, Tryz.results26, go_sem]) rfl ⟨by rw [HE.out]; rfl, ?_⟩
        (repeat' (first | exact Below.refl _ _ | refine Below.alloc ?_ (by simp; try omega) _ | refine Below.setCell ?_ (by simp; try omega) _))
      · have HE : Hid (r = none) := by unfold Hid; rw [HS.out]; simp [stepC, hl]
        clear HS H6
        have t0 : decide (ld < 5) = false := decide_eq_false hl
        go_enter Tryz.func26, Tryz.ntmps26
        go_wp2_with (first | (go_at_call 25; refine (HVC.out _).mono ?_; rintro e' w2 ⟨rfl, rfl⟩))
        refine bodyPost_ret (v := .tuple #[.agg #[.int .i64 0, .int .i64 0, .int .i64 0, .bool false], .bool false]) (by simp [results, Tryz.results26, go_sem]) rfl ⟨by rw [HE.out]; rfl, ?_⟩
        (repeat' (first | exact Below.refl _ _ | refine Below.alloc ?_ (by simp; try omega) _ | refine Below.setCell ?_ (by simp; try omega) _))
  · have HS := Lib.hid hr
    clear hr HCM
    cases op
    · have HE : Hid (r = none) := by unfold Hid; rw [HS.out]; simp [stepC]
      clear HS H6
      go_enter Tryz.func26, Tryz.ntmps26
      go_wp2_with (first | (go_at_call 25; refine (HVC.out _).mono ?_; rintro e' w2 ⟨rfl, rfl⟩))
      refine bodyPost_ret (v := .tuple #[.agg #[.int .i64 0, .int .i64 0, .int .i64 0, .bool false], .bool false]) (by simp [results, Tryz.results26, go_sem]) rfl ⟨by rw [HE.out]; rfl, ?_⟩
      (repeat' (first | exact Below.refl _ _ | refine Below.alloc ?_ (by simp; try omega) _ | refine Below.setCell ?_ (by simp; try omega) _))
    · have h0 := H6.out rfl
      subst h0
      by_cases hl : 0 < ld
      · have HE : Hid (r = some ⟨fl, 0, ld - 1, true⟩) := by unfold Hid; rw [HS.out]; simp [stepC, hl]
        clear HS H6
        go_enter Tryz.func26, Tryz.ntmps26
        go_wp2_with (first | (go_at_call 25; refine (HVC.out _).mono ?_; rintro e' w2 ⟨rfl, rfl⟩))
        refine bodyPost_ret (v := .tuple #[.agg #[.int .i64 fl, .int .i64 0, .int .i64 (ld - 1), .bool true], .bool true]) (by simp [results, Tryz.results26, go_sem]) rfl ⟨by rw [HE.out]; rfl, ?_⟩
        (repeat' (first | exact Below.refl _ _ | refine Below.alloc ?_ (by simp; try omega) _ | refine Below.setCell ?_ (by simp; try omega) _))
      · have HE : Hid (r = none) := by unfold Hid; rw [HS.out]; simp [stepC, hl]
        clear HS H6
        have t0 : decide (0 < ld) = false := decide_eq_false hl
        go_enter Tryz.func26, Tryz.ntmps26
        go_wp2_with (first | (go_at_call 25; refine (HVC.out _).mono ?_; rintro e' w2 ⟨rfl, rfl⟩))
        refine bodyPost_ret (v := .tuple #[.agg #[.int .i64 0, .int .i64 0, .int .i64 0, .bool false], .bool false]) (by simp [results, Tryz.results26, go_sem]) rfl ⟨by rw [HE.out]; rfl, ?_⟩
        (repeat' (first | exact Below.refl _ _ | refine Below.alloc ?_ (by simp; try omega) _ | refine Below.setCell ?_ (by simp; try omega) _))
end

section
open Go.RowKit
set_option linter.unusedVariables false
set_option linter.unusedSimpArgs false

section
variable {P : Program} (w : World)

theorem run_append_Keep (lo : Nat) (t ty e : TypeId) (i : TypeInfo) (z : Value) (sz bytes : Nat) (ht : P.underlying t = some (.slice e)) (hi : P.info? e = some i) (hz : i.zero = some z)
    (hsize : i.size = sz) (hby : i.bytes = bytes) (hzs : z.cells.size = sz) (hsz : 0 < sz)
    (v : Value) (n : Nat) (cs : List Value) (hown : Own w lo e sz v n cs)
    (x : Value) (lo' m : Nat) (news : List Value) (hx : Rd w lo' x sz m news) (h1 : ∀ u ∈ news, u.oneCell' = true)
    (h63 : n + m ≤ maxLen) (hbytes : (n + m) * bytes ≤ 140737488355328) (hbase : lo ≤ w.heap.size) :
    ∃ v' w', (Builtin.append_ #[t, t] ty #[v, x]).run P w = .ok v' w' ∧ Own w' lo e sz v' (n + m) (cs ++ news) ∧ w.grownBy w' (wblk v) ∧
      (∀ k, wblk v' = some k → wblk v = some k ∨ w.heap.size ≤ k) ∧ Own w' lo e sz v n cs := by
  subst hsize hby
  have hsmall : n + m ≤ 9223372036854775807 := by simp only [maxLen] at h63; omega
  obtain ⟨hl, ax, cx, rfl, hcx, hmx, hnx, hcells⟩ := hx
  by_cases hm0 : m = 0
  · subst hm0
    have : news = [] := List.eq_nil_of_length_eq_zero (by simpa using hl)
    subst this
    have hlen := hown.len
    have hrun : ∀ ao n cap, n ≤ cap → (Builtin.append_ #[t, t] ty #[.slice ao n cap, .slice ax 0 cx]).run P w = .ok (.slice ao n cap) w := by
      intro ao n cap hle
      cases ao <;> cases ax <;> simp [Builtin.append_, run_underlying ht, sizeOf, typeInfo, hi, Builtin.lenOf, hle, Builtin.firstCells, loadCells, loadCellsFrom, storeCells]
    obtain ⟨ao, cap, rfl, hle⟩ : ∃ ao cap, v = .slice ao n cap ∧ n ≤ cap := by
      obtain ⟨_, ao, cap, rfl, hle, _⟩ := hown.rd
      exact ⟨ao, cap, rfl, hle⟩
    exact ⟨_, w, hrun ao n cap hle, by simpa using hown, grownBy_refl w _, (fun k hk => .inl hk), hown⟩
  · obtain ⟨b, off, rfl, hb, hc⟩ := hcells (by omega)
    have hnews : ∀ j u, news[j]? = some u → w.cell? ((⟨b, off, none⟩ : Addr).add j) = some u := by
      intro j u hu
      have hj : j < news.length := by
        rcases Nat.lt_or_ge j news.length with h | h
        · exact h
        · rw [List.getElem?_eq_none h] at hu; cases hu
      have hadd : (⟨b, off, none⟩ : Addr).add j = ⟨b, off + j, none⟩ := by unfold Addr.add; split <;> simp_all
      rw [hadd, hc j hj]
      simpa [hj] using hu
    have up : ∀ {v' : Value} {w' : World} {cs' : List Value}, w'.ownsRow w.heap.size e i.size v' (n + m) cs' → w.grownBy w' none →
        Own w' lo e i.size v' (n + m) cs' ∧ w.grownBy w' (wblk v) ∧ (∀ k, wblk v' = some k → wblk v = some k ∨ w.heap.size ≤ k) ∧ Own w' lo e i.size v n cs := by
      intro v' w' cs' ho hg
      have hk2 : Own w' lo e i.size v n cs := hown.grown hg (fun _ e => by cases e)
      have ho' : Own w' w.heap.size e i.size v' (n + m) cs' := .inl ho
      exact ⟨ho'.mono hbase, ⟨hg.os, hg.tape, hg.output, hg.size, fun k hk _ => hg.block k hk (fun e => by cases e)⟩, (fun k hk => .inr (ho'.wblk hk).1), hk2⟩
    rcases hown with hown | ⟨rfl, rfl, ao, rfl⟩
    · have hcl := fun g => hown.cells (g := g)
      rcases hown.2 with ⟨rfl, rfl⟩ | ⟨g, cap, cur, rfl, hbg, hg, hnc, hcm, hcs, htake⟩
      · have hcs : cs = [] := List.eq_nil_of_length_eq_zero (by simpa using hown.1)
        subst hcs
        obtain ⟨v', w', hr, ho, hg', _⟩ := run_append_own (P := P) w w.heap.size t ty e i z i.size i.bytes ht hi hz rfl rfl hzs hsz (.slice none 0 0) 0 [] (World.ownsRow_nil _ _ _ _) ⟨b, off, none⟩ m cx news hl hnews h1 h63 hbytes (Nat.le_refl _)
        exact ⟨v', w', hr, up ho (by simpa [Value.ownBlock] using hg')⟩
      · by_cases hroom : n + m ≤ cap
        · have hcap : cap ≠ 0 := by omega
          have hfit : n * i.size + news.length ≤ cur.size := by rw [hl, hcs, ← Nat.add_mul]; exact Nat.mul_le_mul_right _ hroom
          have hr := run_append_room (P := P) w t ty e i ht hi g n cap cur hg ⟨b, off, none⟩ m cx news hl hnews h1 hroom hfit
          have hlen : (cs ++ news).length = (n + m) * i.size := by rw [List.length_append, hown.1, hl, Nat.add_mul]
          refine ⟨_, _, hr, .inl ⟨hlen, .inr ⟨g, cap, _, rfl, hbg, setRow_heap w g cur _ e _ hg, hroom, hcm, ?_, ?_⟩⟩, ⟨rfl, rfl, rfl, by simp, fun k _ hk => setRow_other w g k _ (fun e => hk (by simp [wblk, hcap, e]))⟩, ?_⟩
          · simp only [List.size_toArray, List.length_append, List.length_take, List.length_drop, Array.length_toList]
            omega
          · rw [htake, ← hlen]
            exact List.take_left
          · refine ⟨fun k hk => .inl (by simpa [wblk] using hk), .inl ⟨hown.1, .inr ⟨g, cap, _, rfl, hbg, setRow_heap w g cur _ e _ hg, hnc, hcm, ?_, ?_⟩⟩⟩
            · simp only [List.size_toArray, List.length_append, List.length_take, List.length_drop, Array.length_toList]
              omega
            · rw [htake, ← hown.1, List.append_assoc]
              exact List.take_left
        · obtain ⟨v', w', hr, ho, hg'⟩ := run_append_arg_grows (P := P) w t ty e i z i.size i.bytes ht hi hz rfl rfl hzs hsz ⟨g, 0, none⟩ n cap cs hown.1 (hcl g rfl) ⟨b, off, none⟩ m cx news hl hnews (by omega) h63 hbytes
          exact ⟨v', w', hr, up ho hg'⟩
    · cases ao with
      | none =>
        obtain ⟨v', w', hr, ho, hg', _⟩ := run_append_own (P := P) w w.heap.size t ty e i z i.size i.bytes ht hi hz rfl rfl hzs hsz (.slice none 0 0) 0 [] (World.ownsRow_nil _ _ _ _) ⟨b, off, none⟩ m cx news hl hnews h1 h63 hbytes (Nat.le_refl _)
        exact ⟨v', w', hr, up ho (by simpa [Value.ownBlock] using hg')⟩
      | some a =>
        obtain ⟨v', w', hr, ho, hg'⟩ := run_append_arg_grows (P := P) w t ty e i z i.size i.bytes ht hi hz rfl rfl hzs hsz a 0 0 [] (by simp) (fun j u hu => by simp at hu) ⟨b, off, none⟩ m cx news hl hnews (by omega) h63 hbytes
        exact ⟨v', w', hr, up ho hg'⟩

theorem wpList_append_Keep {ops : Array Oper} {rest : List Oper} {o : Oper} {a : Act} {Q : Exit → Act → World → Prop} (hgd : o.guard = none) (s x : Operand) (t : TypeId)
    (ho : o.op = .call { callee := .builtin .append, args := #[s, x], argTypes := #[t, t] })
    (e : TypeId) (z : Value) (sz bytes : Nat) (ht : P.underlying t = some (.slice e)) (hi : (P.info? e).map (fun i => (i.zero, i.size, i.bytes)) = some (some z, sz, bytes))
    (hzs : z.cells.size = sz) (hsz : 0 < sz)
    (lo : Nat) (v : Value) (n : Nat) (cs : List Value) (hs : a.eval s = v) (hown : Own w lo e sz v n cs)
    (xv : Value) (lo' m : Nat) (news : List Value) (hxe : a.eval x = xv) (hx : Rd w lo' xv sz m news) (h1 : ∀ u ∈ news, u.oneCell' = true)
    (h63 : n + m ≤ maxLen) (hbytes : (n + m) * bytes ≤ 140737488355328) (hbase : lo ≤ w.heap.size)
    (h : ∀ v' w', Own w' lo e sz v' (n + m) (cs ++ news) → w.grownBy w' (wblk v) → (∀ k, wblk v' = some k → wblk v = some k ∨ w.heap.size ≤ k) → Own w' lo e sz v n cs → wpList P ops Q rest (a.put o.dst v') w') : wpList P ops Q (o :: rest) a w := by
  refine wpList_plain hgd fun K hK => ?_
  obtain ⟨i, hi1, hz, hsize, hby⟩ := info_parts hi
  obtain ⟨v', w', hr, h2, h3, h4, h5⟩ := run_append_Keep (P := P) w lo t o.type e i z sz bytes ht hi1 hz hsize hby hzs hsz v n cs hown xv lo' m news hx h1 h63 hbytes hbase
  unfold Oper.wp execOp
  simp only [ho, resolve, invoke, builtin, Sem.run_bind, Sem.run_pure, Result.andThen_ok, List.map_toArray, List.map_cons, List.map_nil, hs, hxe, hr]
  exact hK _ _ (h v' w' h2 h3 h4 h5)
end
end

section
open Go.RowKit
set_option linter.unusedVariables false
set_option linter.unusedSimpArgs false

theorem own_kept {w w' : World} {lo e sz n : Nat} {v : Value} {cs : List Value} {e' : TypeId} {g : Nat} (h : Own w lo e sz v n cs) (hk : Lib.OthersKept e' (some g) w w') (he : e ≠ e') (hg : ∃ c T fz, w.heap[g]? = some (.cells c T fz) ∧ T ≠ e) : Own w' lo e sz v n cs := by
  rcases h with ⟨h1, h | ⟨g0, cap, cur, rfl, h2, h3, h4⟩⟩ | h
  · exact .inl ⟨h1, .inl h⟩
  · have : w'.heap[g0]? = some (.cells cur e (0, 0)) := hk g0 _ h3 (fun x => by
      cases x
      obtain ⟨c, T, fz, h5, h6⟩ := hg
      rw [h3] at h5
      cases h5
      exact h6 rfl) (fun c fz x => by cases x; exact he rfl)
    exact .inl ⟨h1, .inr ⟨g0, cap, cur, rfl, h2, this, h4⟩⟩
  · exact .inr h
theorem own_grownT {w w' : World} {lo e sz n : Nat} {v : Value} {cs : List Value} {row : Option Nat} (h : Own w lo e sz v n cs) (hg : w.grownBy w' row) (hr : ∀ k, row = some k → ∃ c T fz, w.heap[k]? = some (.cells c T fz) ∧ T ≠ e) : Own w' lo e sz v n cs := by
  rcases h with ⟨h1, h | ⟨g0, cap, cur, rfl, h2, h3, h4⟩⟩ | h
  · exact .inl ⟨h1, .inl h⟩
  · have : w'.heap[g0]? = some (.cells cur e (0, 0)) := by
      rw [hg.block g0 (Array.getElem?_eq_some_iff.1 h3).1 (fun x => by
        obtain ⟨c, T, fz, h5, h6⟩ := hr g0 x.symm
        rw [h3] at h5
        cases h5
        exact h6 rfl)]
      exact h3
    exact .inl ⟨h1, .inr ⟨g0, cap, cur, rfl, h2, this, h4⟩⟩
  · exact .inr h
theorem own_wtype {w : World} {lo e sz n : Nat} {v : Value} {cs : List Value} (h : Own w lo e sz v n cs) {k : Nat} (hk : wblk v = some k) : ∃ c fz, w.heap[k]? = some (.cells c e fz) := by
  rcases h with ⟨h1, ⟨rfl, _⟩ | ⟨g0, cap, cur, rfl, h2, h3, h4⟩⟩ | ⟨_, _, ao, rfl⟩
  · simp [wblk] at hk
  · simp only [wblk] at hk
    split at hk
    · cases hk
    · cases hk; exact ⟨_, _, h3⟩
  · cases ao <;> simp [wblk] at hk
theorem own_box_type {w : World} {lo e sz g : Nat} {cs : List Value} (h : Own w lo e sz (.slice (some ⟨g, 0, none⟩) 1 1) 1 cs) : ∃ c fz, w.heap[g]? = some (.cells c e fz) := own_wtype h (by simp [wblk])
theorem stg_kept {w w' : World} {lo : Nat} {v : Value} {ss : List Stg} {e' : TypeId} {g : Nat} (h : OwnStg w lo v ss) (hk : Lib.OthersKept e' (some g) w w') (he : 85 ≠ e' ∧ 3 ≠ e')
    (hg : ∃ c T fz, w.heap[g]? = some (.cells c T fz) ∧ T ≠ 85 ∧ T ≠ 3) : OwnStg w' lo v ss := by
  obtain ⟨hs, h1, h2, h3⟩ := h
  obtain ⟨c, T, fz, k1, k2, k3⟩ := hg
  exact ⟨hs, own_kept h1 hk he.1 ⟨c, T, fz, k1, k2⟩, ⟨h2.1, fun j hj => own_kept (h2.2.1 j hj) hk he.2 ⟨c, T, fz, k1, k3⟩, h2.2.2⟩, h3⟩
theorem stg_grownT {w w' : World} {lo : Nat} {v : Value} {ss : List Stg} {row : Option Nat} (h : OwnStg w lo v ss) (hg : w.grownBy w' row)
    (hr : ∀ k, row = some k → ∃ c T fz, w.heap[k]? = some (.cells c T fz) ∧ T ≠ 85 ∧ T ≠ 3) : OwnStg w' lo v ss := by
  obtain ⟨hs, h1, h2, h3⟩ := h
  exact ⟨hs, own_grownT h1 hg (fun k hk => by obtain ⟨c, T, fz, k1, k2, k3⟩ := hr k hk; exact ⟨c, T, fz, k1, k2⟩), ⟨h2.1, fun j hj => own_grownT (h2.2.1 j hj) hg (fun k hk => by obtain ⟨c, T, fz, k1, k2, k3⟩ := hr k hk; exact ⟨c, T, fz, k1, k3⟩), h2.2.2⟩, h3⟩
theorem kept_below {e : TypeId} {b : Option Nat} {w w' : World} (hb : Below w.heap.size w w') : Lib.OthersKept e b w w' := fun k o hk _ _ => by
  rw [hb.block k (Array.getElem?_eq_some_iff.1 hk).1]; exact hk

def sesCells (c : CarV) (vcl vst : Value) : List Value := [.int .i64 c.fl, .int .i64 c.hd, .int .i64 c.ld, .bool c.op, vcl, vst]
/-- The box's type is none of the rows'. -/
def TyOk (T : TypeId) : Prop := T ≠ 73 ∧ T ≠ 85 ∧ T ≠ 3 ∧ T ≠ 5
structure SesU (T : TypeId) (B gs : Nat) (c : CarV) (vcl : Value) (cl : List Cl) (vst : Value) (st : List Stg) (W : World) : Prop where
  ge : B ≤ gs
  box : Own W B T 6 (.slice (some ⟨gs, 0, none⟩) 1 1) 1 (sesCells c vcl vst)
  cal : Own W B 73 3 vcl cl.length (cl.flatMap clCells)
  stg : OwnStg W B vst st
def Ses (T : TypeId) (B gs : Nat) (s : SesV) (W : World) : Prop := ∃ vcl vst, SesU T B gs s.car vcl s.cl vst s.st W
section
variable {T : TypeId} {B gs : Nat} {c : CarV} {vcl vst : Value} {cl : List Cl} {st : List Stg} {W : World}
theorem SesU.at (h : SesU T B gs c vcl cl vst st W) : gs < W.heap.size ∧ (∀ i, W.frozen? ⟨gs, i, none⟩ = false) ∧ W.cell? ⟨gs, 0, none⟩ = some (.int .i64 c.fl) ∧ W.cell? ⟨gs, 1, none⟩ = some (.int .i64 c.hd) ∧ W.cell? ⟨gs, 2, none⟩ = some (.int .i64 c.ld) ∧ W.cell? ⟨gs, 3, none⟩ = some (.bool c.op) ∧
    W.cell? ⟨gs, 4, none⟩ = some vcl ∧ W.cell? ⟨gs, 5, none⟩ = some vst := by
  obtain ⟨g', e1, h2, h3, h4, h5, h6⟩ := h.box.parts (by omega)
  cases e1
  have hl : (sesCells c vcl vst).length = 6 := rfl
  exact ⟨h3, h5, h4 0 (by omega), h4 1 (by omega), h4 2 (by omega), h4 3 (by omega), h4 4 (by omega), h4 5 (by omega)⟩
theorem SesU.below {W' : World} (h : SesU T B gs c vcl cl vst st W) (hb : Below W.heap.size W W') : SesU T B gs c vcl cl vst st W' :=
  ⟨h.ge, h.box.below hb (Nat.le_refl _), h.cal.below hb (Nat.le_refl _), h.stg.below hb (Nat.le_refl _)⟩
theorem SesU.kept {W' : World} {e' : TypeId} {g : Nat} (h : SesU T B gs c vcl cl vst st W) (hT : TyOk T) (hk : Lib.OthersKept e' (some g) W W') (he : T ≠ e' ∧ 73 ≠ e' ∧ 85 ≠ e' ∧ 3 ≠ e')
    (hg : ∃ c T' fz, W.heap[g]? = some (.cells c T' fz) ∧ T' ≠ T ∧ T' ≠ 73 ∧ T' ≠ 85 ∧ T' ≠ 3) : SesU T B gs c vcl cl vst st W' := by
  obtain ⟨c', T', fz, k1, k2, k3, k4, k5⟩ := hg
  exact ⟨h.ge, own_kept h.box hk he.1 ⟨c', T', fz, k1, k2⟩, own_kept h.cal hk he.2.1 ⟨c', T', fz, k1, k3⟩, stg_kept h.stg hk he.2.2 ⟨c', T', fz, k1, k4, k5⟩⟩
theorem SesU.store (h : SesU T B gs c vcl cl vst st W) (hT : TyOk T) (i : Nat) (u : Value) :
    Own (W.setCell ⟨gs, i, none⟩ u) B T 6 (.slice (some ⟨gs, 0, none⟩) 1 1) 1 ((sesCells c vcl vst).set i u) ∧ Own (W.setCell ⟨gs, i, none⟩ u) B 73 3 vcl cl.length (cl.flatMap clCells) ∧ OwnStg (W.setCell ⟨gs, i, none⟩ u) B vst st := by
  obtain ⟨c', fz, k1⟩ := own_box_type h.box
  have hk := (Lib.OthersKept.refl T (some gs) W).setCell ⟨gs, i, none⟩ rfl u
  exact ⟨(h.box.store (by omega) i u).1, own_kept h.cal hk (fun e => hT.1 e.symm) ⟨c', T, fz, k1, hT.1⟩, stg_kept h.stg hk ⟨fun e => hT.2.1 e.symm, fun e => hT.2.2.1 e.symm⟩ ⟨c', T, fz, k1, hT.2.1, hT.2.2.1⟩⟩
theorem SesU.setCar (h : SesU T B gs c vcl cl vst st W) (hT : TyOk T) (d : CarV) :
    SesU T B gs d vcl cl vst st ((((W.setCell ⟨gs, 0, none⟩ (.int .i64 d.fl)).setCell ⟨gs, 1, none⟩ (.int .i64 d.hd)).setCell ⟨gs, 2, none⟩ (.int .i64 d.ld)).setCell ⟨gs, 3, none⟩ (.bool d.op)) := by
  obtain ⟨a1, a2, a3⟩ := h.store hT 0 (.int .i64 d.fl)
  obtain ⟨b1, b2, b3⟩ := (SesU.mk (c := ⟨d.fl, c.hd, c.ld, c.op⟩) h.ge a1 a2 a3).store hT 1 (.int .i64 d.hd)
  obtain ⟨c1, c2, c3⟩ := (SesU.mk (c := ⟨d.fl, d.hd, c.ld, c.op⟩) h.ge b1 b2 b3).store hT 2 (.int .i64 d.ld)
  obtain ⟨d1, d2, d3⟩ := (SesU.mk (c := ⟨d.fl, d.hd, d.ld, c.op⟩) h.ge c1 c2 c3).store hT 3 (.bool d.op)
  exact ⟨h.ge, d1, d2, d3⟩
theorem SesU.setCl (h : SesU T B gs c vcl cl vst st W) (hT : TyOk T) {v' : Value} {cl' : List Cl} (hv : Own W B 73 3 v' cl'.length (cl'.flatMap clCells)) :
    SesU T B gs c v' cl' vst st (W.setCell ⟨gs, 4, none⟩ v') := by
  obtain ⟨a1, _, a3⟩ := h.store hT 4 v'
  obtain ⟨c', fz, k1⟩ := own_box_type h.box
  have hk := (Lib.OthersKept.refl T (some gs) W).setCell ⟨gs, 4, none⟩ rfl v'
  exact ⟨h.ge, a1, own_kept hv hk (fun e => hT.1 e.symm) ⟨c', T, fz, k1, hT.1⟩, a3⟩
theorem SesU.setSt (h : SesU T B gs c vcl cl vst st W) (hT : TyOk T) {v' : Value} {st' : List Stg} (hv : OwnStg W B v' st') :
    SesU T B gs c vcl cl v' st' (W.setCell ⟨gs, 5, none⟩ v') := by
  obtain ⟨a1, a2, _⟩ := h.store hT 5 v'
  obtain ⟨c', fz, k1⟩ := own_box_type h.box
  have hk := (Lib.OthersKept.refl T (some gs) W).setCell ⟨gs, 5, none⟩ rfl v'
  exact ⟨h.ge, a1, a2, stg_kept hv hk ⟨fun e => hT.2.1 e.symm, fun e => hT.2.2.1 e.symm⟩ ⟨c', T, fz, k1, hT.2.1, hT.2.2.1⟩⟩
/-- The calls' row grows: box and stages stay. -/
theorem SesU.grow {W' : World} (h : SesU T B gs c vcl cl vst st W) (hT : TyOk T) (hg : W.grownBy W' (wblk vcl)) (ho : Own W' B 73 3 vcl cl.length (cl.flatMap clCells)) : SesU T B gs c vcl cl vst st W' := by
  have hk : ∀ k, wblk vcl = some k → ∃ c fz, W.heap[k]? = some (.cells c 73 fz) := fun k hk => own_wtype h.cal hk
  exact ⟨h.ge, own_grownT h.box hg (fun k e => by obtain ⟨c', fz, k1⟩ := hk k e; exact ⟨c', _, fz, k1, fun x => hT.1 x.symm⟩), ho,
    stg_grownT h.stg hg (fun k e => by obtain ⟨c', fz, k1⟩ := hk k e; exact ⟨c', _, fz, k1, by decide, by decide⟩)⟩
theorem SesU.growK {W' : World} (h : SesU T B gs c vcl cl vst st W) (hg : W.grownBy W' (wblk vcl)) : Lib.OthersKept 73 (some gs) W W' := fun k o hk hb ho => by
  rw [hg.block k (Array.getElem?_eq_some_iff.1 hk).1 (fun x => by
    obtain ⟨c', fz, k1⟩ := own_wtype h.cal x.symm
    rw [k1] at hk
    cases hk
    exact ho _ _ rfl)]
  exact hk
theorem setCell_kept {e : TypeId} {W V : World} {gs i : Nat} {u : Value} (h : Lib.OthersKept e (some gs) W V) : Lib.OthersKept e (some gs) W (V.setCell ⟨gs, i, none⟩ u) := h.setCell ⟨gs, i, none⟩ rfl u
end

/-- What a command leaves. -/
def SesP (T : TypeId) (B gs : Nat) (s : SesV) (W W' : World) : Prop := Ses T B gs s W' ∧ Below B W W' ∧ Lib.OthersKept 73 (some gs) W W'
def SRet (T : TypeId) (B gs : Nat) (r : SesV × List UInt8) (W : World) (e : Ending) (w' : World) : Prop := ∃ S, e = .returned (.string S) ∧ Str8 S r.2 ∧ SesP T B gs r.1 W w'
theorem SesP.still {T : TypeId} {B gs : Nat} {s : SesV} {W W' : World} (h : Ses T B gs s W) (hb : Below W.heap.size W W') (hB : B ≤ W.heap.size) : SesP T B gs s W W' := by
  obtain ⟨vcl, vst, h⟩ := h
  exact ⟨⟨vcl, vst, h.below hb⟩, hb.mono hB, kept_below hb⟩
theorem Ses.below {T : TypeId} {B gs : Nat} {s : SesV} {W W' : World} (h : Ses T B gs s W) (hb : Below W.heap.size W W') : Ses T B gs s W' := by
  obtain ⟨vcl, vst, h⟩ := h
  exact ⟨vcl, vst, h.below hb⟩
theorem SesP.after {T : TypeId} {B gs : Nat} {s : SesV} {W V W' : World} (h : SesP T B gs s V W') (hb : Below W.heap.size W V) (hB : B ≤ W.heap.size) : SesP T B gs s W W' := by
  obtain ⟨h1, h2, h3⟩ := h
  exact ⟨h1, (hb.mono hB).trans h2, (kept_below hb).trans h3⟩
end

section
open Go.RowKit
set_option linter.unusedVariables false
set_option linter.unusedSimpArgs false

theorem str_list {S : ByteArray} {l : List UInt8} (hS : Str8 S l) : S.toList = l := by unfold Str8 at hS; rw [hS, ba_toList]
theorem str_ne {S : ByteArray} {l : List UInt8} (hS : Str8 S l) {c : List UInt8} (h : l ≠ c) : (S.toList == c) = false := by rw [str_list hS]; simp [h]
theorem str_ne' {S : ByteArray} {l : List UInt8} (hS : Str8 S l) {c : List UInt8} (h : l ≠ c) : (c == S.toList) = false := by rw [str_list hS]; simp [Ne.symm h]
theorem orderO_none {l : List UInt8} (h : ∀ c ∈ [bUp, bDown, bStop, bOpen, bClose, bBoard, bLeave], l ≠ c) : orderO l = 0 := by
  unfold orderO
  rw [if_neg (h _ (by simp)), if_neg (h _ (by simp)), if_neg (h _ (by simp)), if_neg (h _ (by simp)), if_neg (h _ (by simp)), if_neg (h _ (by simp)), if_neg (h _ (by simp))]
theorem orderO_le (l : List UInt8) : orderO l ≤ 7 := by
  unfold orderO; repeat' split
  all_goals omega

set_option maxHeartbeats 4000000 in
theorem impl_orderOf (w : World) (S : ByteArray) (l : List UInt8) (hS : Str8 S l) (r : Nat) (hr : r = orderO l) :
    Calls Tryz.prog 28 #[.string S] w fun e w' => e = .returned (.int .i64 r) ∧ w = w' := by
  by_cases h0 : l = bUp
  · subst h0
    have HR : Hid (r = 1) := by unfold Hid; rw [hr]; rfl
    unfold Str8 at hS
    subst hS
    unfold bUp
    clear hr
    go_enter Tryz.func28, Tryz.ntmps28
    go_wp2_with fail
    go_ret
    exact ⟨by rw [HR.out]; rfl, rfl⟩
  by_cases h1 : l = bDown
  · subst h1
    have HR : Hid (r = 2) := by unfold Hid; rw [hr]; rfl
    unfold Str8 at hS
    subst hS
    unfold bDown
    clear hr
    go_enter Tryz.func28, Tryz.ntmps28
    go_wp2_with fail
    go_ret
    exact ⟨by rw [HR.out]; rfl, rfl⟩
  by_cases h2 : l = bStop
  · subst h2
    have HR : Hid (r = 3) := by unfold Hid; rw [hr]; rfl
    unfold Str8 at hS
    subst hS
    unfold bStop
    clear hr
    go_enter Tryz.func28, Tryz.ntmps28
    go_wp2_with fail
    go_ret
    exact ⟨by rw [HR.out]; rfl, rfl⟩
  by_cases h3 : l = bOpen
  · subst h3
    have HR : Hid (r = 4) := by unfold Hid; rw [hr]; rfl
    unfold Str8 at hS
    subst hS
    unfold bOpen
    clear hr
    go_enter Tryz.func28, Tryz.ntmps28
    go_wp2_with fail
    go_ret
    exact ⟨by rw [HR.out]; rfl, rfl⟩
  by_cases h4 : l = bClose
  · subst h4
    have HR : Hid (r = 5) := by unfold Hid; rw [hr]; rfl
    unfold Str8 at hS
    subst hS
    unfold bClose
    clear hr
    go_enter Tryz.func28, Tryz.ntmps28
    go_wp2_with fail
    go_ret
    exact ⟨by rw [HR.out]; rfl, rfl⟩
  by_cases h5 : l = bBoard
  · subst h5
    have HR : Hid (r = 6) := by unfold Hid; rw [hr]; rfl
    unfold Str8 at hS
    subst hS
    unfold bBoard
    clear hr
    go_enter Tryz.func28, Tryz.ntmps28
    go_wp2_with fail
    go_ret
    exact ⟨by rw [HR.out]; rfl, rfl⟩
  by_cases h6 : l = bLeave
  · subst h6
    have HR : Hid (r = 7) := by unfold Hid; rw [hr]; rfl
    unfold Str8 at hS
    subst hS
    unfold bLeave
    clear hr
    go_enter Tryz.func28, Tryz.ntmps28
    go_wp2_with fail
    go_ret
    exact ⟨by rw [HR.out]; rfl, rfl⟩
  have t0 : (S.toList == [117, 112]) = false := str_ne hS h0
  have t1 : (S.toList == [100, 111, 119, 110]) = false := str_ne hS h1
  have t2 : (S.toList == [115, 116, 111, 112]) = false := str_ne hS h2
  have t3 : (S.toList == [111, 112, 101, 110]) = false := str_ne hS h3
  have t4 : (S.toList == [99, 108, 111, 115, 101]) = false := str_ne hS h4
  have t5 : (S.toList == [98, 111, 97, 114, 100]) = false := str_ne hS h5
  have t6 : (S.toList == [108, 101, 97, 118, 101]) = false := str_ne hS h6
  have HR : Hid (r = 0) := by unfold Hid; rw [hr]; refine orderO_none ?_; intro c hc; simp only [List.mem_cons, List.not_mem_nil, or_false] at hc; rcases hc with rfl | rfl | rfl | rfl | rfl | rfl | rfl <;> assumption
  clear hr hS h0 h1 h2 h3 h4 h5 h6
  go_enter Tryz.func28, Tryz.ntmps28
  go_wp2_with fail
  go_ret
  exact ⟨by rw [HR.out]; rfl, rfl⟩

def nmO (k : Nat) : List UInt8 := [[], bUp, bDown, bStop, bOpen, bClose, bBoard, bLeave].getD k []
theorem nmO_at (k : Nat) (h : 1 ≤ k ∧ k ≤ 7) : orderO (nmO k) = k := by
  obtain rfl | rfl | rfl | rfl | rfl | rfl | rfl : k = 1 ∨ k = 2 ∨ k = 3 ∨ k = 4 ∨ k = 5 ∨ k = 6 ∨ k = 7 := by omega
  all_goals decide
set_option maxHeartbeats 8000000 in
theorem spec_orderOf (w : World) (S : ByteArray) (l : List UInt8) (hS : Str8 S l) (r : Nat) (hr : r = orderO l) :
    Calls Tryz.prog 41 #[.string S] w fun e w' => e = .returned (.int .i64 r) ∧ Below w.heap.size w w' := by
  have HR := Lib.hid hr
  have HS := Lib.hid hS
  clear hr hS
  have hrow := fun i => cell_of_row (w.alloc (.cells #[.string ⟨#[]⟩, .string ⟨#[117, 112]⟩, .string ⟨#[100, 111, 119, 110]⟩, .string ⟨#[115, 116, 111, 112]⟩, .string ⟨#[111, 112, 101, 110]⟩, .string ⟨#[99, 108, 111, 115, 101]⟩, .string ⟨#[98, 111, 97, 114, 100]⟩, .string ⟨#[108, 101, 97, 118, 101]⟩] 9)) w.heap.size i #[.string ⟨#[]⟩, .string ⟨#[117, 112]⟩, .string ⟨#[100, 111, 119, 110]⟩, .string ⟨#[115, 116, 111, 112]⟩, .string ⟨#[111, 112, 101, 110]⟩, .string ⟨#[99, 108, 111, 115, 101]⟩, .string ⟨#[98, 111, 97, 114, 100]⟩, .string ⟨#[108, 101, 97, 118, 101]⟩] 9 (0, 0) (heap_alloc_new w _)
  have hB : Below w.heap.size w (w.alloc (.cells #[.string ⟨#[]⟩, .string ⟨#[117, 112]⟩, .string ⟨#[100, 111, 119, 110]⟩, .string ⟨#[115, 116, 111, 112]⟩, .string ⟨#[111, 112, 101, 110]⟩, .string ⟨#[99, 108, 111, 115, 101]⟩, .string ⟨#[98, 111, 97, 114, 100]⟩, .string ⟨#[108, 101, 97, 118, 101]⟩] 9)) := (Below.refl _ _).alloc (Nat.le_refl _) _
  obtain ⟨g, hg⟩ : ∃ g, g = w.heap.size := ⟨_, rfl⟩
  obtain ⟨w1, hw1⟩ : ∃ w1, w1 = w.alloc (.cells #[.string ⟨#[]⟩, .string ⟨#[117, 112]⟩, .string ⟨#[100, 111, 119, 110]⟩, .string ⟨#[115, 116, 111, 112]⟩, .string ⟨#[111, 112, 101, 110]⟩, .string ⟨#[99, 108, 111, 115, 101]⟩, .string ⟨#[98, 111, 97, 114, 100]⟩, .string ⟨#[108, 101, 97, 118, 101]⟩] 9) := ⟨_, rfl⟩
  rw [← hw1] at hrow hB
  rw [← hg] at hrow
  have HB := Lib.hid hB
  have HG := Lib.hid hg
  have HW := Lib.hid hw1
  clear hB hg hw1
  go_enter Tryz.func41, Tryz.ntmps41
  go_wp2_with fail
  rw [← HW.out, ← HG.out]
  go_loopw [4] (fun iv W => ∃ k : Nat, 1 ≤ k ∧ k ≤ 8 ∧ iv = .int .i64 k ∧ W = w1 ∧ Hid (∀ j, 1 ≤ j → j < k → l ≠ nmO j)) (fun iv _ => 8 - (intOf iv).toNat)
  case atStart => exact ⟨1, by omega, by omega, rfl, rfl, fun j h1 h2 => by omega⟩
  case round =>
    obtain ⟨k, hk1, hk8, rfl, rfl, HN⟩ := hrel
    by_cases hk : k = 8
    · subst hk
      have HE : Hid (r = 0) := by
        unfold Hid; rw [HR.out]; refine orderO_none ?_; intro c hc; simp only [List.mem_cons, List.not_mem_nil, or_false] at hc
        rcases hc with rfl | rfl | rfl | rfl | rfl | rfl | rfl
        · exact HN.out 1 (by omega) (by omega)
        · exact HN.out 2 (by omega) (by omega)
        · exact HN.out 3 (by omega) (by omega)
        · exact HN.out 4 (by omega) (by omega)
        · exact HN.out 5 (by omega) (by omega)
        · exact HN.out 6 (by omega) (by omega)
        · exact HN.out 7 (by omega) (by omega)
      clear hrow
      go_wp2_with fail
      go_ret
      exact ⟨by rw [HE.out]; rfl, HB.out⟩
    · by_cases he : l = nmO k
      · have HE : Hid (r = k) := by unfold Hid; rw [HR.out, he]; exact nmO_at k (by omega)
        have hS : Str8 S (nmO k) := by rw [← he]; exact HS.out
        clear HN he
        obtain rfl | rfl | rfl | rfl | rfl | rfl | rfl : k = 1 ∨ k = 2 ∨ k = 3 ∨ k = 4 ∨ k = 5 ∨ k = 6 ∨ k = 7 := by omega
        · have hc : wr.cell? ⟨g, 1, none⟩ = some (.string ⟨#[117, 112]⟩) := hrow 1
          have hS2 : S = ⟨#[117, 112]⟩ := hS
          subst hS2
          clear hrow hS
          go_wp2_with fail
          go_ret
          exact ⟨by rw [HE.out]; rfl, HB.out⟩
        · have hc : wr.cell? ⟨g, 2, none⟩ = some (.string ⟨#[100, 111, 119, 110]⟩) := hrow 2
          have hS2 : S = ⟨#[100, 111, 119, 110]⟩ := hS
          subst hS2
          clear hrow hS
          go_wp2_with fail
          go_ret
          exact ⟨by rw [HE.out]; rfl, HB.out⟩
        · have hc : wr.cell? ⟨g, 3, none⟩ = some (.string ⟨#[115, 116, 111, 112]⟩) := hrow 3
          have hS2 : S = ⟨#[115, 116, 111, 112]⟩ := hS
          subst hS2
          clear hrow hS
          go_wp2_with fail
          go_ret
          exact ⟨by rw [HE.out]; rfl, HB.out⟩
        · have hc : wr.cell? ⟨g, 4, none⟩ = some (.string ⟨#[111, 112, 101, 110]⟩) := hrow 4
          have hS2 : S = ⟨#[111, 112, 101, 110]⟩ := hS
          subst hS2
          clear hrow hS
          go_wp2_with fail
          go_ret
          exact ⟨by rw [HE.out]; rfl, HB.out⟩
        · have hc : wr.cell? ⟨g, 5, none⟩ = some (.string ⟨#[99, 108, 111, 115, 101]⟩) := hrow 5
          have hS2 : S = ⟨#[99, 108, 111, 115, 101]⟩ := hS
          subst hS2
          clear hrow hS
          go_wp2_with fail
          go_ret
          exact ⟨by rw [HE.out]; rfl, HB.out⟩
        · have hc : wr.cell? ⟨g, 6, none⟩ = some (.string ⟨#[98, 111, 97, 114, 100]⟩) := hrow 6
          have hS2 : S = ⟨#[98, 111, 97, 114, 100]⟩ := hS
          subst hS2
          clear hrow hS
          go_wp2_with fail
          go_ret
          exact ⟨by rw [HE.out]; rfl, HB.out⟩
        · have hc : wr.cell? ⟨g, 7, none⟩ = some (.string ⟨#[108, 101, 97, 118, 101]⟩) := hrow 7
          have hS2 : S = ⟨#[108, 101, 97, 118, 101]⟩ := hS
          subst hS2
          clear hrow hS
          go_wp2_with fail
          go_ret
          exact ⟨by rw [HE.out]; rfl, HB.out⟩
      · have HN2 : Hid (∀ j, 1 ≤ j → j < k + 1 → l ≠ nmO j) := fun j h1 h2 => by
          by_cases e : j = k
          · rw [e]; exact he
          · exact HN.out j h1 (by omega)
        have tn : ∀ c, nmO k = c → (c == S.toList) = false ∧ (S.toList == c) = false := fun c h => ⟨str_ne' HS.out (by rw [← h]; exact he), str_ne HS.out (by rw [← h]; exact he)⟩
        clear HN he
        obtain rfl | rfl | rfl | rfl | rfl | rfl | rfl : k = 1 ∨ k = 2 ∨ k = 3 ∨ k = 4 ∨ k = 5 ∨ k = 6 ∨ k = 7 := by omega
        · have hc : wr.cell? ⟨g, 1, none⟩ = some (.string ⟨#[117, 112]⟩) := hrow 1
          obtain ⟨t1, t2⟩ := tn [117, 112] rfl
          clear hrow tn
          go_wp2_with fail
          go_roundw
          case rel => exact ⟨2, by omega, by omega, by go_num, trivial, HN2.out⟩
          case measure => simp [intOf]
        · have hc : wr.cell? ⟨g, 2, none⟩ = some (.string ⟨#[100, 111, 119, 110]⟩) := hrow 2
          obtain ⟨t1, t2⟩ := tn [100, 111, 119, 110] rfl
          clear hrow tn
          go_wp2_with fail
          go_roundw
          case rel => exact ⟨3, by omega, by omega, by go_num, trivial, HN2.out⟩
          case measure => simp [intOf]
        · have hc : wr.cell? ⟨g, 3, none⟩ = some (.string ⟨#[115, 116, 111, 112]⟩) := hrow 3
          obtain ⟨t1, t2⟩ := tn [115, 116, 111, 112] rfl
          clear hrow tn
          go_wp2_with fail
          go_roundw
          case rel => exact ⟨4, by omega, by omega, by go_num, trivial, HN2.out⟩
          case measure => simp [intOf]
        · have hc : wr.cell? ⟨g, 4, none⟩ = some (.string ⟨#[111, 112, 101, 110]⟩) := hrow 4
          obtain ⟨t1, t2⟩ := tn [111, 112, 101, 110] rfl
          clear hrow tn
          go_wp2_with fail
          go_roundw
          case rel => exact ⟨5, by omega, by omega, by go_num, trivial, HN2.out⟩
          case measure => simp [intOf]
        · have hc : wr.cell? ⟨g, 5, none⟩ = some (.string ⟨#[99, 108, 111, 115, 101]⟩) := hrow 5
          obtain ⟨t1, t2⟩ := tn [99, 108, 111, 115, 101] rfl
          clear hrow tn
          go_wp2_with fail
          go_roundw
          case rel => exact ⟨6, by omega, by omega, by go_num, trivial, HN2.out⟩
          case measure => simp [intOf]
        · have hc : wr.cell? ⟨g, 6, none⟩ = some (.string ⟨#[98, 111, 97, 114, 100]⟩) := hrow 6
          obtain ⟨t1, t2⟩ := tn [98, 111, 97, 114, 100] rfl
          clear hrow tn
          go_wp2_with fail
          go_roundw
          case rel => exact ⟨7, by omega, by omega, by go_num, trivial, HN2.out⟩
          case measure => simp [intOf]
        · have hc : wr.cell? ⟨g, 7, none⟩ = some (.string ⟨#[108, 101, 97, 118, 101]⟩) := hrow 7
          obtain ⟨t1, t2⟩ := tn [108, 101, 97, 118, 101] rfl
          clear hrow tn
          go_wp2_with fail
          go_roundw
          case rel => exact ⟨8, by omega, by omega, by go_num, trivial, HN2.out⟩
          case measure => simp [intOf]
end

section
open Go.RowKit
set_option linter.unusedVariables false
set_option linter.unusedSimpArgs false

theorem ty_ses : TyOk 44 := by unfold TyOk; decide
def sV (l : List UInt8) : ByteArray := ⟨l.toArray⟩
set_option maxRecDepth 100000 in
set_option maxHeartbeats 4000000 in
theorem ses_order (W : World) (B gs : Nat) (s : SesV) (h : Ses 44 B gs s W) (hB : B ≤ W.heap.size) (hok : carOk s.car) (o : Nat) (ho : 1 ≤ o ∧ o ≤ 7) :
    Calls Tryz.prog 29 #[.pointer (some ⟨gs, 0, none⟩), .int .i64 o] W (SRet 44 B gs (ordS s o) W) := by
  obtain ⟨vcl, vst, h⟩ := h
  obtain ⟨r, hr⟩ : ∃ r, r = stepC s.car o := ⟨_, rfl⟩
  have HC : Hid (∀ V, Calls Tryz.prog 26 #[.agg #[.int .i64 s.car.fl, .int .i64 s.car.hd, .int .i64 s.car.ld, .bool s.car.op], .int .i64 o] V (StpRet V r)) := fun V => impl_stepCar V _ _ _ _ o hok ho r hr
  have HR := Lib.hid hr
  obtain ⟨hg, hf, p0, p1, p2, p3, p4, p5⟩ := h.at
  have HS := Lib.hid h
  obtain ⟨car, cl, st⟩ := s
  obtain ⟨fl, hd, ld, op⟩ := car
  simp only at HC HR p0 p1 p2 p3 HS
  clear h hf hr hok
  go_enter Tryz.func29, Tryz.ntmps29
  cases r with
  | none =>
    have HE : Hid (ordS ⟨⟨fl, hd, ld, op⟩, cl, st⟩ o = (⟨⟨fl, hd, ld, op⟩, cl, st⟩, bNo)) := by unfold Hid ordS; simp only; rw [← HR.out]
    go_wp2_with (go_at_call 26; refine (HC.out _).mono ?_; rintro e' w2 ⟨rfl, hB2⟩; have HB2 := Lib.hid hB2; clear hB2; unfold carV; simp only [Option.getD_none, Option.isSome_none, car0])
    go_ret
    rw [HE.out]
    exact ⟨sV bNo, rfl, rfl, SesP.still ⟨vcl, vst, HS.out⟩ (HB2.out.alloc HB2.out.size _) hB⟩
  | some d =>
    obtain ⟨dfl, dhd, dld, dop⟩ := d
    have HE : Hid (ordS ⟨⟨fl, hd, ld, op⟩, cl, st⟩ o = (⟨⟨dfl, dhd, dld, dop⟩, cl, st⟩, bOk)) := by unfold Hid ordS; simp only; rw [← HR.out]
    go_wp2_with (go_at_call 26; refine (HC.out _).mono ?_; rintro e' w2 ⟨rfl, hB2⟩; unfold carV; simp only [Option.getD_some, Option.isSome_some]; have HS2 := Lib.hid (HS.out.below hB2); obtain ⟨hg2, hf2, q0, q1, q2, q3, q4, q5⟩ := (HS.out.below hB2).at; have f0 := hf2 0; have f1 := hf2 1; have f2 := hf2 2; have f3 := hf2 3; have HB2 := Lib.hid hB2; clear hB2 hf2)
    go_ret
    rw [HE.out]
    have HT := HS2.out.setCar ty_ses ⟨dfl, dhd, dld, dop⟩
    have hb := ((((HB2.out.mono hB).setCell (p := ⟨gs, 0, none⟩) HS.out.ge (.int .i64 dfl)).setCell (p := ⟨gs, 1, none⟩) HS.out.ge (.int .i64 dhd)).setCell (p := ⟨gs, 2, none⟩) HS.out.ge (.int .i64 dld)).setCell (p := ⟨gs, 3, none⟩) HS.out.ge (.bool dop)
    exact ⟨sV bOk, rfl, rfl, ⟨vcl, vst, HT.below ((Below.refl _ _).alloc (Nat.le_refl _) _)⟩, hb.alloc (by have := HB2.out.size; simp; omega) _, (setCell_kept (setCell_kept (setCell_kept (setCell_kept (kept_below HB2.out))))).alloc _⟩
end

section
open Go.RowKit
set_option linter.unusedVariables false
set_option linter.unusedSimpArgs false

/-- The sum's three steps, with the state's text X. -/
theorem show_sum (F L : Nat) (hF : F ≤ 15) (hL : L ≤ 5) (X : ByteArray) (x : List UInt8) (hX : Str8 X x) (hx : x.length ≤ 100) : ∃ D1 D2 C1 C2 C3 : ByteArray, D1 = ⟨(Lib.decDigits F).toArray⟩ ∧ D2 = ⟨(Lib.decDigits L).toArray⟩ ∧
    (∀ W : World, (Op.stringOp .add D1 X).run Tryz.prog W = .ok (.string C1) W) ∧ (∀ W : World, (Op.stringOp .add C1 ⟨#[32]⟩).run Tryz.prog W = .ok (.string C2) W) ∧ (∀ W : World, (Op.stringOp .add C2 D2).run Tryz.prog W = .ok (.string C3) W) ∧
    Str8 C3 (Lib.decDigits F ++ x ++ [32] ++ Lib.decDigits L) ∧ Str8 C1 (Lib.decDigits F ++ x) ∧ Str8 D1 (Lib.decDigits F) ∧ Str8 D2 (Lib.decDigits L) := by
  obtain ⟨D1, h1⟩ : ∃ D1 : ByteArray, D1 = ⟨(Lib.decDigits F).toArray⟩ := ⟨_, rfl⟩
  obtain ⟨D2, h2⟩ : ∃ D2 : ByteArray, D2 = ⟨(Lib.decDigits L).toArray⟩ := ⟨_, rfl⟩
  have s1 : Str8 D1 (Lib.decDigits F) := h1
  have s2 : Str8 D2 (Lib.decDigits L) := h2
  have l1 := dec_len F (by omega)
  have l2 := dec_len L (by omega)
  obtain ⟨C1, hc1, k1⟩ := addS D1 X (by rw [s1.size]; omega) (by rw [hX.size]; omega)
  have s3 := Str8.app s1 hX hc1
  obtain ⟨C2, hc2, k2⟩ := addS C1 ⟨#[32]⟩ (by rw [s3.size, List.length_append]; omega) (by decide)
  have s4 := Str8.app (B := ⟨#[32]⟩) (b := [32]) s3 rfl hc2
  obtain ⟨C3, hc3, k3⟩ := addS C2 D2 (by rw [s4.size]; simp only [List.length_append, List.length_cons, List.length_nil]; omega) (by rw [s2.size]; omega)
  exact ⟨D1, D2, C1, C2, C3, h1, h2, k1, k2, k3, Str8.app s4 s2 hc3, s3, s1, s2⟩
def ShowRet (l : List UInt8) (W : World) (e : Ending) (w' : World) : Prop := ∃ S, e = .returned (.string S) ∧ Str8 S l ∧ Below W.heap.size W w'

set_option maxRecDepth 100000 in
set_option maxHeartbeats 4000000 in
theorem ses_show (W : World) (B gs : Nat) (c : CarV) (vcl vst : Value) (cl : List Cl) (st : List Stg) (h : SesU 44 B gs c vcl cl vst st W) (hok : carOk c) :
    Calls Tryz.prog 30 #[.pointer (some ⟨gs, 0, none⟩)] W (ShowRet (showT c) W) := by
  obtain ⟨hg, hf, p0, p1, p2, p3, p4, p5⟩ := h.at
  obtain ⟨fl, hd, ld, op⟩ := c
  obtain ⟨h1, h2, h3, h4, h5, h6⟩ := hok
  simp only at p0 p1 p2 p3 h1 h2 h3 h4 h5 h6
  obtain ⟨F, rfl⟩ : ∃ F : Nat, fl = F := ⟨fl.toNat, by omega⟩
  obtain ⟨L, rfl⟩ : ∃ L : Nat, ld = L := ⟨ld.toNat, by omega⟩
  have HSH : Hid (∀ x, stateT ⟨F, hd, L, op⟩ = x → showT ⟨F, hd, L, op⟩ = Lib.decDigits F ++ x ++ [32] ++ Lib.decDigits L) := fun x hx => by unfold showT; rw [hx]; simp
  have HI : Hid (∀ (N : Nat) (D : ByteArray) (V : World), N < 100 → D = ⟨(Lib.decDigits N).toArray⟩ → Calls Tryz.prog 31 #[.int .i64 N] V fun e w' => e = .returned (.string D) ∧ V = w') := fun N D V hN hD => by
    rw [hD]; exact (Tryz.strconv_Itoa_small N hN V).mono fun _ _ hh => ⟨hh.1, hh.2.symm⟩
  have H6 := Lib.hid h6
  have H3 := Lib.hid h3
  clear h h3 h6 hf
  cases op
  case true =>
    obtain ⟨D1, D2, C1, C2, C3, d1, d2, k1, k2, k3, s3, _⟩ := show_sum F L (by omega) (by omega) ⟨#[32, 111, 112, 101, 110]⟩ (32 :: bOpen) rfl (by decide)
    have HE := Lib.hid (HSH.out _ (show stateT ⟨F, hd, L, true⟩ = 32 :: bOpen from rfl))
    have HI1 := Lib.hid (fun V => HI.out F D1 V (by omega) d1)
    have HI2 := Lib.hid (fun V => HI.out L D2 V (by omega) d2)
    have HS3 := Lib.hid s3
    clear HSH HI H6 H3 d1 d2 s3
    go_enter Tryz.func30, Tryz.ntmps30
    go_wp2_with fail
    go_quiet ((go_at_call 31; first | (with_reducible exact quiet_eq (HI1.out _)) | (with_reducible exact quiet_eq (HI2.out _))))
    go_wp2_with fail
    go_ret
    exact ⟨C3, rfl, by rw [HE.out]; exact HS3.out, below_drewN (Below.refl _ _) _⟩
  case false =>
    rcases H3.out with e | e | e
    · subst e
      obtain ⟨D1, D2, C1, C2, C3, d1, d2, k1, k2, k3, s3, _⟩ := show_sum F L (by omega) (by omega) ⟨#[32, 100, 111, 119, 110]⟩ (32 :: bDown) rfl (by decide)
      have HE := Lib.hid (HSH.out _ (show stateT ⟨F, -1, L, false⟩ = 32 :: bDown from rfl))
      have HI1 := Lib.hid (fun V => HI.out F D1 V (by omega) d1)
      have HI2 := Lib.hid (fun V => HI.out L D2 V (by omega) d2)
      have HS3 := Lib.hid s3
      clear HSH HI H6 H3 d1 d2 s3
      go_enter Tryz.func30, Tryz.ntmps30
      go_wp2_with fail
      go_quiet ((go_at_call 31; first | (with_reducible exact quiet_eq (HI1.out _)) | (with_reducible exact quiet_eq (HI2.out _))))
      go_wp2_with fail
      go_ret
      exact ⟨C3, rfl, by rw [HE.out]; exact HS3.out, below_drewN (Below.refl _ _) _⟩
    · subst e
      obtain ⟨D1, D2, C1, C2, C3, d1, d2, k1, k2, k3, s3, _⟩ := show_sum F L (by omega) (by omega) ⟨#[]⟩ [] rfl (by decide)
      have HE := Lib.hid (HSH.out _ (show stateT ⟨F, 0, L, false⟩ = [] from rfl))
      have HI1 := Lib.hid (fun V => HI.out F D1 V (by omega) d1)
      have HI2 := Lib.hid (fun V => HI.out L D2 V (by omega) d2)
      have HS3 := Lib.hid s3
      clear HSH HI H6 H3 d1 d2 s3
      go_enter Tryz.func30, Tryz.ntmps30
      go_wp2_with fail
      go_quiet ((go_at_call 31; first | (with_reducible exact quiet_eq (HI1.out _)) | (with_reducible exact quiet_eq (HI2.out _))))
      go_wp2_with fail
      go_ret
      exact ⟨C3, rfl, by rw [HE.out]; exact HS3.out, below_drewN (Below.refl _ _) _⟩
    · subst e
      obtain ⟨D1, D2, C1, C2, C3, d1, d2, k1, k2, k3, s3, _⟩ := show_sum F L (by omega) (by omega) ⟨#[32, 117, 112]⟩ (32 :: bUp) rfl (by decide)
      have HE := Lib.hid (HSH.out _ (show stateT ⟨F, 1, L, false⟩ = 32 :: bUp from rfl))
      have HI1 := Lib.hid (fun V => HI.out F D1 V (by omega) d1)
      have HI2 := Lib.hid (fun V => HI.out L D2 V (by omega) d2)
      have HS3 := Lib.hid s3
      clear HSH HI H6 H3 d1 d2 s3
      go_enter Tryz.func30, Tryz.ntmps30
      go_wp2_with fail
      go_quiet ((go_at_call 31; first | (with_reducible exact quiet_eq (HI1.out _)) | (with_reducible exact quiet_eq (HI2.out _))))
      go_wp2_with fail
      go_ret
      exact ⟨C3, rfl, by rw [HE.out]; exact HS3.out, below_drewN (Below.refl _ _) _⟩
end

section
open Go.RowKit
set_option linter.unusedVariables false
set_option linter.unusedSimpArgs false

theorem spec_validCar (w : World) (fl hd ld : Int) (op : Bool) (h : carOk ⟨fl, hd, ld, op⟩) :
    Calls Tryz.prog 86 #[.agg #[.int .i64 fl, .int .i64 hd, .int .i64 ld, .bool op]] w fun e w' => e = .returned (.bool true) ∧ w' = w.alloc (.cells #[.int .i64 fl, .int .i64 hd, .int .i64 ld, .bool op] 29) := by
  obtain ⟨h1, h2, h3, h4, h5, h6⟩ := h
  simp only at h1 h2 h3 h4 h5 h6
  have d1 : (decide (0 ≤ fl) && decide (fl ≤ 15)) = true := by simp; omega
  have d2 : (decide (0 ≤ ld) && decide (ld ≤ 5)) = true := by simp; omega
  have d3 : (decide (-1 ≤ hd) && decide (hd ≤ 1)) = true := by simp; omega
  go_enter Tryz.func86, Tryz.ntmps86
  cases op
  · clear h6 h3
    go_wp2_with (first
      | (go_at_call 61; with_reducible refine (inRange_dec fl 0 15 true _ d1).mono ?_; rintro e' w2 ⟨rfl, rfl⟩)
      | (go_at_call 61; with_reducible refine (inRange_dec hd (-1) 1 true _ d3).mono ?_; rintro e' w2 ⟨rfl, rfl⟩)
      | (go_at_call 61; with_reducible refine (inRange_dec ld 0 5 true _ d2).mono ?_; rintro e' w2 ⟨rfl, rfl⟩))
    go_ret
    exact ⟨rfl, rfl⟩
  · have h0 := h6 rfl
    subst h0
    clear h6 h3
    go_wp2_with (first
      | (go_at_call 61; with_reducible refine (inRange_dec fl 0 15 true _ d1).mono ?_; rintro e' w2 ⟨rfl, rfl⟩)
      | (go_at_call 61; with_reducible refine (inRange_dec 0 (-1) 1 true _ d3).mono ?_; rintro e' w2 ⟨rfl, rfl⟩)
      | (go_at_call 61; with_reducible refine (inRange_dec ld 0 5 true _ d2).mono ?_; rintro e' w2 ⟨rfl, rfl⟩))
    go_ret
    exact ⟨rfl, rfl⟩

set_option maxHeartbeats 16000000 in
set_option maxRecDepth 100000 in
theorem spec_stepCar0 (w : World) (fl hd ld : Int) (op : Bool) (o : Nat) (h : carOk ⟨fl, hd, ld, op⟩) (ho : 1 ≤ o ∧ o ≤ 7) (r : Option CarV) (hr : r = stepC ⟨fl, hd, ld, op⟩ o) :
    Calls Tryz.prog 87 #[.agg #[.int .i64 fl, .int .i64 hd, .int .i64 ld, .bool op], .int .i64 o] w (StpRet w r) := by
  obtain ⟨h1, h2, h3, h4, h5, h6⟩ := h
  simp only at h1 h2 h3 h4 h5 h6
  have wr1 : IntKind.i64.wrap (fl + 1) = fl + 1 := IntWalk.i64_in _ (by omega)
  have wr2 : IntKind.i64.wrap (fl + -1) = fl + -1 := IntWalk.i64_in _ (by omega)
  have wr3 : IntKind.i64.wrap (ld + 1) = ld + 1 := IntWalk.i64_in _ (by omega)
  have wr4 : IntKind.i64.wrap (ld - 1) = ld - 1 := IntWalk.i64_in _ (by omega)
  have wr5 : IntKind.i64.wrap (-1) = -1 := by decide
  have H6 := Lib.hid h6
  clear h3 h6
  obtain rfl | rfl | rfl | rfl | rfl | rfl | rfl : o = 1 ∨ o = 2 ∨ o = 3 ∨ o = 4 ∨ o = 5 ∨ o = 6 ∨ o = 7 := by omega
  · have HS : Hid (r = goC ⟨fl, hd, ld, op⟩ (1)) := hr
    clear hr
    cases op
    · by_cases k1 : ld = 5
      · have HE : Hid (r = none) := by unfold Hid; rw [HS.out, goC_none (fun x => x.2.1 k1)]
        subst k1
        clear HS H6
        go_enter Tryz.func87, Tryz.ntmps87
        go_wp2_with fail
        refine bodyPost_ret (v := .tuple #[.agg #[.int .i64 0, .int .i64 0, .int .i64 0, .bool false], .bool false]) (by simp [results, Tryz.results87, go_sem]) rfl ⟨by rw [HE.out]; rfl, ?_⟩
        (repeat' (first | exact Below.refl _ _ | refine Below.alloc ?_ (by simp; try omega) _ | refine Below.setCell ?_ (by simp; try omega) _))
      · have t1 : (ld == 5) = false := by simp [k1]
        by_cases k2 : hd = (-1)
        · have HE : Hid (r = none) := by unfold Hid; rw [HS.out, goC_none (fun x => x.2.2.1 (by rw [k2]))]
          subst k2
          clear HS H6 k1
          go_enter Tryz.func87, Tryz.ntmps87
          go_wp2_with fail
          refine bodyPost_ret (v := .tuple #[.agg #[.int .i64 0, .int .i64 0, .int .i64 0, .bool false], .bool false]) (by simp [results, Tryz.results87, go_sem]) rfl ⟨by rw [HE.out]; rfl, ?_⟩
          (repeat' (first | exact Below.refl _ _ | refine Below.alloc ?_ (by simp; try omega) _ | refine Below.setCell ?_ (by simp; try omega) _))
        · have t2 : (hd == (-1)) = false := by simp [k2]
          by_cases k3 : 0 ≤ fl + (1) ∧ fl + (1) ≤ 15
          · have d3 : (decide (0 ≤ fl + (1)) && decide (fl + (1) ≤ 15)) = true := by simp; omega
            have HE : Hid (r = some ⟨fl + (1), (1), ld, false⟩) := by unfold Hid; rw [HS.out, goC_some ⟨rfl, k1, fun x => k2 x, k3.1, k3.2⟩]
            clear HS H6 k1 k2 k3
            go_enter Tryz.func87, Tryz.ntmps87
            go_wp2_with (go_at_call 61; with_reducible refine (inRange_dec (fl + (1)) 0 15 true _ d3).mono ?_; rintro e' w2 ⟨rfl, rfl⟩)
            refine bodyPost_ret (v := .tuple #[.agg #[.int .i64 (fl + (1)), .int .i64 1, .int .i64 ld, .bool false], .bool true]) (by simp [results, Tryz.results87, go_sem]) rfl ⟨by rw [HE.out]; rfl, ?_⟩
            (repeat' (first | exact Below.refl _ _ | refine Below.alloc ?_ (by simp; try omega) _ | refine Below.setCell ?_ (by simp; try omega) _))
          · have d3 : (decide (0 ≤ fl + (1)) && decide (fl + (1) ≤ 15)) = false := by simp; omega
            have HE : Hid (r = none) := by unfold Hid; rw [HS.out, goC_none (fun x => k3 ⟨x.2.2.2.1, x.2.2.2.2⟩)]
            clear HS H6 k1 k2 k3
            go_enter Tryz.func87, Tryz.ntmps87
            go_wp2_with (go_at_call 61; with_reducible refine (inRange_dec (fl + (1)) 0 15 false _ d3).mono ?_; rintro e' w2 ⟨rfl, rfl⟩)
            refine bodyPost_ret (v := .tuple #[.agg #[.int .i64 0, .int .i64 0, .int .i64 0, .bool false], .bool false]) (by simp [results, Tryz.results87, go_sem]) rfl ⟨by rw [HE.out]; rfl, ?_⟩
            (repeat' (first | exact Below.refl _ _ | refine Below.alloc ?_ (by simp; try omega) _ | refine Below.setCell ?_ (by simp; try omega) _))
    · have HE : Hid (r = none) := by unfold Hid; rw [HS.out, goC_none (fun x => by cases x.1)]
      clear HS H6
      go_enter Tryz.func87, Tryz.ntmps87
      go_wp2_with fail
      refine bodyPost_ret (v := .tuple #[.agg #[.int .i64 0, .int .i64 0, .int .i64 0, .bool false], .bool false]) (by simp [results, Tryz.results87, go_sem]) rfl ⟨by rw [HE.out]; rfl, ?_⟩
      (repeat' (first | exact Below.refl _ _ | refine Below.alloc ?_ (by simp; try omega) _ | refine Below.setCell ?_ (by simp; try omega) _))
  · have HS : Hid (r = goC ⟨fl, hd, ld, op⟩ (-1)) := hr
    clear hr
    cases op
    · by_cases k1 : ld = 5
      · have HE : Hid (r = none) := by unfold Hid; rw [HS.out, goC_none (fun x => x.2.1 k1)]
        subst k1
        clear HS H6
        go_enter Tryz.func87, Tryz.ntmps87
        go_wp2_with fail
        refine bodyPost_ret (v := .tuple #[.agg #[.int .i64 0, .int .i64 0, .int .i64 0, .bool false], .bool false]) (by simp [results, Tryz.results87, go_sem]) rfl ⟨by rw [HE.out]; rfl, ?_⟩
        (repeat' (first | exact Below.refl _ _ | refine Below.alloc ?_ (by simp; try omega) _ | refine Below.setCell ?_ (by simp; try omega) _))
      · have t1 : (ld == 5) = false := by simp [k1]
        by_cases k2 : hd = 1
        · have HE : Hid (r = none) := by unfold Hid; rw [HS.out, goC_none (fun x => x.2.2.1 (by rw [k2]; rfl))]
          subst k2
          clear HS H6 k1
          go_enter Tryz.func87, Tryz.ntmps87
          go_wp2_with fail
          refine bodyPost_ret (v := .tuple #[.agg #[.int .i64 0, .int .i64 0, .int .i64 0, .bool false], .bool false]) (by simp [results, Tryz.results87, go_sem]) rfl ⟨by rw [HE.out]; rfl, ?_⟩
          (repeat' (first | exact Below.refl _ _ | refine Below.alloc ?_ (by simp; try omega) _ | refine Below.setCell ?_ (by simp; try omega) _))
        · have t2 : (hd == 1) = false := by simp [k2]
          by_cases k3 : 0 ≤ fl + (-1) ∧ fl + (-1) ≤ 15
          · have d3 : (decide (0 ≤ fl + (-1)) && decide (fl + (-1) ≤ 15)) = true := by simp; omega
            have HE : Hid (r = some ⟨fl + (-1), (-1), ld, false⟩) := by unfold Hid; rw [HS.out, goC_some ⟨rfl, k1, fun x => k2 (by rw [x]; rfl), k3.1, k3.2⟩]
            clear HS H6 k1 k2 k3
            go_enter Tryz.func87, Tryz.ntmps87
            go_wp2_with (go_at_call 61; with_reducible refine (inRange_dec (fl + (-1)) 0 15 true _ d3).mono ?_; rintro e' w2 ⟨rfl, rfl⟩)
            refine bodyPost_ret (v := .tuple #[.agg #[.int .i64 (fl + (-1)), .int .i64 (-1), .int .i64 ld, .bool false], .bool true]) (by simp [results, Tryz.results87, go_sem]) rfl ⟨by rw [HE.out]; rfl, ?_⟩
            (repeat' (first | exact Below.refl _ _ | refine Below.alloc ?_ (by simp; try omega) _ | refine Below.setCell ?_ (by simp; try omega) _))
          · have d3 : (decide (0 ≤ fl + (-1)) && decide (fl + (-1) ≤ 15)) = false := by simp; omega
            have HE : Hid (r = none) := by unfold Hid; rw [HS.out, goC_none (fun x => k3 ⟨x.2.2.2.1, x.2.2.2.2⟩)]
            clear HS H6 k1 k2 k3
            go_enter Tryz.func87, Tryz.ntmps87
            go_wp2_with (go_at_call 61; with_reducible refine (inRange_dec (fl + (-1)) 0 15 false _ d3).mono ?_; rintro e' w2 ⟨rfl, rfl⟩)
            refine bodyPost_ret (v := .tuple #[.agg #[.int .i64 0, .int .i64 0, .int .i64 0, .bool false], .bool false]) (by simp [results, Tryz.results87, go_sem]) rfl ⟨by rw [HE.out]; rfl, ?_⟩
            (repeat' (first | exact Below.refl _ _ | refine Below.alloc ?_ (by simp; try omega) _ | refine Below.setCell ?_ (by simp; try omega) _))
    · have HE : Hid (r = none) := by unfold Hid; rw [HS.out, goC_none (fun x => by cases x.1)]
      clear HS H6
      go_enter Tryz.func87, Tryz.ntmps87
      go_wp2_with fail
      refine bodyPost_ret (v := .tuple #[.agg #[.int .i64 0, .int .i64 0, .int .i64 0, .bool false], .bool false]) (by simp [results, Tryz.results87, go_sem]) rfl ⟨by rw [HE.out]; rfl, ?_⟩
      (repeat' (first | exact Below.refl _ _ | refine Below.alloc ?_ (by simp; try omega) _ | refine Below.setCell ?_ (by simp; try omega) _))
  · have HS := Lib.hid hr
    clear hr
    cases op
    · have HE : Hid (r = some ⟨fl, 0, ld, false⟩) := by unfold Hid; rw [HS.out]; simp [stepC]
      clear HS H6
      go_enter Tryz.func87, Tryz.ntmps87
      go_wp2_with fail
      refine bodyPost_ret (v := .tuple #[.agg #[.int .i64 fl, .int .i64 0, .int .i64 ld, .bool false], .bool true]) (by simp [results, Tryz.results87, go_sem]) rfl ⟨by rw [HE.out]; rfl, ?_⟩
      (repeat' (first | exact Below.refl _ _ | refine Below.alloc ?_ (by simp; try omega) _ | refine Below.setCell ?_ (by simp; try omega) _))
    · have HE : Hid (r = none) := by unfold Hid; rw [HS.out]; simp [stepC]
      clear HS H6
      go_enter Tryz.func87, Tryz.ntmps87
      go_wp2_with fail
      refine bodyPost_ret (v := .tuple #[.agg #[.int .i64 0, .int .i64 0, .int .i64 0, .bool false], .bool false]) (by simp [results, Tryz.results87, go_sem]) rfl ⟨by rw [HE.out]; rfl, ?_⟩
      (repeat' (first | exact Below.refl _ _ | refine Below.alloc ?_ (by simp; try omega) _ | refine Below.setCell ?_ (by simp; try omega) _))
  · have HS := Lib.hid hr
    clear hr
    cases op
    · by_cases hh : hd = 0
      · have t0 : (hd != 0) = false := by simp [hh]
        subst hh
        have HE : Hid (r = some ⟨fl, 0, ld, true⟩) := by unfold Hid; rw [HS.out]; simp [stepC]
        clear HS H6
        go_enter Tryz.func87, Tryz.ntmps87
        go_wp2_with fail
        refine bodyPost_ret (v := .tuple #[.agg #[.int .i64 fl, .int .i64 0, .int .i64 ld, .bool true], .bool true]) (by simp [results, Tryz.results87, go_sem]) rfl ⟨by rw [HE.out]; rfl, ?_⟩
        (repeat' (first | exact Below.refl _ _ | refine Below.alloc ?_ (by simp; try omega) _ | refine Below.setCell ?_ (by simp; try omega) _))
      · have t0 : (hd != 0) = true := by simp [hh]
        have HE : Hid (r = none) := by unfold Hid; rw [HS.out]; simp [stepC, hh]
        clear HS H6
        clear hh
        go_enter Tryz.func87, Tryz.ntmps87
        go_wp2_with fail
        refine bodyPost_ret (v := .tuple #[.agg #[.int .i64 0, .int .i64 0, .int .i64 0, .bool false], .bool false]) (by simp [results, Tryz.results87, go_sem]) rfl ⟨by rw [HE.out]; rfl, ?_⟩
        (repeat' (first | exact Below.refl _ _ | refine Below.alloc ?_ (by simp; try omega) _ | refine Below.setCell ?_ (by simp; try omega) _))
    · have HE : Hid (r = none) := by unfold Hid; rw [HS.out]; simp [stepC]
      clear HS H6
      go_enter Tryz.func87, Tryz.ntmps87
      go_wp2_with fail
      refine bodyPost_ret (v := .tuple #[.agg #[.int .i64 0, .int .i64 0, .int .i64 0, .bool false], .bool false]) (by simp [results, Tryz.results87, go_sem]) rfl ⟨by rw [HE.out]; rfl, ?_⟩
      (repeat' (first | exact Below.refl _ _ | refine Below.alloc ?_ (by simp; try omega) _ | refine Below.setCell ?_ (by simp; try omega) _))
  · have HS := Lib.hid hr
    clear hr
    cases op
    · have HE : Hid (r = none) := by unfold Hid; rw [HS.out]; simp [stepC]
      clear HS H6
      go_enter Tryz.func87, Tryz.ntmps87
      go_wp2_with fail
      refine bodyPost_ret (v := .tuple #[.agg #[.int .i64 0, .int .i64 0, .int .i64 0, .bool false], .bool false]) (by simp [results, Tryz.results87, go_sem]) rfl ⟨by rw [HE.out]; rfl, ?_⟩
      (repeat' (first | exact Below.refl _ _ | refine Below.alloc ?_ (by simp; try omega) _ | refine Below.setCell ?_ (by simp; try omega) _))
    · have h0 := H6.out rfl
      subst h0
      have HE : Hid (r = some ⟨fl, 0, ld, false⟩) := by unfold Hid; rw [HS.out]; simp [stepC]
      clear HS H6
      go_enter Tryz.func87, Tryz.ntmps87
      go_wp2_with fail
      refine bodyPost_ret (v := .tuple #[.agg #[.int .i64 fl, .int .i64 0, .int .i64 ld, .bool false], .bool true]) (by simp [results, Tryz.results87, go_sem]) rfl ⟨by rw [HE.out]; rfl, ?_⟩
      (repeat' (first | exact Below.refl _ _ | refine Below.alloc ?_ (by simp; try omega) _ | refine Below.setCell ?_ (by simp; try omega) _))
  · have HS := Lib.hid hr
    clear hr
    cases op
    · have HE : Hid (r = none) := by unfold Hid; rw [HS.out]; simp [stepC]
      clear HS H6
      go_enter Tryz.func87, Tryz.ntmps87
      go_wp2_with fail
      refine bodyPost_ret (v := .tuple #[.agg #[.int .i64 0, .int .i64 0, .int .i64 0, .bool false], .bool false]) (by simp [results, Tryz.results87, go_sem]) rfl ⟨by rw [HE.out]; rfl, ?_⟩
      (repeat' (first | exact Below.refl _ _ | refine Below.alloc ?_ (by simp; try omega) _ | refine Below.setCell ?_ (by simp; try omega) _))
    · have h0 := H6.out rfl
      subst h0
      by_cases hl : ld < 5
      · have d3 : (decide (0 ≤ ld + 1) && decide (ld + 1 ≤ 5)) = true := by simp; omega
        have HE : Hid (r = some ⟨fl, 0, ld + 1, true⟩) := by unfold Hid; rw [HS.out]; simp [stepC, hl]
        clear HS H6
        go_enter Tryz.func87, Tryz.ntmps87
        go_wp2_with (go_at_call 61; with_reducible refine (inRange_dec (ld + 1) 0 5 true _ d3).mono ?_; rintro e' w2 ⟨rfl, rfl⟩)
        refine bodyPost_ret (v := .tuple #[.agg #[.int .i64 fl, .int .i64 0, .int .i64 (ld + 1), .bool true], .bool true]) (by simp [results, Tryz.results87, go_sem]) rfl ⟨by rw [HE.out]; rfl, ?_⟩
        (repeat' (first | exact Below.refl _ _ | refine Below.alloc ?_ (by simp; try omega) _ | refine Below.setCell ?_ (by simp; try omega) _))
      · have d3 : (decide (0 ≤ ld + 1) && decide (ld + 1 ≤ 5)) = false := by simp; omega
        have HE : Hid (r = none) := by unfold Hid; rw [HS.out]; simp [stepC, hl]
        clear HS H6
        go_enter Tryz.func87, Tryz.ntmps87
        go_wp2_with (go_at_call 61; with_reducible refine (inRange_dec (ld + 1) 0 5 false _ d3).mono ?_; rintro e' w2 ⟨rfl, rfl⟩)
        refine bodyPost_ret (v := .tuple #[.agg #[.int .i64 0, .int .i64 0, .int .i64 0, .bool false], .bool false]) (by simp [results, Tryz.results87, go_sem]) rfl ⟨by rw [HE.out]; rfl, ?_⟩
        (repeat' (first | exact Below.refl _ _ | refine Below.alloc ?_ (by simp; try omega) _ | refine Below.setCell ?_ (by simp; try omega) _))
  · have HS := Lib.hid hr
    clear hr
    cases op
    · have HE : Hid (r = none) := by unfold Hid; rw [HS.out]; simp [stepC]
      clear HS H6
      go_enter Tryz.func87, Tryz.ntmps87
      go_wp2_with fail
      refine bodyPost_ret (v := .tuple #[.agg #[.int .i64 0, .int .i64 0, .int .i64 0, .bool false], .bool false]) (by simp [results, Tryz.results87, go_sem]) rfl ⟨by rw [HE.out]; rfl, ?_⟩
      (repeat' (first | exact Below.refl _ _ | refine Below.alloc ?_ (by simp; try omega) _ | refine Below.setCell ?_ (by simp; try omega) _))
    · have h0 := H6.out rfl
      subst h0
      by_cases hl : 0 < ld
      · have d3 : (decide (0 ≤ ld - 1) && decide (ld - 1 ≤ 5)) = true := by simp; omega
        have HE : Hid (r = some ⟨fl, 0, ld - 1, true⟩) := by unfold Hid; rw [HS.out]; simp [stepC, hl]
        clear HS H6
        go_enter Tryz.func87, Tryz.ntmps87
        go_wp2_with (go_at_call 61; with_reducible refine (inRange_dec (ld - 1) 0 5 true _ d3).mono ?_; rintro e' w2 ⟨rfl, rfl⟩)
        refine bodyPost_ret (v := .tuple #[.agg #[.int .i64 fl, .int .i64 0, .int .i64 (ld - 1), .bool true], .bool true]) (by simp [results, Tryz.results87, go_sem]) rfl ⟨by rw [HE.out]; rfl, ?_⟩
        (repeat' (first | exact Below.refl _ _ | refine Below.alloc ?_ (by simp; try omega) _ | refine Below.setCell ?_ (by simp; try omega) _))
      · have d3 : (decide (0 ≤ ld - 1) && decide (ld - 1 ≤ 5)) = false := by simp; omega
        have HE : Hid (r = none) := by unfold Hid; rw [HS.out]; simp [stepC, hl]
        clear HS H6
        go_enter Tryz.func87, Tryz.ntmps87
        go_wp2_with (go_at_call 61; with_reducible refine (inRange_dec (ld - 1) 0 5 false _ d3).mono ?_; rintro e' w2 ⟨rfl, rfl⟩)
        refine bodyPost_ret (v := .tuple #[.agg #[.int .i64 0, .int .i64 0, .int .i64 0, .bool false], .bool false]) (by simp [results, Tryz.results87, go_sem]) rfl ⟨by rw [HE.out]; rfl, ?_⟩
        (repeat' (first | exact Below.refl _ _ | refine Below.alloc ?_ (by simp; try omega) _ | refine Below.setCell ?_ (by simp; try omega) _))

set_option maxHeartbeats 4000000 in
set_option maxRecDepth 100000 in
theorem spec_stepCar (w : World) (fl hd ld : Int) (op : Bool) (o : Nat) (h : carOk ⟨fl, hd, ld, op⟩) (ho : 1 ≤ o ∧ o ≤ 7) (r : Option CarV) (hr : r = stepC ⟨fl, hd, ld, op⟩ o) :
    Calls Tryz.prog 62 #[.agg #[.int .i64 fl, .int .i64 hd, .int .i64 ld, .bool op], .int .i64 o] w (StpRet w r) := by
  have HVC : Hid (∀ W, Calls Tryz.prog 86 #[.agg #[.int .i64 fl, .int .i64 hd, .int .i64 ld, .bool op]] W fun e w' => e = .returned (.bool true) ∧ w' = W.alloc (.cells #[.int .i64 fl, .int .i64 hd, .int .i64 ld, .bool op] 29)) := fun W => spec_validCar W fl hd ld op h
  have HST : Hid (∀ W, Calls Tryz.prog 87 #[.agg #[.int .i64 fl, .int .i64 hd, .int .i64 ld, .bool op], .int .i64 o] W (StpRet W r)) := fun W => spec_stepCar0 W fl hd ld op o h ho r hr
  obtain ⟨w3, hw3⟩ : ∃ w3, w3 = ((w.alloc (.cells #[.int .i64 fl, .int .i64 hd, .int .i64 ld, .bool op] 29)).alloc (.cells #[.int .i64 0, .int .i64 0, .int .i64 0, .bool false] 29)).alloc (.cells #[.int .i64 fl, .int .i64 hd, .int .i64 ld, .bool op] 29) := ⟨_, rfl⟩
  have hB3 : Below w.heap.size w w3 := by rw [hw3]; (repeat' (first | exact Below.refl _ _ | refine Below.alloc ?_ (by simp; try omega) _ | refine Below.setCell ?_ (by simp; try omega) _))
  have hz : w.heap.size + 1 < w3.heap.size := by rw [hw3]; simp
  have hb : w3.heap[w.heap.size + 1]? = some (.cells #[.int .i64 0, .int .i64 0, .int .i64 0, .bool false] 29 (0, 0)) := by
    rw [hw3, Lib.alloc_old _ _ _ (by simp)]
    have := heap_alloc_new (w.alloc (.cells #[.int .i64 fl, .int .i64 hd, .int .i64 ld, .bool op] 29)) (.cells #[.int .i64 0, .int .i64 0, .int .i64 0, .bool false] 29)
    rwa [World.size_alloc] at this
  have hq : ∀ i, w3.frozen? ⟨w.heap.size + 1, i, none⟩ = false := fun i => Lib.frozen_of_heap hb i
  have c0 : w3.cell? ⟨w.heap.size + 1, 0, none⟩ = some (.int .i64 0) := by rw [Lib.cell_of_heap hb]; rfl
  have c1 : w3.cell? ⟨w.heap.size + 1, 1, none⟩ = some (.int .i64 0) := by rw [Lib.cell_of_heap hb]; rfl
  have c2 : w3.cell? ⟨w.heap.size + 1, 2, none⟩ = some (.int .i64 0) := by rw [Lib.cell_of_heap hb]; rfl
  have c3 : w3.cell? ⟨w.heap.size + 1, 3, none⟩ = some (.bool false) := by rw [Lib.cell_of_heap hb]; rfl
  clear hb
  have HW3 := Lib.hid hw3
  have HB3 := Lib.hid hB3
  obtain ⟨d, hd1⟩ : ∃ d, d = r.getD car0 := ⟨_, rfl⟩
  obtain ⟨b, hb1⟩ : ∃ b, b = r.isSome := ⟨_, rfl⟩
  have HRV : Hid (∀ W, Below w.heap.size w W → StpRet w r (.returned (.tuple #[.agg #[.int .i64 d.fl, .int .i64 d.hd, .int .i64 d.ld, .bool d.op], .bool b])) W) := fun W hB => by
    rw [hd1, hb1]; exact ⟨rfl, hB⟩
  have HS2 : Hid (∀ e W W', StpRet W r e W' → e = .returned (.tuple #[.agg #[.int .i64 d.fl, .int .i64 d.hd, .int .i64 d.ld, .bool d.op], .bool b]) ∧ Below W.heap.size W W') := fun e W W' h => by rw [hd1, hb1]; exact h
  obtain ⟨df, dh, dl, dop⟩ := d
  simp only at HRV HS2
  clear hw3 hB3 hd1 hb1 hr h
  go_enter Tryz.func62, Tryz.ntmps62
  go_wp2_with (first
    | (go_at_call 86; refine (HVC.out _).mono ?_; rintro e' w2 ⟨rfl, rfl⟩)
    | (go_at_call 87; rw [← HW3.out]; refine (HST.out _).mono ?_; intro e' w4 h4; obtain ⟨rfl, hB4⟩ := HS2.out _ _ _ h4; clear h4; have y0 := (hB4.cell (p := ⟨w.heap.size + 1, 0, none⟩) hz).trans c0; have y1 := (hB4.cell (p := ⟨w.heap.size + 1, 1, none⟩) hz).trans c1; have y2 := (hB4.cell (p := ⟨w.heap.size + 1, 2, none⟩) hz).trans c2; have y3 := (hB4.cell (p := ⟨w.heap.size + 1, 3, none⟩) hz).trans c3; have yf : ∀ i, w4.frozen? ⟨w.heap.size + 1, i, none⟩ = false := (fun i => (hB4.frozen (p := ⟨w.heap.size + 1, i, none⟩) hz).trans (hq i)); have f0 := yf 0; have f1 := yf 1; have f2 := yf 2; have f3 := yf 3; have HB4 := Lib.hid (HB3.out.trans (hB4.mono HB3.out.size)); clear hB4 yf c0 c1 c2 c3))
  refine bodyPost_ret (v := .tuple #[.agg #[.int .i64 df, .int .i64 dh, .int .i64 dl, .bool dop], .bool b]) (by simp [results, Tryz.results62, go_sem, y0, y1, y2, y3]) rfl (HRV.out _ ?_)
  repeat' (first | exact HB4.out | refine Below.setCell ?_ (by simp) _)
end

section
open Go.RowKit
set_option linter.unusedVariables false
set_option linter.unusedSimpArgs false

theorem ty_desk : TyOk 57 := by unfold TyOk; decide
set_option maxRecDepth 100000 in
set_option maxHeartbeats 4000000 in
theorem desk_order (W : World) (B gs : Nat) (s : SesV) (h : Ses 57 B gs s W) (hB : B ≤ W.heap.size) (hok : carOk s.car) (o : Nat) (ho : 1 ≤ o ∧ o ≤ 7) :
    Calls Tryz.prog 42 #[.pointer (some ⟨gs, 0, none⟩), .int .i64 o] W (SRet 57 B gs (ordS s o) W) := by
  obtain ⟨vcl, vst, h⟩ := h
  obtain ⟨r, hr⟩ : ∃ r, r = stepC s.car o := ⟨_, rfl⟩
  have HC : Hid (∀ V, Calls Tryz.prog 62 #[.agg #[.int .i64 s.car.fl, .int .i64 s.car.hd, .int .i64 s.car.ld, .bool s.car.op], .int .i64 o] V (StpRet V r)) := fun V => spec_stepCar V _ _ _ _ o hok ho r hr
  have HR := Lib.hid hr
  obtain ⟨hg, hf, p0, p1, p2, p3, p4, p5⟩ := h.at
  have HS := Lib.hid h
  obtain ⟨car, cl, st⟩ := s
  obtain ⟨fl, hd, ld, op⟩ := car
  simp only at HC HR p0 p1 p2 p3 HS
  clear h hf hr hok
  go_enter Tryz.func42, Tryz.ntmps42
  cases r with
  | none =>
    have HE : Hid (ordS ⟨⟨fl, hd, ld, op⟩, cl, st⟩ o = (⟨⟨fl, hd, ld, op⟩, cl, st⟩, bNo)) := by unfold Hid ordS; simp only; rw [← HR.out]
    go_wp2_with (go_at_call 62; refine (HC.out _).mono ?_; rintro e' w2 ⟨rfl, hB2⟩; have HB2 := Lib.hid hB2; clear hB2; unfold carV; simp only [Option.getD_none, Option.isSome_none, car0])
    go_ret
    rw [HE.out]
    exact ⟨sV bNo, rfl, rfl, SesP.still ⟨vcl, vst, HS.out⟩ (HB2.out.alloc HB2.out.size _) hB⟩
  | some d =>
    obtain ⟨dfl, dhd, dld, dop⟩ := d
    have HE : Hid (ordS ⟨⟨fl, hd, ld, op⟩, cl, st⟩ o = (⟨⟨dfl, dhd, dld, dop⟩, cl, st⟩, bOk)) := by unfold Hid ordS; simp only; rw [← HR.out]
    go_wp2_with (go_at_call 62; refine (HC.out _).mono ?_; rintro e' w2 ⟨rfl, hB2⟩; unfold carV; simp only [Option.getD_some, Option.isSome_some]; have HS2 := Lib.hid (HS.out.below hB2); obtain ⟨hg2, hf2, q0, q1, q2, q3, q4, q5⟩ := (HS.out.below hB2).at; have f0 := hf2 0; have f1 := hf2 1; have f2 := hf2 2; have f3 := hf2 3; have HB2 := Lib.hid hB2; clear hB2 hf2)
    go_ret
    rw [HE.out]
    have HT := HS2.out.setCar ty_desk ⟨dfl, dhd, dld, dop⟩
    have hb := ((((HB2.out.mono hB).setCell (p := ⟨gs, 0, none⟩) HS.out.ge (.int .i64 dfl)).setCell (p := ⟨gs, 1, none⟩) HS.out.ge (.int .i64 dhd)).setCell (p := ⟨gs, 2, none⟩) HS.out.ge (.int .i64 dld)).setCell (p := ⟨gs, 3, none⟩) HS.out.ge (.bool dop)
    exact ⟨sV bOk, rfl, rfl, ⟨vcl, vst, HT.below ((Below.refl _ _).alloc (Nat.le_refl _) _)⟩, hb.alloc (by have := HB2.out.size; simp; omega) _, (setCell_kept (setCell_kept (setCell_kept (setCell_kept (kept_below HB2.out))))).alloc _⟩

set_option maxRecDepth 100000 in
set_option maxHeartbeats 4000000 in
theorem ses_plan (W : World) (B gs : Nat) (s : SesV) (h : Ses 44 B gs s W) (hB : B ≤ W.heap.size) (S : ByteArray) (l : List UInt8) (hS : Str8 S l) (hl : l.length ≤ 1000000000) :
    Calls Tryz.prog 35 #[.pointer (some ⟨gs, 0, none⟩), .string S] W (SRet 44 B gs (planS s l) W) := by
  obtain ⟨vcl, vst, h⟩ := h
  obtain ⟨car, cl, st⟩ := s
  simp only at h
  have HC : Hid (Calls Tryz.prog 59 #[.string S] W (ParRet l W)) := impl_parse W S l hS hl
  have HS := Lib.hid h
  clear h hS
  go_enter Tryz.func35, Tryz.ntmps35
  go_wp2_with fail
  go_at_call 59
  refine HC.out.mono ?_
  rintro e' w2 ⟨v, ok, rfl, hcase, hB2⟩
  rcases hcase with ⟨rfl, ss, hp, hO⟩ | ⟨rfl, hp, rfl⟩
  · have HE : Hid (planS ⟨car, cl, st⟩ l = (⟨car, cl, ss⟩, bOk)) := by unfold Hid planS; rw [hp]
    obtain ⟨ao, cap, rfl, hc, hm⟩ := hO.stg.form
    have HS2 := Lib.hid (HS.out.below hB2)
    have HO := Lib.hid (hO.mono hB)
    have HB2 := Lib.hid hB2
    obtain ⟨hg2, hf2, _, _, _, _, _, q5⟩ := HS2.out.at
    have f5 := hf2 5
    clear hp hO hB2 hf2
    go_wp2_with fail
    go_ret
    rw [HE.out]
    exact ⟨sV bOk, rfl, rfl, ⟨vcl, _, HS2.out.setSt ty_ses HO.out⟩, (HB2.out.mono hB).setCell (p := ⟨gs, 5, none⟩) HS2.out.ge _, setCell_kept (kept_below HB2.out)⟩
  · have HE : Hid (planS ⟨car, cl, st⟩ l = (⟨car, cl, st⟩, bNo)) := by unfold Hid planS; rw [hp]
    have HB2 := Lib.hid hB2
    clear hp hB2
    go_wp2_with fail
    go_ret
    rw [HE.out]
    exact ⟨sV bNo, rfl, rfl, SesP.still ⟨vcl, vst, HS.out⟩ HB2.out hB⟩

set_option maxRecDepth 100000 in
set_option maxHeartbeats 4000000 in
theorem desk_plan (W : World) (B gs : Nat) (s : SesV) (h : Ses 57 B gs s W) (hB : B ≤ W.heap.size) (S : ByteArray) (l : List UInt8) (hS : Str8 S l) (hl : l.length ≤ 1000000000) :
    Calls Tryz.prog 47 #[.pointer (some ⟨gs, 0, none⟩), .string S] W (SRet 57 B gs (planS s l) W) := by
  obtain ⟨vcl, vst, h⟩ := h
  obtain ⟨car, cl, st⟩ := s
  simp only at h
  have HC : Hid (Calls Tryz.prog 66 #[.string S] W (ParRet l W)) := spec_parse W S l hS hl
  have HS := Lib.hid h
  clear h hS
  go_enter Tryz.func47, Tryz.ntmps47
  go_wp2_with fail
  go_at_call 66
  refine HC.out.mono ?_
  rintro e' w2 ⟨v, ok, rfl, hcase, hB2⟩
  rcases hcase with ⟨rfl, ss, hp, hO⟩ | ⟨rfl, hp, rfl⟩
  · have HE : Hid (planS ⟨car, cl, st⟩ l = (⟨car, cl, ss⟩, bOk)) := by unfold Hid planS; rw [hp]
    obtain ⟨ao, cap, rfl, hc, hm⟩ := hO.stg.form
    have HS2 := Lib.hid (HS.out.below hB2)
    have HO := Lib.hid (hO.mono hB)
    have HB2 := Lib.hid hB2
    obtain ⟨hg2, hf2, _, _, _, _, _, q5⟩ := HS2.out.at
    have f5 := hf2 5
    clear hp hO hB2 hf2
    go_wp2_with fail
    go_ret
    rw [HE.out]
    exact ⟨sV bOk, rfl, rfl, ⟨vcl, _, HS2.out.setSt ty_desk HO.out⟩, (HB2.out.mono hB).setCell (p := ⟨gs, 5, none⟩) HS2.out.ge _, setCell_kept (kept_below HB2.out)⟩
  · have HE : Hid (planS ⟨car, cl, st⟩ l = (⟨car, cl, st⟩, bNo)) := by unfold Hid planS; rw [hp]
    have HB2 := Lib.hid hB2
    clear hp hB2
    go_wp2_with fail
    go_ret
    rw [HE.out]
    exact ⟨sV bNo, rfl, rfl, SesP.still ⟨vcl, vst, HS.out⟩ HB2.out hB⟩
end

section
open Go.RowKit
set_option linter.unusedVariables false
set_option linter.unusedSimpArgs false

theorem fmt_call (N : Nat) (D : ByteArray) (V : World) (hN : N ≤ 1000000) (hD : Str8 D (Lib.decDigits N)) : Calls Tryz.prog 45 #[.int .i64 N] V fun e w' => e = .returned (.string D) ∧ Below V.heap.size V w' := by
  rw [hD]; exact spec_formatInt N V hN
set_option maxRecDepth 100000 in
set_option maxHeartbeats 4000000 in
theorem desk_show (W : World) (B gs : Nat) (c : CarV) (vcl vst : Value) (cl : List Cl) (st : List Stg) (h : SesU 57 B gs c vcl cl vst st W) (hok : carOk c) :
    Calls Tryz.prog 43 #[.pointer (some ⟨gs, 0, none⟩)] W (ShowRet (showT c) W) := by
  have HS := Lib.hid h
  obtain ⟨hg, hf, p0, p1, p2, p3, p4, p5⟩ := h.at
  obtain ⟨fl, hd, ld, op⟩ := c
  obtain ⟨h1, h2, h3, h4, h5, h6⟩ := hok
  simp only at p0 p1 p2 p3 h1 h2 h3 h4 h5 h6
  obtain ⟨F, rfl⟩ : ∃ F : Nat, fl = F := ⟨fl.toNat, by omega⟩
  obtain ⟨L, rfl⟩ : ∃ L : Nat, ld = L := ⟨ld.toNat, by omega⟩
  have HSH : Hid (∀ x, stateT ⟨F, hd, L, op⟩ = x → showT ⟨F, hd, L, op⟩ = Lib.decDigits F ++ x ++ [32] ++ Lib.decDigits L) := fun x hx => by unfold showT; rw [hx]; simp
  have KK : Hid (∀ V, Below W.heap.size W V → V.cell? ⟨gs, 1, none⟩ = some (.int .i64 hd) ∧ V.cell? ⟨gs, 2, none⟩ = some (.int .i64 L) ∧ V.cell? ⟨gs, 3, none⟩ = some (.bool op)) := fun V hb => ⟨(hb.cell (p := ⟨gs, 1, none⟩) hg).trans p1, (hb.cell (p := ⟨gs, 2, none⟩) hg).trans p2, (hb.cell (p := ⟨gs, 3, none⟩) hg).trans p3⟩
  have H6 := Lib.hid h6
  have H3 := Lib.hid h3
  clear h h3 h6 hf
  cases op
  case true =>
    obtain ⟨D1, D2, C1, C2, C3, d1, d2, k1, k2, k3, s3, sc, s1, s2⟩ := show_sum F L (by omega) (by omega) ⟨#[32, 111, 112, 101, 110]⟩ (32 :: bOpen) rfl (by decide)
    have HE := Lib.hid (HSH.out _ (show stateT ⟨F, hd, L, true⟩ = (32 :: bOpen) from rfl))
    have HI1 := Lib.hid (fun V => fmt_call F D1 V (by omega) s1)
    have HI2 := Lib.hid (fun V => fmt_call L D2 V (by omega) s2)
    have HS3 := Lib.hid s3
    clear HSH H6 H3 d1 d2 s3 sc s1 s2
    go_enter Tryz.func43, Tryz.ntmps43
    go_wp2_with (first
      | (go_at_call 45; with_reducible refine (HI1.out _).mono ?_; rintro e' w2 ⟨rfl, hb⟩; obtain ⟨q1, q2, q3⟩ := KK.out _ hb; have H2 := Lib.hid hb; clear hb)
      | (go_at_call 45; with_reducible refine (HI2.out _).mono ?_; rintro e' w3 ⟨rfl, hb⟩; have H5 := Lib.hid (H2.out.trans (hb.mono H2.out.size)); clear hb))
    go_ret
    exact ⟨C3, rfl, by rw [HE.out]; exact HS3.out, H5.out⟩
  case false =>
    rcases H3.out with e | e | e
    · subst e
      obtain ⟨D1, D2, C1, C2, C3, d1, d2, k1, k2, k3, s3, sc, s1, s2⟩ := show_sum F L (by omega) (by omega) ⟨#[32, 100, 111, 119, 110]⟩ (32 :: bDown) rfl (by decide)
      have HE := Lib.hid (HSH.out _ (show stateT ⟨F, -1, L, false⟩ = (32 :: bDown) from rfl))
      have HI1 := Lib.hid (fun V => fmt_call F D1 V (by omega) s1)
      have HI2 := Lib.hid (fun V => fmt_call L D2 V (by omega) s2)
      have HS3 := Lib.hid s3
      clear HSH H6 H3 d1 d2 s3 sc s1 s2
      go_enter Tryz.func43, Tryz.ntmps43
      go_wp2_with (first
        | (go_at_call 45; with_reducible refine (HI1.out _).mono ?_; rintro e' w2 ⟨rfl, hb⟩; obtain ⟨q1, q2, q3⟩ := KK.out _ hb; have H2 := Lib.hid hb; clear hb)
        | (go_at_call 45; with_reducible refine (HI2.out _).mono ?_; rintro e' w3 ⟨rfl, hb⟩; have H5 := Lib.hid (H2.out.trans (hb.mono H2.out.size)); clear hb))
      go_ret
      exact ⟨C3, rfl, by rw [HE.out]; exact HS3.out, H5.out⟩
    · subst e
      obtain ⟨D1, D2, C1, C2, C3, d1, d2, k1, k2, k3, s3, sc, s1, s2⟩ := show_sum F L (by omega) (by omega) ⟨#[]⟩ [] rfl (by decide)
      have e1 : C1 = D1 := by unfold Str8 at sc s1; rw [sc, s1]; simp
      subst e1
      have HE := Lib.hid (HSH.out _ (show stateT ⟨F, 0, L, false⟩ = [] from rfl))
      have HI1 := Lib.hid (fun V => fmt_call F C1 V (by omega) s1)
      have HI2 := Lib.hid (fun V => fmt_call L D2 V (by omega) s2)
      have HS3 := Lib.hid s3
      clear HSH H6 H3 d1 d2 s3 sc s1 s2
      go_enter Tryz.func43, Tryz.ntmps43
      go_wp2_with (first
        | (go_at_call 45; with_reducible refine (HI1.out _).mono ?_; rintro e' w2 ⟨rfl, hb⟩; obtain ⟨q1, q2, q3⟩ := KK.out _ hb; have H2 := Lib.hid hb; clear hb)
        | (go_at_call 45; with_reducible refine (HI2.out _).mono ?_; rintro e' w3 ⟨rfl, hb⟩; have H5 := Lib.hid (H2.out.trans (hb.mono H2.out.size)); clear hb))
      go_ret
      exact ⟨C3, rfl, by rw [HE.out]; exact HS3.out, H5.out⟩
    · subst e
      obtain ⟨D1, D2, C1, C2, C3, d1, d2, k1, k2, k3, s3, sc, s1, s2⟩ := show_sum F L (by omega) (by omega) ⟨#[32, 117, 112]⟩ (32 :: bUp) rfl (by decide)
      have HE := Lib.hid (HSH.out _ (show stateT ⟨F, 1, L, false⟩ = (32 :: bUp) from rfl))
      have HI1 := Lib.hid (fun V => fmt_call F D1 V (by omega) s1)
      have HI2 := Lib.hid (fun V => fmt_call L D2 V (by omega) s2)
      have HS3 := Lib.hid s3
      clear HSH H6 H3 d1 d2 s3 sc s1 s2
      go_enter Tryz.func43, Tryz.ntmps43
      go_wp2_with (first
        | (go_at_call 45; with_reducible refine (HI1.out _).mono ?_; rintro e' w2 ⟨rfl, hb⟩; obtain ⟨q1, q2, q3⟩ := KK.out _ hb; have H2 := Lib.hid hb; clear hb)
        | (go_at_call 45; with_reducible refine (HI2.out _).mono ?_; rintro e' w3 ⟨rfl, hb⟩; have H5 := Lib.hid (H2.out.trans (hb.mono H2.out.size)); clear hb))
      go_ret
      exact ⟨C3, rfl, by rw [HE.out]; exact HS3.out, H5.out⟩
end

section
open Go.RowKit
set_option linter.unusedVariables false
set_option linter.unusedSimpArgs false

theorem step_append_Keep {P : Program} {w : World} {ops : Array Oper} {o : Oper} {a : Act} {K : Act → World → Prop} {Q : Exit → Act → World → Prop} {E : Prop} (hgd : o.guard = none) (s x : Operand) (t : TypeId)
    (ho : o.op = .call { callee := .builtin .append, args := #[s, x], argTypes := #[t, t] })
    (e : TypeId) (z : Value) (sz bytes : Nat) (ht : P.underlying t = some (.slice e)) (hi : (P.info? e).map (fun i => (i.zero, i.size, i.bytes)) = some (some z, sz, bytes))
    (hzs : z.cells.size = sz) (hsz : 0 < sz)
    (lo : Nat) (v : Value) (n : Nat) (cs : List Value) (hs : a.eval s = v) (hown : Own w lo e sz v n cs)
    (xv : Value) (lo' m : Nat) (news : List Value) (hxe : a.eval x = xv) (hx : Rd w lo' xv sz m news) (h1 : ∀ u ∈ news, u.oneCell' = true)
    (h63 : n + m ≤ maxLen) (hbytes : (n + m) * bytes ≤ 140737488355328) (hbase : lo ≤ w.heap.size)
    (h : ∀ v' w', Own w' lo e sz v' (n + m) (cs ++ news) → w.grownBy w' (wblk v) → (∀ k, wblk v' = some k → wblk v = some k ∨ w.heap.size ≤ k) → Own w' lo e sz v n cs → K (a.put o.dst v') w') :
    if Region.wanted o (yielded ops a.tmps) = true then Oper.wp P o a w K Q else E := by
  have hw : Region.wanted o (yielded ops a.tmps) = true := by simp [Region.wanted, hgd]
  rw [if_pos hw]
  obtain ⟨i, hi1, hz, hsize, hby⟩ := info_parts hi
  obtain ⟨v', w', hr, h2, h3, h4, h5⟩ := run_append_Keep (P := P) w lo t o.type e i z sz bytes ht hi1 hz hsize hby hzs hsz v n cs hown xv lo' m news hx h1 h63 hbytes hbase
  unfold Oper.wp execOp
  simp only [ho, resolve, invoke, builtin, Sem.run_bind, Sem.run_pure, Result.andThen_ok, List.map_toArray, List.map_cons, List.map_nil, hs, hxe, hr]
  exact h v' w' h2 h3 h4 h5
theorem info_callS : (Tryz.prog.info? 73).map (fun i => (i.zero, i.size, i.bytes)) = some (some (.agg #[.int .i64 0, .int .i64 0, .int .i64 0]), 3, 24) := by kernel_rfl

theorem cls_of_ownS {w : World} {lo : Nat} {v : Value} {cs : List Cl} (h : Own w lo 73 3 v cs.length (cs.flatMap clCells)) : Cls w lo v cs := h.rd
set_option maxRecDepth 100000 in
set_option maxHeartbeats 4000000 in
theorem ses_call (W : World) (B gs : Nat) (s : SesV) (h : Ses 44 B gs s W) (hB : B ≤ W.heap.size) (hl : s.cl.length ≤ 12) (f t m : Int) :
    Calls Tryz.prog 37 #[.pointer (some ⟨gs, 0, none⟩), .agg #[.int .i64 f, .int .i64 t, .int .i64 m]] W (SRet 44 B gs (callS s (f, t, m)) W) := by
  obtain ⟨vcl, vst, h⟩ := h
  obtain ⟨car, cl, st⟩ := s
  simp only at h hl
  have hbx : Below W.heap.size W (W.alloc (.cells #[.int .i64 f, .int .i64 t, .int .i64 m] 73)) := (Below.refl _ _).alloc (Nat.le_refl _) _
  have h1 := h.below hbx
  obtain ⟨b0, b1, b2⟩ : (W.alloc (.cells #[.int .i64 f, .int .i64 t, .int .i64 m] 73)).cell? ⟨W.heap.size, 0, none⟩ = some (.int .i64 f) ∧ (W.alloc (.cells #[.int .i64 f, .int .i64 t, .int .i64 m] 73)).cell? ⟨W.heap.size, 1, none⟩ = some (.int .i64 t) ∧ (W.alloc (.cells #[.int .i64 f, .int .i64 t, .int .i64 m] 73)).cell? ⟨W.heap.size, 2, none⟩ = some (.int .i64 m) := by
    refine ⟨?_, ?_, ?_⟩ <;> (rw [cell_of_row _ W.heap.size _ _ _ (0, 0) (heap_alloc_new W _)]; rfl)
  have hlt : W.heap.size < (W.alloc (.cells #[.int .i64 f, .int .i64 t, .int .i64 m] 73)).heap.size := by simp
  obtain ⟨gb, hgb⟩ : ∃ gb, gb = W.heap.size := ⟨_, rfl⟩
  have HGB := Lib.hid hgb
  go_enter Tryz.func37, Tryz.ntmps37
  go_wp2_with fail
  rw [← hgb] at b0 b1 b2 hlt ⊢
  generalize hw1 : W.alloc (.cells #[.int .i64 f, .int .i64 t, .int .i64 m] 73) = w1 at b0 b1 b2 hlt h1 hbx ⊢
  clear hw1 hgb
  obtain ⟨hg, hf, p0, p1, p2, p3, p4, p5⟩ := h1.at
  obtain ⟨ao, cap, rfl, hcap, hm⟩ := h1.cal.form
  have hBw : B ≤ w1.heap.size := Nat.le_trans hB hbx.size
  have HBX := Lib.hid hbx
  have H1 := Lib.hid h1
  have HC := Lib.hid h1.cal
  have KT : Hid (∀ V V', Below w1.heap.size w1 V → V.grownBy V' (wblk (.slice ao cl.length cap)) → Own V' B 73 3 (.slice ao cl.length cap) cl.length (cl.flatMap clCells) →
      SesU 44 B gs car (.slice ao cl.length cap) cl vst st V' ∧ Below B w1 V' ∧ Lib.OthersKept 73 (some gs) w1 V') := fun V V' hb hg ho =>
    ⟨(h1.below hb).grow ty_ses hg ho, (hb.mono hBw).trans (below_of_grownBy hg (Nat.le_trans hBw hb.size) (fun k hk => ((h1.below hb).cal.wblk hk).1)), (kept_below hb).trans ((h1.below hb).growK hg)⟩
  have KS : Hid (∀ V V', Below w1.heap.size w1 V → V.grownBy V' (wblk (.slice ao cl.length cap)) → Own V' B 73 3 (.slice ao cl.length cap) cl.length (cl.flatMap clCells) →
      V'.cell? ⟨gs, 4, none⟩ = some (.slice ao cl.length cap) ∧ V'.cell? ⟨gb, 0, none⟩ = some (.int .i64 f) ∧ V'.cell? ⟨gb, 1, none⟩ = some (.int .i64 t) ∧ V'.cell? ⟨gb, 2, none⟩ = some (.int .i64 m)) := fun V V' hb hg ho => by
    have hbl : ∀ i, V'.cell? ⟨gb, i, none⟩ = w1.cell? ⟨gb, i, none⟩ := fun i => by
      rw [← hb.cell (p := ⟨gb, i, none⟩) hlt]
      refine World.cell?_of_block (hg.block gb (Nat.lt_of_lt_of_le hlt hb.size) (fun e => ?_))
      have := (h.cal.wblk e.symm).2
      have := HGB.out
      omega
    exact ⟨((h1.below hb).grow ty_ses hg ho).at.2.2.2.2.2.2.1, (hbl 0).trans b0, (hbl 1).trans b1, (hbl 2).trans b2⟩
  clear h h1 hbx p0 p1 p2 p3 p5 hf
  go_region_held3 (fun V => V.cell? ⟨gs, 4, none⟩ = some (.slice ao cl.length cap) ∧ V.cell? ⟨gb, 0, none⟩ = some (.int .i64 f) ∧ V.cell? ⟨gb, 1, none⟩ = some (.int .i64 t) ∧ V.cell? ⟨gb, 2, none⟩ = some (.int .i64 m))
    (first | go_keep | exact KS.out _ _ ((Below.refl _ _).alloc (Nat.le_refl _) _) hg6 hOld | exact KS.out _ _ (Below.drew ((Below.refl _ _).alloc (Nat.le_refl _) _)) hg6 hOld)
    ((first
      | (refine step_append_Keep (by rfl) _ _ _ (by rfl) 73 (.agg #[.int .i64 0, .int .i64 0, .int .i64 0]) 3 24 Tryz.underlying41 info_callS rfl (by omega) B _ cl.length _ (by rfl) (HC.out.alloc _) _ 0 1 [.int .i64 f, .int .i64 t, .int .i64 m] (by rfl) (Rd.made w1 [.int .i64 f, .int .i64 t, .int .i64 m] _ 0 3 1 rfl (Nat.zero_le _) (by decide)) (by intro u hu; simp at hu; rcases hu with rfl | rfl | rfl <;> rfl) (by unfold maxLen; omega) (by omega) (by show _ ≤ (w1.alloc _).heap.size; simp; omega) ?_
         intro v6 w6 hO6 hg6 hk6 hOld)))
  obtain ⟨hS6, hB6, hK6⟩ := KT.out _ _ (Below.drew ((Below.refl _ _).alloc (Nat.le_refl _) _)) hg6 hOld
  have hcs : cl.flatMap clCells ++ [.int .i64 f, .int .i64 t, .int .i64 m] = (cl ++ [(f, t, m)]).flatMap clCells := by simp [clCells]
  rw [hcs] at hO6
  have hO7 : Own w6 B 73 3 v6 (cl ++ [(f, t, m)]).length ((cl ++ [(f, t, m)]).flatMap clCells) := by rw [List.length_append]; exact hO6
  have hCv := cls_of_ownS hO7
  obtain ⟨n6, hn6⟩ : ∃ n6, n6 = (cl ++ [(f, t, m)]).length := ⟨_, rfl⟩
  have HN6 := Lib.hid hn6
  rw [← hn6] at hO7
  obtain ⟨a6, c6, rfl, hc6, hm6⟩ := hO7.form
  have hB7 := (HBX.out.mono hB).trans hB6
  have hK7 := (kept_below (e := 73) (b := some gs) HBX.out).trans hK6
  obtain ⟨r, hr⟩ : ∃ r, r = decide (clsOk (cl ++ [(f, t, m)])) := ⟨_, rfl⟩
  have HV := Lib.hid (impl_validCalls w6 B _ (cl ++ [(f, t, m)]) r hr hCv)
  have HR := Lib.hid hr
  have HS6 := Lib.hid hS6
  have HO7 := Lib.hid hO7
  have HB7 := Lib.hid hB7
  have HK7 := Lib.hid hK7
  clear hS6 hB6 hK6 hcs hO6 hO7 hB7 hK7 hr hg6 hk6 hOld KT KS H1 HC hCv hn6
  cases r
  · have HE : Hid (callS ⟨car, cl, st⟩ (f, t, m) = (⟨car, cl, st⟩, bNo)) := by unfold Hid callS; simp only; rw [if_neg (of_decide_eq_false HR.out.symm)]
    go_wp2_with (go_at_call 54; refine HV.out.mono ?_; rintro e' w8 ⟨rfl, hB8⟩; have HB8 := Lib.hid hB8; clear hB8)
    go_ret
    rw [HE.out]
    exact ⟨sV bNo, rfl, rfl, ⟨_, vst, HS6.out.below HB8.out⟩, HB7.out.trans (HB8.out.mono (Nat.le_trans hB HB7.out.size)), HK7.out.trans (kept_below HB8.out)⟩
  · have HE : Hid (callS ⟨car, cl, st⟩ (f, t, m) = (⟨car, cl ++ [(f, t, m)], st⟩, bOk)) := by unfold Hid callS; simp only; rw [if_pos (of_decide_eq_true HR.out.symm)]
    go_wp2_with (go_at_call 54; refine HV.out.mono ?_; rintro e' w8 ⟨rfl, hB8⟩; have HS8 := Lib.hid (HS6.out.below hB8); obtain ⟨hg8, hf8, _, _, _, _, q4, _⟩ := HS8.out.at; have f4 := hf8 4; have HO8 := Lib.hid (HO7.out.below hB8 (Nat.le_refl _)); have HB8 := Lib.hid hB8; clear hB8 hf8)
    go_ret
    rw [HE.out]
    exact ⟨sV bOk, rfl, rfl, ⟨_, vst, HS8.out.setCl ty_ses (by rw [← HN6.out]; exact HO8.out)⟩, (HB7.out.trans (HB8.out.mono (Nat.le_trans hB HB7.out.size))).setCell (p := ⟨gs, 4, none⟩) HS8.out.ge _, setCell_kept (HK7.out.trans (kept_below HB8.out))⟩
end

section
open Go.RowKit
set_option linter.unusedVariables false
set_option linter.unusedSimpArgs false

theorem step_append_OwnS {P : Program} {w : World} {ops : Array Oper} {o : Oper} {a : Act} {K : Act → World → Prop} {Q : Exit → Act → World → Prop} {E : Prop} (hgd : o.guard = none) (s x : Operand) (t : TypeId)
    (ho : o.op = .call { callee := .builtin .append, args := #[s, x], argTypes := #[t, t] })
    (e : TypeId) (z : Value) (sz bytes : Nat) (ht : P.underlying t = some (.slice e)) (hi : (P.info? e).map (fun i => (i.zero, i.size, i.bytes)) = some (some z, sz, bytes))
    (hzs : z.cells.size = sz) (hsz : 0 < sz)
    (lo : Nat) (v : Value) (n : Nat) (cs : List Value) (hs : a.eval s = v) (hown : Own w lo e sz v n cs)
    (xv : Value) (lo' m : Nat) (news : List Value) (hxe : a.eval x = xv) (hx : Rd w lo' xv sz m news) (h1 : ∀ u ∈ news, u.oneCell' = true)
    (h63 : n + m ≤ maxLen) (hbytes : (n + m) * bytes ≤ 140737488355328) (hbase : lo ≤ w.heap.size)
    (h : ∀ v' w', Own w' lo e sz v' (n + m) (cs ++ news) → w.grownBy w' (wblk v) → (∀ k, wblk v' = some k → wblk v = some k ∨ w.heap.size ≤ k) → K (a.put o.dst v') w') :
    if Region.wanted o (yielded ops a.tmps) = true then Oper.wp P o a w K Q else E :=
  step_append_Keep hgd s x t ho e z sz bytes ht hi hzs hsz lo v n cs hs hown xv lo' m news hxe hx h1 h63 hbytes hbase (fun v' w' a b c _ => h v' w' a b c)
theorem bAs (w : World) (o : Obj) : Below w.heap.size w (w.alloc o).drew := ((Below.refl _ _).alloc (Nat.le_refl _) _).drew
theorem bBs (w : World) (o o' : Obj) : Below w.heap.size w ((w.alloc o).drew.alloc o').drew := ((bAs w o).alloc (bAs w o).size _).drew
theorem bCs (w : World) (o o' : Obj) : Below w.heap.size w ((w.alloc o).alloc o').drew := ((((Below.refl _ _).alloc (Nat.le_refl _) _).alloc ((Below.refl w.heap.size w).alloc (Nat.le_refl _) o).size _)).drew
theorem made2s (w1 : World) (o : Obj) (a b c : Int) (t : TypeId) : Rd ((w1.alloc o).alloc (.cells #[.int .i64 a, .int .i64 b, .int .i64 c] t)).drew (w1.heap.size + 1) (.slice (some ⟨w1.heap.size + 1, 0, none⟩) 1 1) 3 1 [.int .i64 a, .int .i64 b, .int .i64 c] := by
  have h := Rd.made (w1.alloc o) [.int .i64 a, .int .i64 b, .int .i64 c] t (w1.heap.size + 1) 3 1 rfl (by simp) (by decide)
  simp only [World.size_alloc] at h
  exact Rd.below h (Below.drew (Below.refl _ _)) (Nat.le_refl _) (by decide)
theorem made3s (w1 : World) (o : Obj) (a b c : Int) (t : TypeId) : Rd ((w1.alloc (.cells #[.int .i64 a, .int .i64 b, .int .i64 c] t)).alloc o).drew 0 (.slice (some ⟨w1.heap.size, 0, none⟩) 1 1) 3 1 [.int .i64 a, .int .i64 b, .int .i64 c] := by
  have h := Rd.made w1 [.int .i64 a, .int .i64 b, .int .i64 c] t 0 3 1 rfl (Nat.zero_le _) (by decide)
  exact Rd.below h (Below.drew ((Below.refl _ _).alloc (Nat.le_refl _) _)) (Nat.le_refl _) (by decide)
theorem step_append_fromS {P : Program} {w1 W : World} {b0 : Nat} {ops : Array Oper} {o : Oper} {a : Act} {K : Act → World → Prop} {Q : Exit → Act → World → Prop} {E : Prop} (hgd : o.guard = none) (s x : Operand) (t : TypeId)
    (ho : o.op = .call { callee := .builtin .append, args := #[s, x], argTypes := #[t, t] })
    (e : TypeId) (z : Value) (sz bytes : Nat) (ht : P.underlying t = some (.slice e)) (hi : (P.info? e).map (fun i => (i.zero, i.size, i.bytes)) = some (some z, sz, bytes))
    (hzs : z.cells.size = sz) (hsz : 0 < sz) (hs : a.eval s = .slice (some ⟨b0, 0, none⟩) 0 0)
    (xv : Value) (lo' m : Nat) (news : List Value) (hxe : a.eval x = xv) (hx : Rd w1 lo' xv sz m news) (h1 : ∀ u ∈ news, u.oneCell' = true)
    (h63 : m ≤ maxLen) (hbytes : m * bytes ≤ 140737488355328) (hb : Below w1.heap.size w1 W)
    (h : ∀ v' w', Own w' w1.heap.size e sz v' m news → W.grownBy w' none → Below w1.heap.size w1 w' → K (a.put o.dst v') w') :
    if Region.wanted o (yielded ops a.tmps) = true then Oper.wp P o a W K Q else E := by
  refine step_append_OwnS hgd s x t ho e z sz bytes ht hi hzs hsz w1.heap.size _ 0 [] hs (.inr ⟨rfl, rfl, _, rfl⟩) xv lo' m news hxe (Rd.below hx hb (Nat.le_refl _) hsz) h1 (by omega) (by simpa using hbytes) hb.size ?_
  intro v' w' hO hg _
  have hg' : W.grownBy w' none := by
    refine grownBy_trans (grownBy_refl _ _) hg (fun k hk => .inl ?_)
    simp [wblk] at hk
  refine h v' w' (by simpa using hO) hg' (hb.trans (below_of_grownBy hg' hb.size (fun k hk => by cases hk)))
theorem cls_one (cs : List Cl) : ∀ u ∈ cs.flatMap clCells, u.oneCell' = true := by
  intro u hu
  obtain ⟨c, _, hc⟩ := List.mem_flatMap.1 hu
  simp [clCells] at hc
  rcases hc with rfl | rfl | rfl <;> rfl

set_option maxRecDepth 100000 in
set_option maxHeartbeats 8000000 in
theorem desk_call (W : World) (B gs : Nat) (s : SesV) (h : Ses 57 B gs s W) (hB : B ≤ W.heap.size) (hl : s.cl.length ≤ 12) (f t m : Int) :
    Calls Tryz.prog 44 #[.pointer (some ⟨gs, 0, none⟩), .agg #[.int .i64 f, .int .i64 t, .int .i64 m]] W (SRet 57 B gs (callS s (f, t, m)) W) := by
  obtain ⟨vcl, vst, h⟩ := h
  obtain ⟨car, cl, st⟩ := s
  simp only at h hl
  have hbx : Below W.heap.size W (W.alloc (.cells #[.int .i64 f, .int .i64 t, .int .i64 m] 73)) := (Below.refl _ _).alloc (Nat.le_refl _) _
  have h1 := h.below hbx
  obtain ⟨b0, b1, b2⟩ : (W.alloc (.cells #[.int .i64 f, .int .i64 t, .int .i64 m] 73)).cell? ⟨W.heap.size, 0, none⟩ = some (.int .i64 f) ∧ (W.alloc (.cells #[.int .i64 f, .int .i64 t, .int .i64 m] 73)).cell? ⟨W.heap.size, 1, none⟩ = some (.int .i64 t) ∧ (W.alloc (.cells #[.int .i64 f, .int .i64 t, .int .i64 m] 73)).cell? ⟨W.heap.size, 2, none⟩ = some (.int .i64 m) := by
    refine ⟨?_, ?_, ?_⟩ <;> (rw [cell_of_row _ W.heap.size _ _ _ (0, 0) (heap_alloc_new W _)]; rfl)
  have hlt : W.heap.size < (W.alloc (.cells #[.int .i64 f, .int .i64 t, .int .i64 m] 73)).heap.size := by simp
  obtain ⟨gb, hgb⟩ : ∃ gb, gb = W.heap.size := ⟨_, rfl⟩
  go_enter Tryz.func44, Tryz.ntmps44
  go_wp2_with fail
  rw [← hgb] at b0 b1 b2 hlt ⊢
  generalize hw1 : W.alloc (.cells #[.int .i64 f, .int .i64 t, .int .i64 m] 73) = w1 at b0 b1 b2 hlt h1 hbx ⊢
  clear hw1 hgb
  obtain ⟨hg, hf, p0, p1, p2, p3, p4, p5⟩ := h1.at
  obtain ⟨ao, cap, rfl, hcap, hm⟩ := h1.cal.form
  have hBw : B ≤ w1.heap.size := Nat.le_trans hB hbx.size
  have hv1 : Rd w1 0 (.slice ao cl.length cap) 3 cl.length (cl.flatMap clCells) := h1.cal.rd.mono (Nat.zero_le _)
  have HBX := Lib.hid hbx
  have HS := Lib.hid h
  clear h h1 hbx p0 p1 p2 p3 p5 hf
  go_region_held3 (fun V => V.cell? ⟨gs, 4, none⟩ = some (.slice ao cl.length cap) ∧ V.cell? ⟨gb, 0, none⟩ = some (.int .i64 f) ∧ V.cell? ⟨gb, 1, none⟩ = some (.int .i64 t) ∧ V.cell? ⟨gb, 2, none⟩ = some (.int .i64 m))
    (first | go_keep | exact ⟨(hB5.cell (p := ⟨gs, 4, none⟩) hg).trans p4, (hB5.cell (p := ⟨gb, 0, none⟩) hlt).trans b0, (hB5.cell (p := ⟨gb, 1, none⟩) hlt).trans b1, (hB5.cell (p := ⟨gb, 2, none⟩) hlt).trans b2⟩ | exact ⟨(hB6.cell (p := ⟨gs, 4, none⟩) hg).trans p4, (hB6.cell (p := ⟨gb, 0, none⟩) hlt).trans b0, (hB6.cell (p := ⟨gb, 1, none⟩) hlt).trans b1, (hB6.cell (p := ⟨gb, 2, none⟩) hlt).trans b2⟩)
    ((first
      | (refine step_append_fromS (w1 := w1) (by rfl) _ _ _ (by rfl) 73 (.agg #[.int .i64 0, .int .i64 0, .int .i64 0]) 3 24 Tryz.underlying41 info_callS rfl (by omega) (by rfl) _ 0 cl.length (cl.flatMap clCells) (by rfl) hv1 (cls_one cl) (by unfold maxLen; omega) (by omega) (bAs w1 _) ?_
         intro v5 w5 hO5 hg5 hB5
         have hsz5 := hB5.size)
      | (refine step_append_fromS (w1 := w1) (by rfl) _ _ _ (by rfl) 73 (.agg #[.int .i64 0, .int .i64 0, .int .i64 0]) 3 24 Tryz.underlying41 info_callS rfl (by omega) (by rfl) _ 0 cl.length (cl.flatMap clCells) (by rfl) hv1 (cls_one cl) (by unfold maxLen; omega) (by omega) (bBs w1 _ _) ?_
         intro v5 w5 hO5 hg5 hB5
         have hsz5 := hB5.size)
      | (refine step_append_fromS (w1 := w1) (by rfl) _ _ _ (by rfl) 73 (.agg #[.int .i64 0, .int .i64 0, .int .i64 0]) 3 24 Tryz.underlying41 info_callS rfl (by omega) (by rfl) _ 0 cl.length (cl.flatMap clCells) (by rfl) hv1 (cls_one cl) (by unfold maxLen; omega) (by omega) (bCs w1 _ _) ?_
         intro v5 w5 hO5 hg5 hB5
         have hsz5 := hB5.size)
      | (refine step_append_OwnS (by rfl) _ _ _ (by rfl) 73 (.agg #[.int .i64 0, .int .i64 0, .int .i64 0]) 3 24 Tryz.underlying41 info_callS rfl (by omega) w1.heap.size v5 cl.length _ (by rfl) (hO5.alloc _) _ 0 1 [.int .i64 f, .int .i64 t, .int .i64 m] (by rfl) (Rd.made w5 [.int .i64 f, .int .i64 t, .int .i64 m] _ 0 3 1 rfl (Nat.zero_le _) (by decide)) (by intro u hu; simp at hu; rcases hu with rfl | rfl | rfl <;> rfl) (by unfold maxLen; omega) (by omega) (by simp; omega) ?_
         intro v6 w6 hO6 hg6 hk6
         have hB6 : Below w1.heap.size w1 w6 := hB5.trans (Below.trans ((Below.refl _ _).alloc hsz5 _) (below_of_grownBy hg6 (by simp; omega) (fun k hk => (hO5.wblk hk).1))))
      | (refine step_append_OwnS (by rfl) _ _ _ (by rfl) 73 (.agg #[.int .i64 0, .int .i64 0, .int .i64 0]) 3 24 Tryz.underlying41 info_callS rfl (by omega) w1.heap.size v5 cl.length _ (by rfl) (hO5.alloc _) _ 0 1 [.int .i64 f, .int .i64 t, .int .i64 m] (by rfl) (Rd.made w5 [.int .i64 f, .int .i64 t, .int .i64 m] _ 0 3 1 rfl (Nat.zero_le _) (by decide)) (by intro u hu; simp at hu; rcases hu with rfl | rfl | rfl <;> rfl) (by unfold maxLen; omega) (by omega) (by show _ ≤ (w5.alloc _).heap.size; simp; omega) ?_
         intro v6 w6 hO6 hg6 hk6
         have hB6 : Below w1.heap.size w1 w6 := hB5.trans (Below.trans (((Below.refl _ _).alloc hsz5 _).drew) (below_of_grownBy hg6 (by show _ ≤ (w5.alloc _).heap.size; simp; omega) (fun k hk => (hO5.wblk hk).1))))
      | (refine step_append_OwnS (by rfl) _ _ _ (by rfl) 73 (.agg #[.int .i64 0, .int .i64 0, .int .i64 0]) 3 24 Tryz.underlying41 info_callS rfl (by omega) w1.heap.size v5 cl.length _ (by rfl) hO5 _ 0 1 [.int .i64 f, .int .i64 t, .int .i64 m] (by rfl) ((Rd.grown (made2s w1 _ f t m _) hg5 (fun k hk => by cases hk) (by decide)).mono (Nat.zero_le _)) (by intro u hu; simp at hu; rcases hu with rfl | rfl | rfl <;> rfl) (by unfold maxLen; omega) (by omega) (by omega) ?_
         intro v6 w6 hO6 hg6 hk6
         have hB6 : Below w1.heap.size w1 w6 := hB5.trans (below_of_grownBy hg6 (by omega) (fun k hk => (hO5.wblk hk).1)))
      | (refine step_append_OwnS (by rfl) _ _ _ (by rfl) 73 (.agg #[.int .i64 0, .int .i64 0, .int .i64 0]) 3 24 Tryz.underlying41 info_callS rfl (by omega) w1.heap.size v5 cl.length _ (by rfl) hO5 _ 0 1 [.int .i64 f, .int .i64 t, .int .i64 m] (by rfl) (Rd.grown (made3s w1 _ f t m _) hg5 (fun k hk => by cases hk) (by decide)) (by intro u hu; simp at hu; rcases hu with rfl | rfl | rfl <;> rfl) (by unfold maxLen; omega) (by omega) (by omega) ?_
         intro v6 w6 hO6 hg6 hk6
         have hB6 : Below w1.heap.size w1 w6 := hB5.trans (below_of_grownBy hg6 (by omega) (fun k hk => (hO5.wblk hk).1)))))
  all_goals
    have hcs : cl.flatMap clCells ++ [.int .i64 f, .int .i64 t, .int .i64 m] = (cl ++ [(f, t, m)]).flatMap clCells := by simp [clCells]
    rw [hcs] at hO6
    have hO7 : Own w6 B 73 3 v6 (cl ++ [(f, t, m)]).length ((cl ++ [(f, t, m)]).flatMap clCells) := by rw [List.length_append]; exact hO6.mono hBw
    have hCv := cls_of_ownS hO7
    obtain ⟨n6, hn6⟩ : ∃ n6, n6 = (cl ++ [(f, t, m)]).length := ⟨_, rfl⟩
    have HN6 := Lib.hid hn6
    rw [← hn6] at hO7
    obtain ⟨a6, c6, rfl, hc6, hm6⟩ := hO7.form
    have hB7 : Below W.heap.size W w6 := HBX.out.trans (hB6.mono HBX.out.size)
    obtain ⟨r, hr⟩ : ∃ r, r = decide (clsOk (cl ++ [(f, t, m)])) := ⟨_, rfl⟩
    have HV := Lib.hid (spec_validCalls w6 B _ (cl ++ [(f, t, m)]) r hr hCv)
    have HR := Lib.hid hr
    have HO7 := Lib.hid hO7
    have HB7 := Lib.hid hB7
    clear hO5 hg5 hB5 hsz5 hB6 hcs hO6 hO7 hCv hn6 hB7 hr hg6 hk6
    cases r
    · have HE : Hid (callS ⟨car, cl, st⟩ (f, t, m) = (⟨car, cl, st⟩, bNo)) := by unfold Hid callS; simp only; rw [if_neg (of_decide_eq_false HR.out.symm)]
      go_wp2_with (go_at_call 63; refine HV.out.mono ?_; rintro e' w8 ⟨rfl, hB8⟩; have HB8 := Lib.hid hB8; clear hB8)
      go_ret
      rw [HE.out]
      exact ⟨sV bNo, rfl, rfl, SesP.still ⟨_, vst, HS.out⟩ (HB7.out.trans (HB8.out.mono HB7.out.size)) hB⟩
    · have HE : Hid (callS ⟨car, cl, st⟩ (f, t, m) = (⟨car, cl ++ [(f, t, m)], st⟩, bOk)) := by unfold Hid callS; simp only; rw [if_pos (of_decide_eq_true HR.out.symm)]
      go_wp2_with (go_at_call 63; refine HV.out.mono ?_; rintro e' w8 ⟨rfl, hB8⟩; have HB8 := Lib.hid (HB7.out.trans (hB8.mono HB7.out.size)); have HS8 := Lib.hid (HS.out.below HB8.out); obtain ⟨hg8, hf8, _, _, _, _, q4, _⟩ := HS8.out.at; have f4 := hf8 4; have HO8 := Lib.hid (HO7.out.below hB8 (Nat.le_refl _)); clear hB8 hf8)
      go_ret
      rw [HE.out]
      exact ⟨sV bOk, rfl, rfl, ⟨_, vst, HS8.out.setCl ty_desk (by rw [← HN6.out]; exact HO8.out)⟩, (HB8.out.mono hB).setCell (p := ⟨gs, 4, none⟩) HS8.out.ge _, setCell_kept (kept_below HB8.out)⟩
end
end Go.Proofs.YtpaioaknppgggaaGreatDoor
