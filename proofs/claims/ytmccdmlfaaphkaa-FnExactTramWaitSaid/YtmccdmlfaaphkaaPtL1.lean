/- FnExactSwitchTime, FnExactTramWait: the walks. -/
import Derived.Test.YtmccdmlfaaphkaaPlU
import Derived.Test.YtmccdmlfaaphkaaCp2
namespace Go.Proofs.Ytmccdmlfaaphkaa
open Go.RowKit
set_option linter.unusedVariables false
set_option linter.unusedSimpArgs false

set_option maxHeartbeats 4000000 in
theorem fnExactSwitchTime_walk (w : World) (v : Value) (p : Pln) (f : Int) (hv : PlanR w 0 v p) (_ : in64 f) :
    Calls Try.prog 4 #[v, .int .i64 f] w fun e w' => e = .returned (.bool true) ∧ Below w.heap.size w w' := by
  have hv0 := hv
  obtain ⟨vc, vs, rfl, hc, hs⟩ := hv
  obtain ⟨ao, cap, rfl, hcap, hm⟩ := hs.form
  obtain ⟨aoc, capc, rfl, hcapc, hmc⟩ := hc.form
  have hX := Own.made w [.slice aoc p.cl.length capc, .slice ao p.st.length cap] 34 w.heap.size 2 1 rfl (Nat.le_refl _) (by decide)
  obtain ⟨w0, hw0⟩ : ∃ x, x = w.alloc (.cells #[.slice aoc p.cl.length capc, .slice ao p.st.length cap] 34) := ⟨_, rfl⟩
  rw [show (w.alloc (Obj.cells [Value.slice aoc p.cl.length capc, Value.slice ao p.st.length cap].toArray 34)) = w0 from hw0.symm] at hX
  have hB0 : Below w.heap.size w w0 := by rw [hw0]; exact (Below.refl _ _).alloc (Nat.le_refl _) _
  obtain ⟨_, e1, _, hz0, p1, _, _⟩ := hX.parts (by omega)
  cases e1
  have x0 := p1 0 (by simp)
  have x1 := p1 1 (by simp)
  simp only [List.getElem_cons_zero, List.getElem_cons_succ] at x0 x1
  have KA : Hid (∀ W, Below w0.heap.size w0 W → W.cell? ⟨w.heap.size, 0, none⟩ = some (.slice aoc p.cl.length capc) ∧ W.cell? ⟨w.heap.size, 1, none⟩ = some (.slice ao p.st.length cap)) := fun W h => ⟨(h.cell (p := ⟨w.heap.size, 0, none⟩) hz0).trans x0, (h.cell (p := ⟨w.heap.size, 1, none⟩) hz0).trans x1⟩
  have KP : Hid (∀ W, Below w0.heap.size w0 W → PlanR W 0 (.agg #[.slice aoc p.cl.length capc, .slice ao p.st.length cap]) p) := fun W h => (hv0.below hB0 (Nat.le_refl _)).below h (Nat.le_refl _)
  have HB0 := Lib.hid hB0
  have HW0 := Lib.hid hw0
  have hne : (swT p f != swT p f) = false := by simp
  obtain ⟨rr, hrr⟩ : ∃ rr, rr = swT p f := ⟨_, rfl⟩
  rw [← hrr] at hne
  have HRR := Lib.hid hrr
  clear hv0 hc hs hX p1 hB0 hw0 hrr
  go_enter Try.func4, Try.ntmps4
  go_wp2_with fail
  rw [← HW0.out]
  clear HW0
  refine (szPlan_any _ 0 _ p 1048576 (KP.out _ (Below.refl _ _)) (by omega)).mono ?_; rintro e w1 ⟨r, rfl, ⟨hq1, hq2, hq3⟩, hB1⟩
  by_cases hr : r < 0
  · have d1 : decide (r < 0) = true := decide_eq_true hr
    clear hq2 hq3
    go_wp2_with fail
    go_ret
    exact ⟨rfl, HB0.out.trans (hB1.mono HB0.out.size)⟩
  · have d1 : decide (r < 0) = false := decide_eq_false hr
    have HSM := Lib.hid (hq3 (by omega))
    clear hq2 hq3
    obtain ⟨u0, u1⟩ := KA.out _ hB1
    clear x0 x1
    go_wp2_with fail
    refine (toPlan_any _ _ p (KP.out _ hB1) HSM.out).mono ?_; rintro e w2 ⟨v2, rfl, hP2, hB2'⟩
    have hB2 := hB1.trans (hB2'.mono hB1.size)
    clear u0 u1
    go_wp2_with fail
    refine (spec_switchTime _ _ _ p f hP2.planR).mono ?_; rintro e w3 ⟨rfl, hB3'⟩
    rw [← HRR.out]
    have hB3 := hB2.trans (hB3'.mono hB2.size)
    obtain ⟨u0, u1⟩ := KA.out _ hB3
    clear hP2 hB2' hB3'
    go_wp2_with fail
    refine (toPlan_any _ _ p (KP.out _ hB3) HSM.out).mono ?_; rintro e w4 ⟨v4, rfl, hP4, hB4'⟩
    have hB4 := hB3.trans (hB4'.mono hB3.size)
    have hP4r := hP4.planR
    obtain ⟨c4, s4, rfl, hc4, hs4⟩ := hP4r
    obtain ⟨w5, hw5, hB5', y0, y1, hz5⟩ := plan_box w4 c4 s4
    have hB5 := hB4.trans (hB5'.mono hB4.size)
    have HP5 := Lib.hid (hP4.planR.below hB5' (Nat.le_refl _))
    have HW5 := Lib.hid hw5
    obtain ⟨b4, d4, rfl, _, _⟩ := hc4.form
    obtain ⟨b5, d5, rfl, _, _⟩ := hs4.form
    clear u0 u1 hP4 hB4' hw5 hc4 hs4
    go_wp2_with fail
    rw [← HW5.out]
    clear HW5
    refine (impl_switchTime _ _ _ p f HP5.out).mono ?_; rintro e w6 ⟨rfl, hB6'⟩
    rw [← HRR.out]
    have hB6 := hB5.trans (hB6'.mono hB5.size)
    have KB : Hid (∀ W, Below w5.heap.size w5 W → W.cell? ⟨w4.heap.size, 0, none⟩ = some (.slice b4 p.cl.length d4) ∧ W.cell? ⟨w4.heap.size, 1, none⟩ = some (.slice b5 p.st.length d5)) := fun W h => ⟨(h.cell (p := ⟨w4.heap.size, 0, none⟩) hz5).trans y0, (h.cell (p := ⟨w4.heap.size, 1, none⟩) hz5).trans y1⟩
    have KC : Hid (∀ W, Below w6.heap.size w6 W → W.cell? ⟨w.heap.size, 0, none⟩ = some (.slice aoc p.cl.length capc) ∧ W.cell? ⟨w.heap.size, 1, none⟩ = some (.slice ao p.st.length cap) ∧ W.cell? ⟨w4.heap.size, 0, none⟩ = some (.slice b4 p.cl.length d4) ∧ W.cell? ⟨w4.heap.size, 1, none⟩ = some (.slice b5 p.st.length d5)) := fun W h =>
      ⟨(KA.out _ (hB6.trans (h.mono hB6.size))).1, (KA.out _ (hB6.trans (h.mono hB6.size))).2, (KB.out _ (hB6'.trans (h.mono hB6'.size))).1, (KB.out _ (hB6'.trans (h.mono hB6'.size))).2⟩
    have HP6 := Lib.hid (HP5.out.below hB6' (Nat.le_refl _))
    obtain ⟨u0, u1, u2, u3⟩ := KC.out _ (Below.refl _ _)
    clear y0 y1 hB5' hB6'
    go_wp2_with fail
    go_region_held3 (fun w' => w'.cell? ⟨w.heap.size, 0, none⟩ = some (.slice aoc p.cl.length capc) ∧ w'.cell? ⟨w.heap.size, 1, none⟩ = some (.slice ao p.st.length cap) ∧ w'.cell? ⟨w4.heap.size, 0, none⟩ = some (.slice b4 p.cl.length d4) ∧ w'.cell? ⟨w4.heap.size, 1, none⟩ = some (.slice b5 p.st.length d5))
      (first | exact KC.out _ hB8 | exact KC.out _ hB7 | exact KC.out _ (Below.refl _ _) | go_keep | assumption)
      ((first
        | (go_at_call 13; refine (toPlan_any _ _ p (KP.out _ (hB6.trans ((Below.drew (Below.refl w6.heap.size w6)).mono hB6.size))) HSM.out).mono ?_; rintro e w7 ⟨v7, rfl, hP7, hB7'⟩; have hB7 : Below w6.heap.size w6 w7 := (Below.drew (Below.refl w6.heap.size w6)).trans hB7')
        | (go_at_call 14; refine (eqPlan_same _ _ _ p ((HP6.out.below hB7 (Nat.le_refl _)).mono (Nat.zero_le _)) (hP7.planR.mono (Nat.zero_le _))).mono ?_; rintro e w8 ⟨rfl, hB8'⟩; have hB8 : Below w6.heap.size w6 w8 := hB7.trans (hB8'.mono hB7.size))))
    go_wp2
    go_ret
    exact ⟨rfl, HB0.out.trans ((hB6.trans (hB8.mono hB6.size)).mono HB0.out.size)⟩

set_option maxHeartbeats 4000000 in
theorem fnExactTramWait_walk (w : World) (v : Value) (p : Pln) (st : Int) (s : Int) (hv : PlanR w 0 v p) (_ : in64 st) (_ : in64 s) :
    Calls Try.prog 6 #[v, .int .i64 st, .int .i64 s] w fun e w' => e = .returned (.bool true) ∧ Below w.heap.size w w' := by
  have hv0 := hv
  obtain ⟨vc, vs, rfl, hc, hs⟩ := hv
  obtain ⟨ao, cap, rfl, hcap, hm⟩ := hs.form
  obtain ⟨aoc, capc, rfl, hcapc, hmc⟩ := hc.form
  have hX := Own.made w [.slice aoc p.cl.length capc, .slice ao p.st.length cap] 34 w.heap.size 2 1 rfl (Nat.le_refl _) (by decide)
  obtain ⟨w0, hw0⟩ : ∃ x, x = w.alloc (.cells #[.slice aoc p.cl.length capc, .slice ao p.st.length cap] 34) := ⟨_, rfl⟩
  rw [show (w.alloc (Obj.cells [Value.slice aoc p.cl.length capc, Value.slice ao p.st.length cap].toArray 34)) = w0 from hw0.symm] at hX
  have hB0 : Below w.heap.size w w0 := by rw [hw0]; exact (Below.refl _ _).alloc (Nat.le_refl _) _
  obtain ⟨_, e1, _, hz0, p1, _, _⟩ := hX.parts (by omega)
  cases e1
  have x0 := p1 0 (by simp)
  have x1 := p1 1 (by simp)
  simp only [List.getElem_cons_zero, List.getElem_cons_succ] at x0 x1
  have KA : Hid (∀ W, Below w0.heap.size w0 W → W.cell? ⟨w.heap.size, 0, none⟩ = some (.slice aoc p.cl.length capc) ∧ W.cell? ⟨w.heap.size, 1, none⟩ = some (.slice ao p.st.length cap)) := fun W h => ⟨(h.cell (p := ⟨w.heap.size, 0, none⟩) hz0).trans x0, (h.cell (p := ⟨w.heap.size, 1, none⟩) hz0).trans x1⟩
  have KP : Hid (∀ W, Below w0.heap.size w0 W → PlanR W 0 (.agg #[.slice aoc p.cl.length capc, .slice ao p.st.length cap]) p) := fun W h => (hv0.below hB0 (Nat.le_refl _)).below h (Nat.le_refl _)
  have HB0 := Lib.hid hB0
  have HW0 := Lib.hid hw0
  have hne : (twO p st s != twO p st s) = false := by simp
  obtain ⟨rr, hrr⟩ : ∃ rr, rr = twO p st s := ⟨_, rfl⟩
  rw [← hrr] at hne
  have HRR := Lib.hid hrr
  clear hv0 hc hs hX p1 hB0 hw0 hrr
  go_enter Try.func6, Try.ntmps6
  go_wp2_with fail
  rw [← HW0.out]
  clear HW0
  refine (szPlan_any _ 0 _ p 1048576 (KP.out _ (Below.refl _ _)) (by omega)).mono ?_; rintro e w1 ⟨r, rfl, ⟨hq1, hq2, hq3⟩, hB1⟩
  by_cases hr : r < 0
  · have d1 : decide (r < 0) = true := decide_eq_true hr
    clear hq2 hq3
    go_wp2_with fail
    go_ret
    exact ⟨rfl, HB0.out.trans (hB1.mono HB0.out.size)⟩
  · have d1 : decide (r < 0) = false := decide_eq_false hr
    have HSM := Lib.hid (hq3 (by omega))
    clear hq2 hq3
    obtain ⟨u0, u1⟩ := KA.out _ hB1
    clear x0 x1
    go_wp2_with fail
    refine (toPlan_any _ _ p (KP.out _ hB1) HSM.out).mono ?_; rintro e w2 ⟨v2, rfl, hP2, hB2'⟩
    have hB2 := hB1.trans (hB2'.mono hB1.size)
    clear u0 u1
    go_wp2_with fail
    refine (spec_tramWait _ _ _ p st s hP2.planR).mono ?_; rintro e w3 ⟨rfl, hB3'⟩
    rw [← HRR.out]
    have hB3 := hB2.trans (hB3'.mono hB2.size)
    obtain ⟨u0, u1⟩ := KA.out _ hB3
    clear hP2 hB2' hB3'
    go_wp2_with fail
    refine (toPlan_any _ _ p (KP.out _ hB3) HSM.out).mono ?_; rintro e w4 ⟨v4, rfl, hP4, hB4'⟩
    have hB4 := hB3.trans (hB4'.mono hB3.size)
    have hP4r := hP4.planR
    obtain ⟨c4, s4, rfl, hc4, hs4⟩ := hP4r
    obtain ⟨w5, hw5, hB5', y0, y1, hz5⟩ := plan_box w4 c4 s4
    have hB5 := hB4.trans (hB5'.mono hB4.size)
    have HP5 := Lib.hid (hP4.planR.below hB5' (Nat.le_refl _))
    have HW5 := Lib.hid hw5
    obtain ⟨b4, d4, rfl, _, _⟩ := hc4.form
    obtain ⟨b5, d5, rfl, _, _⟩ := hs4.form
    clear u0 u1 hP4 hB4' hw5 hc4 hs4
    go_wp2_with fail
    rw [← HW5.out]
    clear HW5
    refine (impl_tramWait _ _ _ p st s HP5.out).mono ?_; rintro e w6 ⟨rfl, hB6'⟩
    rw [← HRR.out]
    have hB6 := hB5.trans (hB6'.mono hB5.size)
    have KB : Hid (∀ W, Below w5.heap.size w5 W → W.cell? ⟨w4.heap.size, 0, none⟩ = some (.slice b4 p.cl.length d4) ∧ W.cell? ⟨w4.heap.size, 1, none⟩ = some (.slice b5 p.st.length d5)) := fun W h => ⟨(h.cell (p := ⟨w4.heap.size, 0, none⟩) hz5).trans y0, (h.cell (p := ⟨w4.heap.size, 1, none⟩) hz5).trans y1⟩
    have KC : Hid (∀ W, Below w6.heap.size w6 W → W.cell? ⟨w.heap.size, 0, none⟩ = some (.slice aoc p.cl.length capc) ∧ W.cell? ⟨w.heap.size, 1, none⟩ = some (.slice ao p.st.length cap) ∧ W.cell? ⟨w4.heap.size, 0, none⟩ = some (.slice b4 p.cl.length d4) ∧ W.cell? ⟨w4.heap.size, 1, none⟩ = some (.slice b5 p.st.length d5)) := fun W h =>
      ⟨(KA.out _ (hB6.trans (h.mono hB6.size))).1, (KA.out _ (hB6.trans (h.mono hB6.size))).2, (KB.out _ (hB6'.trans (h.mono hB6'.size))).1, (KB.out _ (hB6'.trans (h.mono hB6'.size))).2⟩
    have HP6 := Lib.hid (HP5.out.below hB6' (Nat.le_refl _))
    obtain ⟨u0, u1, u2, u3⟩ := KC.out _ (Below.refl _ _)
    clear y0 y1 hB5' hB6'
    go_wp2_with fail
    go_region_held3 (fun w' => w'.cell? ⟨w.heap.size, 0, none⟩ = some (.slice aoc p.cl.length capc) ∧ w'.cell? ⟨w.heap.size, 1, none⟩ = some (.slice ao p.st.length cap) ∧ w'.cell? ⟨w4.heap.size, 0, none⟩ = some (.slice b4 p.cl.length d4) ∧ w'.cell? ⟨w4.heap.size, 1, none⟩ = some (.slice b5 p.st.length d5))
      (first | exact KC.out _ hB8 | exact KC.out _ hB7 | exact KC.out _ (Below.refl _ _) | go_keep | assumption)
      ((first
        | (go_at_call 13; refine (toPlan_any _ _ p (KP.out _ (hB6.trans ((Below.drew (Below.refl w6.heap.size w6)).mono hB6.size))) HSM.out).mono ?_; rintro e w7 ⟨v7, rfl, hP7, hB7'⟩; have hB7 : Below w6.heap.size w6 w7 := (Below.drew (Below.refl w6.heap.size w6)).trans hB7')
        | (go_at_call 14; refine (eqPlan_same _ _ _ p ((HP6.out.below hB7 (Nat.le_refl _)).mono (Nat.zero_le _)) (hP7.planR.mono (Nat.zero_le _))).mono ?_; rintro e w8 ⟨rfl, hB8'⟩; have hB8 : Below w6.heap.size w6 w8 := hB7.trans (hB8'.mono hB7.size))))
    go_wp2
    go_ret
    exact ⟨rfl, HB0.out.trans ((hB6.trans (hB8.mono hB6.size)).mono HB0.out.size)⟩
end Go.Proofs.Ytmccdmlfaaphkaa
