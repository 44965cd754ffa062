/- SetGreens: the program's. -/
import Derived.Test.YtokpgipbgkiepaaGr3
namespace Go.Proofs.Ytokpgipbgkiepaa
open Go.RowKit
set_option linter.unusedVariables false
set_option linter.unusedSimpArgs false

def sgB (p : Pln) (gs : List Int) : Bool := validP p && okG p gs
def p00 : Pln := ⟨[], []⟩
def sgP (p : Pln) (gs : List Int) : Pln := if sgB p gs = true then wgs p gs else p00
theorem planO_zero (w : World) (lo : Nat) : PlanO w lo (.agg #[.slice none 0 0, .slice none 0 0]) p00 :=
  ⟨_, _, lo, rfl, Nat.le_refl _, ⟨[], Own.nil _ _ _ _, RowsO.nil _ _ _, fun j hj => absurd hj (Nat.not_lt_zero _), fun q hq => by simp [wblk] at hq, fun j hj => absurd hj (Nat.not_lt_zero _)⟩,
    ⟨[], Own.nil _ _ _ _, RowsO.nil _ _ _, fun j hj => absurd hj (Nat.not_lt_zero _)⟩⟩
def SetRet (w : World) (p : Pln) (gs : List Int) (e : Ending) (w' : World) : Prop := ∃ v', e = .returned (.tuple #[v', .bool (sgB p gs)]) ∧ PlanO w' w.heap.size v' (sgP p gs) ∧ Below w.heap.size w w'
theorem set_no {w w' : World} {p : Pln} {gs : List Int} (h : sgB p gs = false) (hb : Below w.heap.size w w') : SetRet w p gs (.returned (.tuple #[.agg #[.slice none 0 0, .slice none 0 0], .bool false])) w' :=
  ⟨_, by rw [h], by unfold sgP; rw [h, if_neg (by decide)]; exact planO_zero _ _, hb⟩

set_option maxHeartbeats 8000000 in
set_option maxRecDepth 100000 in
theorem impl_setGreens (w : World) (lo lo' : Nat) (vp vg : Value) (p : Pln) (gs : List Int) (hp : PlanR w lo vp p) (hg : Ints w lo' vg gs) :
    Calls Try.prog 15 #[vp, vg] w (SetRet w p gs) := by
  have hp0 := hp
  obtain ⟨vc, vs, rfl, hc, hs⟩ := hp
  obtain ⟨ao, cap, rfl, hcap, hm⟩ := hs.form
  obtain ⟨aoc, capc, rfl, hcapc, hmc⟩ := hc.form
  obtain ⟨ag, capg, rfl, hcapg, hmg⟩ := hg.form
  obtain ⟨w1, hw1, hB1, x0, x1, hz1⟩ := plan_box w (.slice aoc p.cl.length capc) (.slice ao p.st.length cap)
  have hs1 : w1.heap.size = w.heap.size + 1 := by rw [hw1]; simp
  have hX2 := Own.made w1 [.slice none 0 0, .slice none 0 0] 26 w.heap.size 2 1 rfl (by omega) (by decide)
  obtain ⟨w2, hw2⟩ : ∃ x, x = w1.alloc (.cells #[.slice none 0 0, .slice none 0 0] 26) := ⟨_, rfl⟩
  have hB2 : Below w1.heap.size w1 w2 := by rw [hw2]; exact (Below.refl _ _).alloc (Nat.le_refl _) _
  have hs2 : w2.heap.size = w.heap.size + 2 := by rw [hw2]; simp [hs1]
  rw [show (w1.alloc (Obj.cells [Value.slice none 0 0, Value.slice none 0 0].toArray 26)) = w2 from hw2.symm, hs1] at hX2
  have y0 := (hB2.cell (p := ⟨w.heap.size, 0, none⟩) hz1).trans x0
  have y1 := (hB2.cell (p := ⟨w.heap.size, 1, none⟩) hz1).trans x1
  have HK : Hid (∀ W, Below w2.heap.size w2 W → W.cell? ⟨w.heap.size, 0, none⟩ = some (.slice aoc p.cl.length capc) ∧ W.cell? ⟨w.heap.size, 1, none⟩ = some (.slice ao p.st.length cap)) := fun W h => ⟨(h.cell (p := ⟨w.heap.size, 0, none⟩) (by show w.heap.size < w2.heap.size; omega)).trans y0, (h.cell (p := ⟨w.heap.size, 1, none⟩) (by show w.heap.size < w2.heap.size; omega)).trans y1⟩
  have HT2 := Lib.hid (hB1.trans (hB2.mono hB1.size))
  have HP0 := Lib.hid hp0
  have HG0 := Lib.hid hg
  have HX2 := Lib.hid hX2
  have HW1 := Lib.hid hw1
  have HW2 := Lib.hid hw2
  have HS2 := Lib.hid hs2
  have HRC : Hid (∀ W, Below w2.heap.size w2 W → W.cell? ⟨w.heap.size + 1, 0, none⟩ = some (.slice none 0 0) ∧ W.cell? ⟨w.heap.size + 1, 1, none⟩ = some (.slice none 0 0) ∧ W.frozen? ⟨w.heap.size + 1, 0, none⟩ = false ∧ W.frozen? ⟨w.heap.size + 1, 1, none⟩ = false) := fun W h => by
    obtain ⟨_, e1, _, _, p9, f9, _⟩ := (HX2.out.below h (Nat.le_refl _)).parts (by omega)
    cases e1
    have r0 := p9 0 (by simp)
    have r1 := p9 1 (by simp)
    simp only [List.getElem_cons_zero, List.getElem_cons_succ] at r0 r1
    exact ⟨r0, r1, f9 0, f9 1⟩
  have hdef : sgB p gs = (validP p && (decide (gs.length = p.st.length) && allB gs 5 40)) := rfl
  have HDEF := Lib.hid hdef
  -- what the stores into the result's cell leave
  have HNO : Hid (∀ W, Below w2.heap.size w2 W → sgB p gs = false → ∀ u1 u2 : Value, SetRet w p gs (.returned (.tuple #[.agg #[.slice none 0 0, .slice none 0 0], .bool false])) ((W.setCell ⟨w.heap.size + 1, 0, none⟩ u1).setCell ⟨w.heap.size + 1, 1, none⟩ u2)) := fun W h hf u1 u2 =>
    set_no hf (((HT2.out.trans (h.mono HT2.out.size)).setCell (p := ⟨w.heap.size + 1, 0, none⟩) (by show w.heap.size ≤ w.heap.size + 1; omega) u1).setCell (p := ⟨w.heap.size + 1, 1, none⟩) (by show w.heap.size ≤ w.heap.size + 1; omega) u2)
  clear hp0 hc hs hg hB1 hB2 hs1 hs2 hX2 hw1 hw2 x0 x1 y0 y1 hdef HX2
  cases hval : validP p
  · have HN : Hid (sgB p gs = false) := by unfold Hid; rw [HDEF.out, hval]; rfl
    go_enter Try.func15, Try.ntmps15
    go_wp2_with fail
    rw [← HW1.out, ← HW2.out]
    clear HW1 HW2
    refine (impl_validPlan _ lo _ p (HP0.out.below HT2.out (Nat.le_refl _))).mono ?_; rintro e w3 ⟨rfl, hB3⟩
    rw [hval]
    clear hval
    obtain ⟨u0, u1⟩ := HK.out _ hB3
    obtain ⟨r0, r1, fr0, fr1⟩ := HRC.out _ hB3
    have HEND := Lib.hid (HNO.out _ hB3)
    go_wp2_with fail
    exact bodyPost_ret (v := .tuple #[.agg #[.slice none 0 0, .slice none 0 0], .bool false]) (by simp [results, Try.results15, go_sem, r0, r1, fr0, fr1]) rfl (HEND.out HN.out _ _)
  · have HV := Lib.hid hval
    by_cases hlen : gs.length = p.st.length
    · have l1 : ((gs.length : Int) != (p.st.length : Int)) = false := by simp [hlen]
      have l2 : (gs.length != p.st.length) = false := by simp [hlen]
      have HLEN := Lib.hid hlen
      clear hlen
      cases hal : allB gs 5 40
      · have HAL := Lib.hid hal
        have HN : Hid (sgB p gs = false) := by unfold Hid; rw [HDEF.out, hal]; simp
        clear hal
        go_enter Try.func15, Try.ntmps15
        go_wp2_with fail
        rw [← HW1.out, ← HW2.out]
        clear HW1 HW2
        refine (impl_validPlan _ lo _ p (HP0.out.below HT2.out (Nat.le_refl _))).mono ?_; rintro e w3 ⟨rfl, hB3⟩
        rw [hval]
        clear hval
        obtain ⟨u0, u1⟩ := HK.out _ hB3
        obtain ⟨r0, r1, fr0, fr1⟩ := HRC.out _ hB3
        have HEND := Lib.hid (HNO.out _ hB3)
        have hI3 : Ints w3 lo' _ gs := Rd.below HG0.out (HT2.out.trans (hB3.mono HT2.out.size)) (Nat.le_refl _) (by decide)
        go_wp2_with (go_at_call 55; with_reducible refine (allWithin_dec _ lo' _ gs 5 40 false hI3 HAL.out).mono ?_; rintro e' w9 ⟨rfl, rfl⟩)
        exact bodyPost_ret (v := .tuple #[.agg #[.slice none 0 0, .slice none 0 0], .bool false]) (by simp [results, Try.results15, go_sem, r0, r1, fr0, fr1]) rfl (HEND.out HN.out _ _)
      · have HAL := Lib.hid hal
        have HY : Hid (sgB p gs = true) := by unfold Hid; rw [HDEF.out, hal, hval, HLEN.out]; simp
        clear hal
        go_enter Try.func15, Try.ntmps15
        go_wp2_with fail
        rw [← HW1.out, ← HW2.out]
        clear HW1 HW2
        refine (impl_validPlan _ lo _ p (HP0.out.below HT2.out (Nat.le_refl _))).mono ?_; rintro e w3 ⟨rfl, hB3⟩
        rw [hval]
        clear hval
        obtain ⟨u0, u1⟩ := HK.out _ hB3
        obtain ⟨r0, r1, fr0, fr1⟩ := HRC.out _ hB3
        have HEND := Lib.hid (HNO.out _ hB3)
        have hI3 : Ints w3 lo' _ gs := Rd.below HG0.out (HT2.out.trans (hB3.mono HT2.out.size)) (Nat.le_refl _) (by decide)
        have hT3 := HT2.out.trans (hB3.mono HT2.out.size)
        go_wp2_with (go_at_call 55; with_reducible refine (allWithin_dec _ lo' _ gs 5 40 true hI3 HAL.out).mono ?_; rintro e' w9 ⟨rfl, rfl⟩)
        refine (plan_withGreens _ lo lo' _ _ p gs (HP0.out.below hT3 (Nat.le_refl _)) hI3 HV.out HLEN.out).mono ?_; rintro e w4 ⟨v4, rfl, hP4, hB4⟩
        have hP4r := hP4
        obtain ⟨c4, s4, mid, rfl, _⟩ := hP4r
        have hB34 := hB3.trans (hB4.mono hB3.size)
        obtain ⟨q0, q1, fq0, fq1⟩ := HRC.out _ hB34
        have HF : Hid (∀ u1 u2 : Value, SetRet w p gs (.returned (.tuple #[.agg #[c4, s4], .bool true])) ((w4.setCell ⟨w.heap.size + 1, 0, none⟩ u1).setCell ⟨w.heap.size + 1, 1, none⟩ u2)) := by
          intro u1 u2
          have hz3 : w.heap.size + 2 ≤ w3.heap.size := by have := hB3.size; rw [HS2.out] at this; exact this
          have one : ∀ (W : World) (o : Nat) (u : Value), (PlanO W (w.heap.size + 2) (.agg #[c4, s4]) (wgs p gs) ∧ Below w.heap.size w W) → (PlanO (W.setCell ⟨w.heap.size + 1, o, none⟩ u) (w.heap.size + 2) (.agg #[c4, s4]) (wgs p gs) ∧ Below w.heap.size w (W.setCell ⟨w.heap.size + 1, o, none⟩ u)) := by
            intro W o u ⟨a, c⟩
            have hg : W.grownBy (W.setCell ⟨w.heap.size + 1, o, none⟩ u) (some (w.heap.size + 1)) := cell_grown (b' := w.heap.size + 1) u o
            exact ⟨a.grown hg (fun q hq => by cases hq; omega), c.setCell (by show w.heap.size ≤ w.heap.size + 1; omega) u⟩
          have := one _ 1 u2 (one _ 0 u1 ⟨hP4.mono hz3, hT3.trans (hB4.mono hT3.size)⟩)
          exact ⟨_, by rw [HY.out], by unfold sgP; rw [HY.out, if_pos rfl]; exact this.1.mono (by omega), this.2⟩
        obtain ⟨f4, hf4⟩ : ∃ c4' : Unit, True := ⟨(), trivial⟩
        have hc4 := hP4.planR
        obtain ⟨_, _, e4, hcc, hss⟩ := hc4
        cases e4
        obtain ⟨a5, c5, rfl, _, _⟩ := hcc.form
        obtain ⟨a6, c6, rfl, _, _⟩ := hss.form
        clear hP4 hB4 hB34 hcc hss r0 r1 fr0 fr1 u0 u1 hB3 hI3 hT3 HEND HNO
        go_wp2_with fail
        exact bodyPost_ret (v := .tuple #[.agg #[.slice a5 (wgs p gs).cl.length c5, .slice a6 (wgs p gs).st.length c6], .bool true]) (by simp [results, Try.results15, go_sem, q0, q1, fq0, fq1]) rfl (HF.out _ _)
    · have l1 : ((gs.length : Int) != (p.st.length : Int)) = true := by simp; omega
      have l2 : (gs.length != p.st.length) = true := by simpa using hlen
      have HN : Hid (sgB p gs = false) := by unfold Hid; rw [HDEF.out, decide_eq_false hlen]; simp
      clear hlen
      go_enter Try.func15, Try.ntmps15
      go_wp2_with fail
      rw [← HW1.out, ← HW2.out]
      clear HW1 HW2
      refine (impl_validPlan _ lo _ p (HP0.out.below HT2.out (Nat.le_refl _))).mono ?_; rintro e w3 ⟨rfl, hB3⟩
      rw [hval]
      clear hval
      obtain ⟨u0, u1⟩ := HK.out _ hB3
      obtain ⟨r0, r1, fr0, fr1⟩ := HRC.out _ hB3
      have HEND := Lib.hid (HNO.out _ hB3)
      go_wp2_with fail
      exact bodyPost_ret (v := .tuple #[.agg #[.slice none 0 0, .slice none 0 0], .bool false]) (by simp [results, Try.results15, go_sem, r0, r1, fr0, fr1]) rfl (HEND.out HN.out _ _)
end Go.Proofs.Ytokpgipbgkiepaa
