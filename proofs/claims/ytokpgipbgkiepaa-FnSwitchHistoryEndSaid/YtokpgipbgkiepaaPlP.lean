/- GreenAt: the program's. -/
import Derived.Test.YtokpgipbgkiepaaPlO
namespace Go.Proofs.Ytokpgipbgkiepaa
open Go.RowKit
set_option linter.unusedVariables false
set_option linter.unusedSimpArgs false

def grnO (p : Pln) (s : Int) : List Int := if validP p = true ∧ inR s 0 9999 = true then grn p (s % cyc p) else []
theorem grn_len {p : Pln} (h : validP p = true) {s : Int} (h0 : 0 ≤ s) (h1 : s < cyc p) : (grn p s).length ≤ 8 := by
  obtain ⟨hv, _⟩ := validP_iff.1 h
  have h8 := (validCl_iff.1 hv).2.1
  have q := (stgAt_spec h h0 h1).1
  have m := movesB_len (validP_st h q).1 (by omega)
  unfold grn phA
  split
  · omega
  · have := List.length_filter_le (fun m => hasB (nxA p (stgAt p s)) m) (p.st.getD (stgAt p s) s0).ph
    omega

set_option maxHeartbeats 4000000 in
theorem impl_greenAt (w : World) (lo : Nat) (vp : Value) (p : Pln) (s : Int) (hp : PlanR w lo vp p) :
    Calls Try.prog 41 #[vp, .int .i64 s] w (OwnRet w (grnO p s)) := by
  have hp0 := hp
  obtain ⟨vc, vs, rfl, hc, hs⟩ := hp
  obtain ⟨ao, cap, rfl, hcap, hm⟩ := hs.form
  obtain ⟨aoc, capc, rfl, hcapc, hmc⟩ := hc.form
  have HP0 := Lib.hid hp0
  obtain ⟨w0, hw0, hB0, x0, x1, hz0⟩ := plan_box w (.slice aoc p.cl.length capc) (.slice ao p.st.length cap)
  have HB0 := Lib.hid hB0
  clear hp0 hc hs hB0
  cases hval : validP p
  · have HN : Hid (grnO p s = []) := by unfold Hid grnO; rw [if_neg (by rw [hval]; simp)]
    go_enter Try.func41, Try.ntmps41
    go_wp2_with fail
    rw [← hw0]
    clear hw0
    refine (impl_validPlan _ lo _ p (HP0.out.below HB0.out (Nat.le_refl _))).mono ?_; rintro e w1 ⟨rfl, hB1⟩
    rw [hval]
    clear hval
    go_wp2_with fail
    go_ret
    exact ⟨_, rfl, by rw [HN.out]; exact Own.nil _ _ _ _, HB0.out.trans (hB1.mono HB0.out.size)⟩
  · cases hin : inR s 0 9999
    · have HN : Hid (grnO p s = []) := by unfold Hid grnO; rw [if_neg (by rw [hin]; simp)]
      have dn : (decide (0 ≤ s) && decide (s ≤ 9999)) = false := hin
      clear hin
      go_enter Try.func41, Try.ntmps41
      go_wp2_with fail
      rw [← hw0]
      clear hw0
      refine (impl_validPlan _ lo _ p (HP0.out.below HB0.out (Nat.le_refl _))).mono ?_; rintro e w1 ⟨rfl, hB1⟩
      rw [hval]
      clear hval
      go_wp2_with (go_at_call 63; with_reducible refine (within_dec s 0 9999 false _ dn).mono ?_; rintro e' w2 ⟨rfl, rfl⟩)
      go_ret
      exact ⟨_, rfl, by rw [HN.out]; exact Own.nil _ _ _ _, HB0.out.trans (hB1.mono HB0.out.size)⟩
    · have hN : grnO p s = grn p (s % cyc p) := by unfold grnO; rw [if_pos ⟨hval, hin⟩]
      have dn : (decide (0 ≤ s) && decide (s ≤ 9999)) = true := hin
      have hf := inR_iff.1 hin
      obtain ⟨f0, f1⟩ := hf
      have hcb := cyc_bd hval
      have HV := Lib.hid hval
      obtain ⟨c, hcc⟩ : ∃ c, c = cyc p := ⟨_, rfl⟩
      rw [← hcc] at hN hcb
      obtain ⟨c5, c225⟩ := hcb
      have g0 := Int.emod_nonneg s (show c ≠ 0 by omega)
      have g1 := Int.emod_lt_of_pos s (show 0 < c by omega)
      have t1 : s.tmod c = s % c := Int.tmod_eq_emod_of_nonneg (by omega)
      obtain ⟨m, hmm⟩ : ∃ m, m = s % c := ⟨_, rfl⟩
      rw [← hmm] at hN g0 g1 t1
      have e0 : s % c = m := hmm.symm
      have m4 : ¬ c = 0 := by omega
      have HC := Lib.hid hcc
      have HL : Hid ((grn p m).length ≤ 8) := grn_len hval g0 (by rw [← hcc]; exact g1)
      have HN := Lib.hid hN
      clear hin hN hcc hmm
      go_enter Try.func41, Try.ntmps41
      go_wp2_with fail
      rw [← hw0]
      clear hw0
      refine (impl_validPlan _ lo _ p (HP0.out.below HB0.out (Nat.le_refl _))).mono ?_; rintro e w1 ⟨rfl, hB1⟩
      rw [hval]
      clear hval
      have u0 := (hB1.cell (p := ⟨w.heap.size, 0, none⟩) hz0).trans x0
      have u1 := (hB1.cell (p := ⟨w.heap.size, 1, none⟩) hz0).trans x1
      have hT := HB0.out.trans (hB1.mono HB0.out.size)
      have hz1 : w.heap.size < w1.heap.size := Nat.lt_of_lt_of_le hz0 hB1.size
      have keepA : ∀ W, Below w1.heap.size w1 W → (W.cell? ⟨w.heap.size, 0, none⟩ = some (.slice aoc p.cl.length capc) ∧ W.cell? ⟨w.heap.size, 1, none⟩ = some (.slice ao p.st.length cap)) := fun W h => ⟨(h.cell (p := ⟨w.heap.size, 0, none⟩) hz1).trans u0, (h.cell (p := ⟨w.heap.size, 1, none⟩) hz1).trans u1⟩
      have KA := Lib.hid keepA
      clear x0 x1 keepA
      go_wp2_with (go_at_call 63; with_reducible refine (within_dec s 0 9999 true _ dn).mono ?_; rintro e' w2 ⟨rfl, rfl⟩)
      go_region_held3 (fun w' => w'.cell? ⟨w.heap.size, 0, none⟩ = some (.slice aoc p.cl.length capc) ∧ w'.cell? ⟨w.heap.size, 1, none⟩ = some (.slice ao p.st.length cap))
        (first | exact KA.out _ hB7 | exact KA.out _ hB6 | exact KA.out _ hB5 | exact KA.out _ (Below.refl _ _) | go_keep | assumption)
        ((first
          | (go_at_call 83; refine (plan_cycle _ lo _ p (HP0.out.below (hT.trans ((Below.drew (Below.refl w1.heap.size w1)).mono hT.size)) (Nat.le_refl _)) HV.out).mono ?_; rintro e w5 ⟨rfl, hB5'⟩; rw [← HC.out]; have hB5 : Below w1.heap.size w1 w5 := (Below.drew (Below.refl w1.heap.size w1)).trans hB5'; have hT5 : Below w.heap.size w w5 := hT.trans (hB5.mono hT.size))
          | (go_at_call 95; refine (plan_greenIn _ lo _ p m (HP0.out.below hT5 (Nat.le_refl _)) HV.out g0 (by rw [← HC.out]; exact g1)).mono ?_; rintro e w6 ⟨v6, rfl, hI6, hB6'⟩; have hB6 : Below w1.heap.size w1 w6 := hB5.trans (hB6'.mono hB5.size); have hT6 : Below w.heap.size w w6 := hT5.trans (hB6'.mono hT5.size))
          | (go_at_call 76; refine (clone_any _ _ _ (grn p m) hI6 (by have := HL.out; omega)).mono ?_; rintro e w7 ⟨v7, rfl, hO7, hB7'⟩; have hB7 : Below w1.heap.size w1 w7 := hB6.trans (hB7'.mono hB6.size))))
      go_wp2
      go_ret
      exact ⟨_, rfl, by rw [HN.out]; exact hO7.mono hT6.size, hT6.trans (hB7'.mono hT6.size)⟩
end Go.Proofs.Ytokpgipbgkiepaa
