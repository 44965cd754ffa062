/- ValidPlan: the program's. -/
import Derived.Test.YtokpgipbgkiepaaPlL
import Derived.Deep.RegionHeld3
namespace Go.Proofs.Ytokpgipbgkiepaa
open Go.RowKit
set_option linter.unusedVariables false
set_option linter.unusedSimpArgs false

/-- The box of a plan given by value. -/
theorem plan_box (w : World) (a b : Value) : ∃ w0, w0 = w.alloc (.cells #[a, b] 26) ∧ Below w.heap.size w w0 ∧ w0.cell? ⟨w.heap.size, 0, none⟩ = some a ∧ w0.cell? ⟨w.heap.size, 1, none⟩ = some b ∧ w.heap.size < w0.heap.size := by
  refine ⟨_, rfl, (Below.refl _ _).alloc (Nat.le_refl _) _, ?_, ?_, by simp⟩
  · rw [cell_of_row _ w.heap.size 0 #[a, b] 26 (0, 0) (heap_alloc_new w _)]; simp
  · rw [cell_of_row _ w.heap.size 1 #[a, b] 26 (0, 0) (heap_alloc_new w _)]; simp

def grB (p : Pln) : Bool := (List.range p.st.length).all fun i => inR (p.st.getD i s0).gr 5 40
theorem validP_parts {p : Pln} : validP p = (validCl p.cl && (decide (1 ≤ p.st.length) && decide (p.st.length ≤ 5)) && grB p && phsB p.cl (phL p)) := by
  rw [Bool.eq_iff_iff, validP_iff]
  simp only [Bool.and_eq_true, decide_eq_true_eq, phsB_iff, grB, List.all_eq_true, List.mem_range]
  constructor
  · rintro ⟨h1, h2, h3, h4⟩
    refine ⟨⟨⟨h1, h2, h3⟩, fun i hi => ?_⟩, fun i hi => ?_⟩
    · have := h4 i hi; unfold stOk at this; rw [Bool.and_eq_true] at this; exact this.2
    · have hi' : i < p.st.length := by simpa [phL] using hi
      have := h4 i hi'; unfold stOk at this; rw [Bool.and_eq_true] at this; rw [phL_get p hi']; exact this.1
  · rintro ⟨⟨⟨h1, h2, h3⟩, h4⟩, h5⟩
    refine ⟨h1, h2, h3, fun i hi => ?_⟩
    unfold stOk
    rw [Bool.and_eq_true]
    have := h5 i (by simpa [phL] using hi)
    rw [phL_get p hi] at this
    exact ⟨this, h4 i hi⟩

set_option maxHeartbeats 4000000 in
theorem impl_validPlan (w : World) (lo : Nat) (vp : Value) (p : Pln) (hp : PlanR w lo vp p) :
    Calls Try.prog 19 #[vp] w fun e w' => e = .returned (.bool (validP p)) ∧ Below w.heap.size w w' := by
  have hp0 := hp
  obtain ⟨vc, vs, rfl, hc, hs⟩ := hp
  obtain ⟨ao, cap, rfl, hcap, hm⟩ := hs.form
  obtain ⟨aoc, capc, rfl, hcapc, hmc⟩ := hc.form
  have HP0 := Lib.hid hp0
  have HCL := Lib.hid hc
  have HS := Lib.hid hs
  obtain ⟨w0, hw0, hB0, x0, x1, hz0⟩ := plan_box w (.slice aoc p.cl.length capc) (.slice ao p.st.length cap)
  have hvp := validP_parts (p := p)
  have HVP := Lib.hid hvp
  have HB0 := Lib.hid hB0
  clear hp0 hc hs hvp hB0
  cases hcl : validCl p.cl
  · have HN : Hid (validP p = false) := by unfold Hid; rw [HVP.out, hcl]; rfl
    go_enter Try.func19, Try.ntmps19
    go_wp2_with fail
    rw [← hw0]
    clear hw0
    refine (impl_validClearance _ lo _ p.cl (HCL.out.below HB0.out (Nat.le_refl _))).mono ?_; rintro e w1 ⟨rfl, rfl⟩
    rw [hcl]
    clear hcl
    go_wp2_with fail
    go_ret
    exact ⟨by rw [HN.out]; rfl, HB0.out⟩
  · have HV := Lib.hid hcl
    by_cases hn : 1 ≤ p.st.length ∧ p.st.length ≤ 5
    · have dn : (decide (1 ≤ (p.st.length : Int)) && decide ((p.st.length : Int) ≤ 5)) = true := by simp; omega
      obtain ⟨h1, h5⟩ := hn
      obtain ⟨b, off, rfl, _, hb, hx⟩ := HS.out.spot (by omega)
      have HX := Lib.hid hx
      clear hx
      go_enter Try.func19, Try.ntmps19
      go_wp2_with fail
      rw [← hw0]
      clear hw0
      refine (impl_validClearance _ lo _ p.cl (HCL.out.below HB0.out (Nat.le_refl _))).mono ?_; rintro e w1 ⟨rfl, rfl⟩
      rw [hcl]
      clear hcl
      go_wp2_with (go_at_call 63; with_reducible refine (within_dec (p.st.length : Int) 1 5 true _ dn).mono ?_; rintro e' w2 ⟨rfl, rfl⟩)
      go_loopw [19] (fun i wo => ∃ j : Nat, j ≤ p.st.length ∧ i = .int .i64 j ∧ (∀ k, k < j → inR (p.st.getD k s0).gr 5 40 = true) ∧ Below w0.heap.size w0 wo) (fun i _ => p.st.length - (intOf i).toNat)
      case atStart => exact ⟨0, Nat.zero_le _, rfl, fun j hj => by omega, Below.refl _ _⟩
      case round =>
        obtain ⟨j, hj, rfl, hall, hB⟩ := hrel
        have HA := Lib.hid hall
        have hT := HB0.out.trans (hB.mono HB0.out.size)
        clear hall
        by_cases hlt : j < p.st.length
        · obtain ⟨g1, ai, ci, g0, hIj⟩ := HX.out j (by omega)
          have c0 := (hT.cell (p := ⟨b, off + j * 2, none⟩) hb).trans g0
          have c1 := (hT.cell (p := ⟨b, off + j * 2 + 1, none⟩) hb).trans g1
          obtain ⟨n, hn⟩ : ∃ n, n = (p.st.getD j s0).ph.length := ⟨_, rfl⟩
          obtain ⟨gr, hgr⟩ : ∃ gr, gr = (p.st.getD j s0).gr := ⟨_, rfl⟩
          rw [← hn] at c0
          rw [← hgr] at c1
          have HGR := Lib.hid hgr
          clear g0 g1 hIj hn hgr
          have HT1 : Hid (∀ o, Below w.heap.size w (wr.alloc o) ∧ Below w0.heap.size w0 (wr.alloc o)) := fun o => ⟨hT.alloc hT.size _, hB.alloc hB.size _⟩
          clear hT hB
          cases hin : inR gr 5 40
          · have dn2 : (decide (5 ≤ gr) && decide (gr ≤ 40)) = false := hin
            have HN : Hid (validP p = false) := by
              unfold Hid; rw [Bool.eq_false_iff]; intro h
              have := (validP_iff.1 h).2.2.2 j hlt
              unfold stOk at this
              rw [← HGR.out, hin] at this; simp at this
            clear hin
            go_wp2_with (go_at_call 63; with_reducible refine (within_dec gr 5 40 false _ dn2).mono ?_; rintro e' w2 ⟨rfl, rfl⟩)
            go_ret
            exact ⟨by rw [HN.out]; rfl, (HT1.out _).1⟩
          · have dn2 : (decide (5 ≤ gr) && decide (gr ≤ 40)) = true := hin
            have HY := Lib.hid hin
            clear hin
            go_wp2_with (go_at_call 63; with_reducible refine (within_dec gr 5 40 true _ dn2).mono ?_; rintro e' w2 ⟨rfl, rfl⟩)
            go_roundw
            case rel => exact ⟨j + 1, by omega, by go_num, fun k hk => by
              by_cases h : k = j
              · subst h; rw [← HGR.out]; exact HY.out
              · exact HA.out k (by omega), (HT1.out _).2⟩
            case measure => simp [intOf]; omega
        · have HG : Hid (grB p = true) := by
            unfold Hid grB; rw [List.all_eq_true]; intro i hi; exact HA.out i (by have := List.mem_range.1 hi; omega)
          have hr : validP p = phsB p.cl (phL p) := by
            rw [HVP.out, HV.out, HG.out, decide_eq_true h1, decide_eq_true h5]; simp
          have HR := Lib.hid hr
          have hzr : w.heap.size < wr.heap.size := Nat.lt_of_lt_of_le hz0 hB.size
          have u0 := (hB.cell (p := ⟨w.heap.size, 0, none⟩) hz0).trans x0
          have u1 := (hB.cell (p := ⟨w.heap.size, 1, none⟩) hz0).trans x1
          have keepA : ∀ W, Below wr.heap.size wr W → (W.cell? ⟨w.heap.size, 0, none⟩ = some (.slice aoc p.cl.length capc) ∧ W.cell? ⟨w.heap.size, 1, none⟩ = some (.slice (some ⟨b, off, none⟩) p.st.length cap)) := fun W h => ⟨(h.cell (p := ⟨w.heap.size, 0, none⟩) hzr).trans u0, (h.cell (p := ⟨w.heap.size, 1, none⟩) hzr).trans u1⟩
          have KA := Lib.hid keepA
          clear hr keepA HA x0 x1
          go_wp2_with fail
          go_region_held3 (fun w' => w'.cell? ⟨w.heap.size, 0, none⟩ = some (.slice aoc p.cl.length capc) ∧ w'.cell? ⟨w.heap.size, 1, none⟩ = some (.slice (some ⟨b, off, none⟩) p.st.length cap))
            (first | exact KA.out _ (hB5.trans (hB7.mono hB5.size)) | exact KA.out _ hB5 | exact KA.out _ (Below.refl _ _) | go_keep | assumption)
            ((first
              | (go_at_call 65; refine (plan_phases _ lo _ p (HP0.out.below (hT.trans ((Below.drew (Below.refl wr.heap.size wr)).mono hT.size)) (Nat.le_refl _)) h1 h5).mono ?_; rintro e w5 ⟨v5, rfl, hI5, hB5'⟩; have hB5 : Below wr.heap.size wr w5 := (Below.drew (Below.refl wr.heap.size wr)).trans hB5'; have hT5 : Below w.heap.size w w5 := hT.trans (hB5.mono hT.size))
              | (go_at_call 64; refine (impl_validPhases _ lo 0 _ _ p.cl (phL p) (HCL.out.below hT5 (Nat.le_refl _)) HV.out hI5).mono ?_; rintro e w7 ⟨rfl, hB7⟩; rw [← HR.out])))
          go_wp2
          go_ret
          exact ⟨rfl, hT5.trans (hB7.mono hT5.size)⟩
    · have dn : (decide (1 ≤ (p.st.length : Int)) && decide ((p.st.length : Int) ≤ 5)) = false := by simp; omega
      have HN : Hid (validP p = false) := by
        unfold Hid; rw [Bool.eq_false_iff]; intro h
        have := validP_iff.1 h
        exact hn ⟨this.2.1, this.2.2.1⟩
      clear hn
      go_enter Try.func19, Try.ntmps19
      go_wp2_with fail
      rw [← hw0]
      clear hw0
      refine (impl_validClearance _ lo _ p.cl (HCL.out.below HB0.out (Nat.le_refl _))).mono ?_; rintro e w1 ⟨rfl, rfl⟩
      rw [hcl]
      clear hcl
      go_wp2_with (go_at_call 63; with_reducible refine (within_dec (p.st.length : Int) 1 5 false _ dn).mono ?_; rintro e' w2 ⟨rfl, rfl⟩)
      go_ret
      exact ⟨by rw [HN.out]; rfl, HB0.out⟩
end Go.Proofs.Ytokpgipbgkiepaa
