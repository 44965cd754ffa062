/- gapAfter, cycle, stageAt: the reference's. -/
import Derived.Test.YtokpgipbgkiepaaPlR
namespace Go.Proofs.Ytokpgipbgkiepaa
open Go.RowKit
set_option linter.unusedVariables false
set_option linter.unusedSimpArgs false

set_option maxHeartbeats 8000000 in
theorem spec_gapAfter (w : World) (lo : Nat) (vp : Value) (p : Pln) (i : Nat) (hp : PlanR w lo vp p) (hval : validP p = true) (hi : i < p.st.length) :
    Calls Try.prog 126 #[vp, .int .i64 i] w fun e w' => e = .returned (.int .i64 (gapA p i)) ∧ Below w.heap.size w w' := by
  obtain ⟨vc, vs, rfl, hc, hs⟩ := hp
  obtain ⟨hvc, h1, h5, _⟩ := validP_iff.1 hval
  obtain ⟨ao, cap, rfl, hcap, hm⟩ := hs.form
  obtain ⟨aoc, capc, rfl, hcapc, hmc⟩ := hc.form
  obtain ⟨b, off, rfl, _, hb, hx⟩ := hs.spot (by omega)
  obtain ⟨q, hq⟩ : ∃ q, q = (i + 1) % p.st.length := ⟨_, rfl⟩
  have hq1 : q < p.st.length := by rw [hq]; exact Nat.mod_lt _ (by omega)
  obtain ⟨_, ai, ci, c0w, hI0⟩ := hx i hi
  obtain ⟨_, aj, cj, c1w, hI1⟩ := hx q hq1
  have hm0 := (validP_st hval hi).1
  have hm1 := (validP_st hval hq1).1
  have hgp : gapA p i = change p.cl (p.st.getD i s0).ph (p.st.getD q s0).ph := by rw [hq]; rfl
  have e1 : (((i : Int) + 1) % (p.st.length : Int)).toNat = q := by rw [hq, show ((i : Int) + 1) = ((i + 1 : Nat) : Int) by omega, ← Int.natCast_emod, Int.toNat_natCast]
  have m1 : 0 ≤ ((i : Int) + 1) % (p.st.length : Int) := Int.emod_nonneg _ (by omega)
  have m2 : ((i : Int) + 1) % (p.st.length : Int) < (p.st.length : Int) := Int.emod_lt_of_pos _ (by omega)
  have m3 : ((i : Int) + 1).tmod (p.st.length : Int) = ((i : Int) + 1) % (p.st.length : Int) := Int.tmod_eq_emod_of_nonneg (by omega)
  have m4 : ¬ (p.st.length : Int) = 0 := by omega
  have m6 : ¬ p.st.length = 0 := by omega
  have m5 : 0 ≤ (i : Int) + 1 := by omega
  have wr1 : IntKind.i64.wrap ((i : Int) + 1) = (i : Int) + 1 := IntWalk.i64_in _ (by omega)
  have i0 : (0 : Int) ≤ (i : Int) := by omega
  have i1 : (i : Int) < (p.st.length : Int) := by omega
  obtain ⟨w0, hw0, hB0, x0, x1, hz0⟩ := plan_box w (.slice aoc p.cl.length capc) (.slice (some ⟨b, off, none⟩) p.st.length cap)
  have c0 := (hB0.cell (p := ⟨b, off + i * 2, none⟩) hb).trans c0w
  have c1 := (hB0.cell (p := ⟨b, off + q * 2, none⟩) hb).trans c1w
  have hb0 : b < w0.heap.size := Nat.lt_of_lt_of_le hb hB0.size
  obtain ⟨ph, hph⟩ : ∃ ph, ph = (p.st.getD i s0).ph := ⟨_, rfl⟩
  obtain ⟨nx, hnx⟩ : ∃ nx, nx = (p.st.getD q s0).ph := ⟨_, rfl⟩
  rw [← hph] at c0 hI0 hm0 hgp
  rw [← hnx] at c1 hI1 hm1 hgp
  have HGP := Lib.hid hgp
  have HI0 := Lib.hid hI0
  have HI1 := Lib.hid hI1
  have HM0 := Lib.hid hm0
  have HM1 := Lib.hid hm1
  have HCL := Lib.hid hc
  have HVC := Lib.hid hvc
  have HB0 := Lib.hid hB0
  have keepA : ∀ W, Below w0.heap.size w0 W → (W.cell? ⟨w.heap.size, 0, none⟩ = some (.slice aoc p.cl.length capc) ∧ W.cell? ⟨w.heap.size, 1, none⟩ = some (.slice (some ⟨b, off, none⟩) p.st.length cap) ∧ W.cell? ⟨b, off + i * 2, none⟩ = some (.slice ai ph.length ci) ∧ W.cell? ⟨b, off + q * 2, none⟩ = some (.slice aj nx.length cj)) := fun W h => ⟨(h.cell (p := ⟨w.heap.size, 0, none⟩) hz0).trans x0, (h.cell (p := ⟨w.heap.size, 1, none⟩) hz0).trans x1, (h.cell (p := ⟨b, off + i * 2, none⟩) hb0).trans c0, (h.cell (p := ⟨b, off + q * 2, none⟩) hb0).trans c1⟩
  have KA := Lib.hid keepA
  clear hx hq c0w c1w hI0 hI1 hm0 hm1 hgp hph hnx hc hs hval hvc hB0 keepA
  go_enter Try.func126, Try.ntmps126
  go_wp2_with fail
  rw [← hw0]
  clear hw0
  go_region_held3 (fun w' => w'.cell? ⟨w.heap.size, 0, none⟩ = some (.slice aoc p.cl.length capc) ∧ w'.cell? ⟨w.heap.size, 1, none⟩ = some (.slice (some ⟨b, off, none⟩) p.st.length cap) ∧ w'.cell? ⟨b, off + i * 2, none⟩ = some (.slice ai ph.length ci) ∧ w'.cell? ⟨b, off + q * 2, none⟩ = some (.slice aj nx.length cj))
    (first | exact KA.out _ hB5 | exact KA.out _ (Below.refl _ _) | go_keep | assumption)
    ((go_at_call 127; refine (spec_change _ lo lo lo _ _ _ p.cl ph nx (HCL.out.below (HB0.out.trans ((Below.drew (Below.refl w0.heap.size w0)).mono HB0.out.size)) (Nat.le_refl _)) HVC.out (Rd.below HI0.out (HB0.out.trans ((Below.drew (Below.refl w0.heap.size w0)).mono HB0.out.size)) (Nat.le_refl _) (by decide)) (Rd.below HI1.out (HB0.out.trans ((Below.drew (Below.refl w0.heap.size w0)).mono HB0.out.size)) (Nat.le_refl _) (by decide)) HM0.out HM1.out).mono ?_; rintro e w5 ⟨rfl, hB5'⟩; rw [← HGP.out]; have hB5 : Below w0.heap.size w0 w5 := (Below.drew (Below.refl w0.heap.size w0)).trans hB5'))
  go_wp2
  go_ret
  exact ⟨rfl, HB0.out.trans (hB5.mono HB0.out.size)⟩

set_option maxHeartbeats 8000000 in
theorem spec_cycle (w : World) (lo : Nat) (vp : Value) (p : Pln) (hp : PlanR w lo vp p) (hval : validP p = true) :
    Calls Try.prog 116 #[vp] w fun e w' => e = .returned (.int .i64 (cyc p)) ∧ Below w.heap.size w w' := by
  have hp0 := hp
  obtain ⟨vc, vs, rfl, hc, hs⟩ := hp
  obtain ⟨hvc, h1, h5, _⟩ := validP_iff.1 hval
  obtain ⟨ao, cap, rfl, hcap, hm⟩ := hs.form
  obtain ⟨aoc, capc, rfl, hcapc, hmc⟩ := hc.form
  obtain ⟨b, off, rfl, _, hb, hx⟩ := hs.spot (by omega)
  have HX := Lib.hid hx
  have HP0 := Lib.hid hp0
  have HV := Lib.hid hval
  have HCY : Hid (beg p p.st.length = cyc p) := rfl
  obtain ⟨w0, hw0, hB0, x0, x1, hz0⟩ := plan_box w (.slice aoc p.cl.length capc) (.slice (some ⟨b, off, none⟩) p.st.length cap)
  have HB0 := Lib.hid hB0
  clear hx hp0 hc hs hval hvc hB0
  go_enter Try.func116, Try.ntmps116
  go_wp2_with fail
  rw [← hw0]
  clear hw0
  go_loopw [3, 4] (fun nv i wo => ∃ j : Nat, j ≤ p.st.length ∧ i = .int .i64 j ∧ nv = .int .i64 (beg p j) ∧ Below w0.heap.size w0 wo) (fun _ i _ => p.st.length - (intOf i).toNat)
  case atStart => exact ⟨0, Nat.zero_le _, rfl, rfl, Below.refl _ _⟩
  case round =>
    obtain ⟨j, hj, rfl, rfl, hB⟩ := hrel
    have hT := HB0.out.trans (hB.mono HB0.out.size)
    have u0 := (hB.cell (p := ⟨w.heap.size, 0, none⟩) hz0).trans x0
    have u1 := (hB.cell (p := ⟨w.heap.size, 1, none⟩) hz0).trans x1
    by_cases hlt : j < p.st.length
    · obtain ⟨g1, _⟩ := HX.out j (by omega)
      have hst := validP_st HV.out (i := j) (by omega)
      have hgb := gapA_bd HV.out (i := j) (by omega)
      have hbb := beg_bd HV.out j (by omega)
      have hsu := beg_succ p j
      have c1 := (hT.cell (p := ⟨b, off + j * 2 + 1, none⟩) hb).trans g1
      have hzr : w.heap.size < wr.heap.size := Nat.lt_of_lt_of_le hz0 hB.size
      have hbr : b < wr.heap.size := Nat.lt_of_lt_of_le hb hT.size
      obtain ⟨gr, hgr⟩ : ∃ gr, gr = (p.st.getD j s0).gr := ⟨_, rfl⟩
      obtain ⟨gp, hgp2⟩ : ∃ g, g = gapA p j := ⟨_, rfl⟩
      obtain ⟨bg, hbg⟩ : ∃ g, g = beg p j := ⟨_, rfl⟩
      rw [← hgr] at c1 hst hsu
      rw [← hgp2] at hgb hsu
      rw [← hbg] at hsu hbb ⊢
      have HSU := Lib.hid hsu
      have HGP := Lib.hid hgp2
      obtain ⟨_, hg5, hg40⟩ := hst
      have wr1 : IntKind.i64.wrap (bg + gr) = bg + gr := IntWalk.i64_in _ (by omega)
      have wr2 : IntKind.i64.wrap (bg + gr + gp) = bg + gr + gp := IntWalk.i64_in _ (by omega)
      have j0 : (0 : Int) ≤ (j : Int) := by omega
      have j1 : (j : Int) < (p.st.length : Int) := by omega
      have keepA : ∀ W, Below wr.heap.size wr W → (W.cell? ⟨w.heap.size, 0, none⟩ = some (.slice aoc p.cl.length capc) ∧ W.cell? ⟨w.heap.size, 1, none⟩ = some (.slice (some ⟨b, off, none⟩) p.st.length cap) ∧ W.cell? ⟨b, off + j * 2 + 1, none⟩ = some (.int .i64 gr)) := fun W h => ⟨(h.cell (p := ⟨w.heap.size, 0, none⟩) hzr).trans u0, (h.cell (p := ⟨w.heap.size, 1, none⟩) hzr).trans u1, (h.cell (p := ⟨b, off + j * 2 + 1, none⟩) hbr).trans c1⟩
      have KA := Lib.hid keepA
      clear hgr hgp2 hbg hsu g1 keepA
      go_wp2_with fail
      go_region_held3 (fun w' => w'.cell? ⟨w.heap.size, 0, none⟩ = some (.slice aoc p.cl.length capc) ∧ w'.cell? ⟨w.heap.size, 1, none⟩ = some (.slice (some ⟨b, off, none⟩) p.st.length cap) ∧ w'.cell? ⟨b, off + j * 2 + 1, none⟩ = some (.int .i64 gr))
        (first | exact KA.out _ hB5 | exact KA.out _ (Below.refl _ _) | go_keep | assumption)
        ((go_at_call 126; refine (spec_gapAfter _ lo _ p j (HP0.out.below (hT.trans ((Below.drew (Below.refl wr.heap.size wr)).mono hT.size)) (Nat.le_refl _)) HV.out hlt).mono ?_; rintro e w5 ⟨rfl, hB5'⟩; rw [← HGP.out]; have hB5 : Below wr.heap.size wr w5 := (Below.drew (Below.refl wr.heap.size wr)).trans hB5'))
      go_wp2
      go_roundw
      case rel => exact ⟨j + 1, by omega, by go_num, by rw [HSU.out], hB.trans (hB5.mono hB.size)⟩
      case measure => simp [intOf]; omega
    · have hjk : j = p.st.length := by omega
      subst hjk
      go_wp2_with fail
      go_ret
      exact ⟨ret_int HCY.out, hT⟩

set_option maxHeartbeats 8000000 in
theorem spec_stageAt (w : World) (lo : Nat) (vp : Value) (p : Pln) (s : Int) (hp : PlanR w lo vp p) (hval : validP p = true) (hs0 : 0 ≤ s) (hs1 : s < cyc p) :
    Calls Try.prog 124 #[vp, .int .i64 s] w fun e w' => e = .returned (.tuple #[.int .i64 (stgAt p s), .int .i64 (s - beg p (stgAt p s))]) ∧ Below w.heap.size w w' := by
  have hp0 := hp
  obtain ⟨vc, vs, rfl, hc, hs⟩ := hp
  obtain ⟨hvc, h1, h5, _⟩ := validP_iff.1 hval
  obtain ⟨ao, cap, rfl, hcap, hm⟩ := hs.form
  obtain ⟨aoc, capc, rfl, hcapc, hmc⟩ := hc.form
  obtain ⟨b, off, rfl, _, hb, hx⟩ := hs.spot (by omega)
  have HX := Lib.hid hx
  have HP0 := Lib.hid hp0
  have HV := Lib.hid hval
  have hcb := cyc_bd hval
  have hs225 : s ≤ 225 := by omega
  have HS1 := Lib.hid hs1
  obtain ⟨w0, hw0, hB0, x0, x1, hz0⟩ := plan_box w (.slice aoc p.cl.length capc) (.slice (some ⟨b, off, none⟩) p.st.length cap)
  have HB0 := Lib.hid hB0
  clear hx hp0 hc hs hval hvc hB0 hcb hs1
  go_enter Try.func124, Try.ntmps124
  go_wp2_with fail
  rw [← hw0]
  clear hw0
  go_loopw [1, 6] (fun sv i wo => ∃ j : Nat, j < p.st.length ∧ i = .int .i64 j ∧ sv = .int .i64 (s - beg p j) ∧ Hid (beg p j ≤ s) ∧ Below w0.heap.size w0 wo) (fun _ i _ => p.st.length - (intOf i).toNat)
  case atStart => exact ⟨0, by omega, rfl, by rw [beg0, Int.sub_zero], by unfold Hid; rw [beg0]; exact hs0, Below.refl _ _⟩
  case round =>
    obtain ⟨j, hj, rfl, rfl, HJ, hB⟩ := hrel
    have hT := HB0.out.trans (hB.mono HB0.out.size)
    have u0 := (hB.cell (p := ⟨w.heap.size, 0, none⟩) hz0).trans x0
    have u1 := (hB.cell (p := ⟨w.heap.size, 1, none⟩) hz0).trans x1
    obtain ⟨g1, _⟩ := HX.out j (by omega)
    have hst := validP_st HV.out (i := j) (by omega)
    have hgb := gapA_bd HV.out (i := j) (by omega)
    have hbb := beg_bd HV.out j (by omega)
    have hbs := HJ.out
    have hsu := beg_succ p j
    have c1 := (hT.cell (p := ⟨b, off + j * 2 + 1, none⟩) hb).trans g1
    have hzr : w.heap.size < wr.heap.size := Nat.lt_of_lt_of_le hz0 hB.size
    have hbr : b < wr.heap.size := Nat.lt_of_lt_of_le hb hT.size
    have hat : Hid (beg p (j + 1) ≤ s → j + 1 < p.st.length ∧ beg p (j + 1) ≤ s) := fun h => ⟨by
      rcases Nat.lt_or_ge (j + 1) p.st.length with h' | h'
      · exact h'
      · have e : j + 1 = p.st.length := by omega
        have := HS1.out
        have e2 : cyc p = beg p p.st.length := rfl
        rw [e] at h; omega, h⟩
    have hno : Hid (s < beg p (j + 1) → stgAt p s = j) := fun h => stgAt_eq HV.out hj HJ.out h
    obtain ⟨nb, hnb⟩ : ∃ x, x = beg p (j + 1) := ⟨_, rfl⟩
    rw [← hnb] at hat hno hsu
    obtain ⟨gr, hgr⟩ : ∃ gr, gr = (p.st.getD j s0).gr := ⟨_, rfl⟩
    obtain ⟨gp, hgp2⟩ : ∃ g, g = gapA p j := ⟨_, rfl⟩
    obtain ⟨bg, hbg⟩ : ∃ g, g = beg p j := ⟨_, rfl⟩
    rw [← hgr] at c1 hst hsu
    rw [← hgp2] at hgb hsu
    rw [← hbg] at hsu hbb hbs ⊢
    have HNB := Lib.hid hnb
    have HSU := Lib.hid hsu
    have HGP := Lib.hid hgp2
    have HBG := Lib.hid hbg
    obtain ⟨_, hg5, hg40⟩ := hst
    have wr1 : IntKind.i64.wrap (gr + gp) = gr + gp := IntWalk.i64_in _ (by omega)
    have wr2 : IntKind.i64.wrap (s - bg - gr) = s - bg - gr := IntWalk.i64_in _ (by omega)
    have wr3 : IntKind.i64.wrap (s - bg - gr - gp) = s - bg - gr - gp := IntWalk.i64_in _ (by omega)
    have j0 : (0 : Int) ≤ (j : Int) := by omega
    have j1 : (j : Int) < (p.st.length : Int) := by omega
    have keepA : ∀ W, Below wr.heap.size wr W → (W.cell? ⟨w.heap.size, 0, none⟩ = some (.slice aoc p.cl.length capc) ∧ W.cell? ⟨w.heap.size, 1, none⟩ = some (.slice (some ⟨b, off, none⟩) p.st.length cap) ∧ W.cell? ⟨b, off + j * 2 + 1, none⟩ = some (.int .i64 gr)) := fun W h => ⟨(h.cell (p := ⟨w.heap.size, 0, none⟩) hzr).trans u0, (h.cell (p := ⟨w.heap.size, 1, none⟩) hzr).trans u1, (h.cell (p := ⟨b, off + j * 2 + 1, none⟩) hbr).trans c1⟩
    have KA := Lib.hid keepA
    clear hgr hgp2 hbg hsu g1 keepA hnb
    by_cases hge : gr + gp ≤ s - bg
    · have dg : decide (gr + gp ≤ s - bg) = true := decide_eq_true hge
      have HA : Hid (j + 1 < p.st.length ∧ beg p (j + 1) ≤ s) := by
        have := hat.out (by rw [HSU.out]; omega)
        unfold Hid; rw [← HNB.out]; exact this
      have HE : Hid (s - bg - gr - gp = s - beg p (j + 1)) := by unfold Hid; rw [← HNB.out, HSU.out]; omega
      clear hge hat hno
      go_wp2_with fail
      go_region_held3 (fun w' => w'.cell? ⟨w.heap.size, 0, none⟩ = some (.slice aoc p.cl.length capc) ∧ w'.cell? ⟨w.heap.size, 1, none⟩ = some (.slice (some ⟨b, off, none⟩) p.st.length cap) ∧ w'.cell? ⟨b, off + j * 2 + 1, none⟩ = some (.int .i64 gr))
        (first | exact KA.out _ hB5 | exact KA.out _ (Below.refl _ _) | go_keep | assumption)
        ((go_at_call 126; refine (spec_gapAfter _ lo _ p j (HP0.out.below (hT.trans ((Below.drew (Below.refl wr.heap.size wr)).mono hT.size)) (Nat.le_refl _)) HV.out hj).mono ?_; rintro e w5 ⟨rfl, hB5'⟩; rw [← HGP.out]; have hB5 : Below wr.heap.size wr w5 := (Below.drew (Below.refl wr.heap.size wr)).trans hB5'))
      have hT5 := hT.trans (hB5.mono hT.size)
      have KB : Hid (∀ W, Below w5.heap.size w5 W → Below wr.heap.size wr W) := fun W h => hB5.trans (h.mono hB5.size)
      obtain ⟨v0, v1, v2⟩ := KA.out _ hB5
      clear u0 u1 c1
      go_wp2_with fail
      go_region_held3 (fun w' => w'.cell? ⟨w.heap.size, 0, none⟩ = some (.slice aoc p.cl.length capc) ∧ w'.cell? ⟨w.heap.size, 1, none⟩ = some (.slice (some ⟨b, off, none⟩) p.st.length cap) ∧ w'.cell? ⟨b, off + j * 2 + 1, none⟩ = some (.int .i64 gr))
        (first | exact KA.out _ (KB.out _ hB6) | exact KA.out _ hB5 | exact KA.out _ (Below.refl _ _) | go_keep | assumption)
        ((go_at_call 126; refine (spec_gapAfter _ lo _ p j (HP0.out.below (hT5.trans ((Below.drew (Below.refl w5.heap.size w5)).mono hT5.size)) (Nat.le_refl _)) HV.out hj).mono ?_; rintro e w6 ⟨rfl, hB6'⟩; rw [← HGP.out]; have hB6 : Below w5.heap.size w5 w6 := (Below.drew (Below.refl w5.heap.size w5)).trans hB6'))
      have hBF := hB.trans ((KB.out _ hB6).mono hB.size)
      go_wp2
      go_roundw
      case rel => exact ⟨j + 1, HA.out.1, by go_num, by rw [HE.out], HA.out.2, hBF⟩
      case measure => simp [intOf]; omega
    · have dg : decide (gr + gp ≤ s - bg) = false := decide_eq_false hge
      have HE : Hid (stgAt p s = j) := hno.out (by rw [HSU.out]; omega)
      clear hge hat hno
      go_wp2_with fail
      go_region_held3 (fun w' => w'.cell? ⟨w.heap.size, 0, none⟩ = some (.slice aoc p.cl.length capc) ∧ w'.cell? ⟨w.heap.size, 1, none⟩ = some (.slice (some ⟨b, off, none⟩) p.st.length cap) ∧ w'.cell? ⟨b, off + j * 2 + 1, none⟩ = some (.int .i64 gr))
        (first | exact KA.out _ hB5 | exact KA.out _ (Below.refl _ _) | go_keep | assumption)
        ((go_at_call 126; refine (spec_gapAfter _ lo _ p j (HP0.out.below (hT.trans ((Below.drew (Below.refl wr.heap.size wr)).mono hT.size)) (Nat.le_refl _)) HV.out hj).mono ?_; rintro e w5 ⟨rfl, hB5'⟩; rw [← HGP.out]; have hB5 : Below wr.heap.size wr w5 := (Below.drew (Below.refl wr.heap.size wr)).trans hB5'))
      go_wp2
      go_ret2
      exact ⟨by rw [HE.out, ← HBG.out]; rfl, hT.trans (hB5.mono hT.size)⟩
end Go.Proofs.Ytokpgipbgkiepaa
