/- tramGreen, validTram, TramWait, SwitchTime: the reference's. -/
import Derived.Test.YtokpgipbgkiepaaPlT
namespace Go.Proofs.Ytokpgipbgkiepaa
open Go.RowKit
set_option linter.unusedVariables false
set_option linter.unusedSimpArgs false

set_option maxHeartbeats 8000000 in
theorem spec_tramGreen (w : World) (lo : Nat) (vp : Value) (p : Pln) (st : Nat) (s : Int) (hp : PlanR w lo vp p) (hval : validP p = true) (hst : st < p.st.length) (hs0 : 0 ≤ s) (hs1 : s ≤ 1000000) :
    Calls Try.prog 112 #[vp, .int .i64 st, .int .i64 s] w fun e w' => e = .returned (.bool (tgr p st s)) ∧ Below w.heap.size w w' := by
  have hp0 := hp
  obtain ⟨vc, vs, rfl, hc, hs⟩ := hp
  obtain ⟨ao, cap, rfl, hcap, hm⟩ := hs.form
  obtain ⟨aoc, capc, rfl, hcapc, hmc⟩ := hc.form
  obtain ⟨b, off, rfl, _, hb, hx⟩ := hs.spot (by omega)
  have c1w := (hx st hst).1
  have HP0 := Lib.hid hp0
  have HV := Lib.hid hval
  obtain ⟨w0, hw0, hB0, x0, x1, hz0⟩ := plan_box w (.slice aoc p.cl.length capc) (.slice (some ⟨b, off, none⟩) p.st.length cap)
  have HB0 := Lib.hid hB0
  have hst0 : (0 : Int) ≤ (st : Int) := by omega
  have hst1 : (st : Int) < (p.st.length : Int) := by omega
  have hcb := cyc_bd hval
  obtain ⟨k1, k2, k3, k4, k5, k6⟩ := st_nums hval hst
  have htg := tgr_stg hval hst hs0
  have c1 := (hB0.cell (p := ⟨b, off + st * 2 + 1, none⟩) hb).trans c1w
  have hb0 : b < w0.heap.size := Nat.lt_of_lt_of_le hb hB0.size
  have g0 := Int.emod_nonneg s (show cyc p ≠ 0 by omega)
  have g1 := Int.emod_lt_of_pos s (show 0 < cyc p by omega)
  have hbs := beg_bd hval (stgAt p (s % cyc p)) (by have := (stgAt_spec hval g0 g1).1; omega)
  have hsl := (stgAt_spec hval g0 g1).1
  obtain ⟨c, hcc⟩ : ∃ c, c = cyc p := ⟨_, rfl⟩
  rw [← hcc] at hcb htg g0 g1 hbs hsl
  have t1 : s.tmod c = s % c := Int.tmod_eq_emod_of_nonneg (by omega)
  obtain ⟨m, hmm⟩ : ∃ m, m = s % c := ⟨_, rfl⟩
  rw [← hmm] at htg g0 g1 t1 hbs hsl
  have e0 : s % c = m := hmm.symm
  have HG1 : Hid (0 ≤ m ∧ m < cyc p) := by unfold Hid; rw [← hcc]; exact ⟨g0, g1⟩
  obtain ⟨c5, c225⟩ := hcb
  have m4 : ¬ c = 0 := by omega
  have HCC := Lib.hid hcc
  obtain ⟨si, hsi⟩ : ∃ si, si = stgAt p m := ⟨_, rfl⟩
  rw [← hsi] at htg hbs hsl
  obtain ⟨bg, hbg⟩ : ∃ bg, bg = beg p si := ⟨_, rfl⟩
  rw [← hbg] at htg hbs
  have HSI := Lib.hid hsi
  have HBG : Hid (bg = beg p (stgAt p m)) := by unfold Hid; rw [← hsi]; exact hbg
  have HTG := Lib.hid htg
  have keepA : ∀ W, Below w0.heap.size w0 W → (W.cell? ⟨w.heap.size, 0, none⟩ = some (.slice aoc p.cl.length capc) ∧ W.cell? ⟨w.heap.size, 1, none⟩ = some (.slice (some ⟨b, off, none⟩) p.st.length cap) ∧ W.cell? ⟨b, off + st * 2 + 1, none⟩ = some (.int .i64 (p.st.getD st s0).gr)) := fun W h => ⟨(h.cell (p := ⟨w.heap.size, 0, none⟩) hz0).trans x0, (h.cell (p := ⟨w.heap.size, 1, none⟩) hz0).trans x1, (h.cell (p := ⟨b, off + st * 2 + 1, none⟩) hb0).trans c1⟩
  have KA := Lib.hid keepA
  clear hp0 hc hs hx hval c1w hB0 htg hcc hmm hsi hbg keepA
  go_enter Try.func112, Try.ntmps112
  go_wp2_with fail
  rw [← hw0]
  clear hw0
  go_region_held3 (fun w' => w'.cell? ⟨w.heap.size, 0, none⟩ = some (.slice aoc p.cl.length capc) ∧ w'.cell? ⟨w.heap.size, 1, none⟩ = some (.slice (some ⟨b, off, none⟩) p.st.length cap))
    (first | exact ⟨(KA.out _ hB6).1, (KA.out _ hB6).2.1⟩ | exact ⟨(KA.out _ hB5).1, (KA.out _ hB5).2.1⟩ | exact ⟨(KA.out _ (Below.refl _ _)).1, (KA.out _ (Below.refl _ _)).2.1⟩ | go_keep | assumption)
    ((first
      | (go_at_call 116; refine (spec_cycle _ lo _ p (HP0.out.below (HB0.out.trans ((Below.drew (Below.refl w0.heap.size w0)).mono HB0.out.size)) (Nat.le_refl _)) HV.out).mono ?_; rintro e w5 ⟨rfl, hB5'⟩; rw [← HCC.out]; have hB5 : Below w0.heap.size w0 w5 := (Below.drew (Below.refl w0.heap.size w0)).trans hB5'; have hT5 : Below w.heap.size w w5 := HB0.out.trans (hB5.mono HB0.out.size))
      | (go_at_call 124; refine (spec_stageAt _ lo _ p m (HP0.out.below hT5 (Nat.le_refl _)) HV.out HG1.out.1 HG1.out.2).mono ?_; rintro e w6 ⟨rfl, hB6'⟩; rw [← HSI.out, show beg p si = bg by rw [HBG.out, ← HSI.out]]; have hB6 : Below w0.heap.size w0 w6 := hB5.trans (hB6'.mono hB5.size))))
  obtain ⟨v0, v1, v2⟩ := KA.out _ hB6
  have hT6 := HB0.out.trans (hB6.mono HB0.out.size)
  clear x0 x1 c1
  by_cases hss : si = st
  · subst hss
    have d1 : (si == si) = true := by simp
    have d2 : ((si : Int) == (si : Int)) = true := by simp
    obtain ⟨gr, hgr⟩ : ∃ gr, gr = (p.st.getD si s0).gr := ⟨_, rfl⟩
    rw [← hgr] at v2 k4 k5 k6
    have HT : Hid (tgr p si s = decide (m - bg < gr)) := by unfold Hid; rw [← HTG.out, hgr]; simp
    clear hgr
    by_cases hlt : m - bg < gr
    · have dl : decide (m - bg < gr) = true := decide_eq_true hlt
      have HE : Hid (tgr p si s = true) := by unfold Hid; rw [HT.out, dl]
      clear hlt HT
      go_wp2_with fail
      go_ret
      exact ⟨ret_B HE, hT6⟩
    · have dl : decide (m - bg < gr) = false := decide_eq_false hlt
      have HE : Hid (tgr p si s = false) := by unfold Hid; rw [HT.out, dl]
      clear hlt HT
      go_wp2_with fail
      go_ret
      exact ⟨ret_B HE, hT6⟩
  · have d1 : (si == st) = false := by simp [hss]
    have d2 : ((si : Int) == (st : Int)) = false := by simp; omega
    have HE : Hid (tgr p st s = false) := by unfold Hid; rw [← HTG.out]; simp [hss]
    clear hss
    go_wp2_with fail
    go_ret
    exact ⟨ret_B HE, hT6⟩

set_option maxHeartbeats 4000000 in
theorem spec_validTram (w : World) (lo : Nat) (vp : Value) (p : Pln) (st s : Int) (hp : PlanR w lo vp p) :
    Calls Try.prog 79 #[vp, .int .i64 st, .int .i64 s] w fun e w' => e = .returned (.bool (vTram p st s)) ∧ Below w.heap.size w w' := by
  have hp0 := hp
  obtain ⟨vc, vs, rfl, hc, hs⟩ := hp
  obtain ⟨ao, cap, rfl, hcap, hm⟩ := hs.form
  obtain ⟨aoc, capc, rfl, hcapc, hmc⟩ := hc.form
  have HP0 := Lib.hid hp0
  obtain ⟨w0, hw0, hB0, x0, x1, hz0⟩ := plan_box w (.slice aoc p.cl.length capc) (.slice ao p.st.length cap)
  have HB0 := Lib.hid hB0
  clear hp0 hc hs hB0
  have wr1 : IntKind.i64.wrap ((p.st.length : Int) - 1) = (p.st.length : Int) - 1 := IntWalk.i64_in _ (by omega)
  cases hval : validP p
  · have HN : Hid (vTram p st s = false) := by unfold Hid vTram; rw [hval]; rfl
    go_enter Try.func79, Try.ntmps79
    go_wp2_with fail
    rw [← hw0]
    clear hw0
    refine (spec_validPlan _ lo _ p (HP0.out.below HB0.out (Nat.le_refl _))).mono ?_; rintro e w1 ⟨rfl, hB1⟩
    rw [hval]
    clear hval
    go_wp2_with fail
    go_ret
    exact ⟨ret_B HN, HB0.out.trans (hB1.mono HB0.out.size)⟩
  · cases hin : inR st 0 ((p.st.length : Int) - 1)
    · have HN : Hid (vTram p st s = false) := by unfold Hid vTram; rw [hin]; simp
      have dn : (decide (0 ≤ st) && decide (st ≤ (p.st.length : Int) - 1)) = false := hin
      clear hin
      go_enter Try.func79, Try.ntmps79
      go_wp2_with fail
      rw [← hw0]
      clear hw0
      refine (spec_validPlan _ lo _ p (HP0.out.below HB0.out (Nat.le_refl _))).mono ?_; rintro e w1 ⟨rfl, hB1⟩
      rw [hval]
      clear hval
      have u1 := (hB1.cell (p := ⟨w.heap.size, 1, none⟩) hz0).trans x1
      clear x0 x1
      go_wp2_with (go_at_call 90; with_reducible refine (inRange_dec st 0 ((p.st.length : Int) - 1) false _ dn).mono ?_; rintro e' w2 ⟨rfl, rfl⟩)
      go_ret
      exact ⟨ret_B HN, HB0.out.trans (hB1.mono HB0.out.size)⟩
    · have hN : vTram p st s = inR s 0 9999 := by unfold vTram; rw [hval, hin]; rfl
      have HN := Lib.hid hN
      have dn : (decide (0 ≤ st) && decide (st ≤ (p.st.length : Int) - 1)) = true := hin
      have dn2 : (decide (0 ≤ s) && decide (s ≤ 9999)) = inR s 0 9999 := rfl
      obtain ⟨bb, hbb⟩ : ∃ bb, bb = inR s 0 9999 := ⟨_, rfl⟩
      rw [← hbb] at dn2 HN
      clear hin hN hbb
      go_enter Try.func79, Try.ntmps79
      go_wp2_with fail
      rw [← hw0]
      clear hw0
      refine (spec_validPlan _ lo _ p (HP0.out.below HB0.out (Nat.le_refl _))).mono ?_; rintro e w1 ⟨rfl, hB1⟩
      rw [hval]
      clear hval
      have u1 := (hB1.cell (p := ⟨w.heap.size, 1, none⟩) hz0).trans x1
      clear x0 x1
      go_wp2_with (first | (go_at_call 90; with_reducible refine (inRange_dec st 0 ((p.st.length : Int) - 1) true _ dn).mono ?_; rintro e' w2 ⟨rfl, rfl⟩) | (go_at_call 90; with_reducible refine (inRange_dec s 0 9999 bb _ dn2).mono ?_; rintro e' w2 ⟨rfl, rfl⟩))
      go_ret
      exact ⟨ret_B HN, HB0.out.trans (hB1.mono HB0.out.size)⟩

set_option maxHeartbeats 4000000 in
theorem spec_tramWait (w : World) (lo : Nat) (vp : Value) (p : Pln) (st s : Int) (hp : PlanR w lo vp p) :
    Calls Try.prog 81 #[vp, .int .i64 st, .int .i64 s] w fun e w' => e = .returned (.int .i64 (twO p st s)) ∧ Below w.heap.size w w' := by
  have hp0 := hp
  obtain ⟨vc, vs, rfl, hc, hs⟩ := hp
  obtain ⟨ao, cap, rfl, hcap, hm⟩ := hs.form
  obtain ⟨aoc, capc, rfl, hcapc, hmc⟩ := hc.form
  have HP0 := Lib.hid hp0
  obtain ⟨w0, hw0, hB0, x0, x1, hz0⟩ := plan_box w (.slice aoc p.cl.length capc) (.slice ao p.st.length cap)
  have HB0 := Lib.hid hB0
  clear hp0 hc hs hB0
  cases hval : vTram p st s
  · have HN : Hid (twO p st s = -1) := by unfold Hid twO; rw [if_neg (by rw [hval]; decide)]
    go_enter Try.func81, Try.ntmps81
    go_wp2_with fail
    rw [← hw0]
    clear hw0
    refine (spec_validTram _ lo _ p st s (HP0.out.below HB0.out (Nat.le_refl _))).mono ?_; rintro e w1 ⟨rfl, hB1⟩
    rw [hval]
    clear hval
    go_wp2_with fail
    go_ret
    exact ⟨ret_H HN, HB0.out.trans (hB1.mono HB0.out.size)⟩
  · have hv := hval
    unfold vTram at hv
    rw [Bool.and_eq_true, Bool.and_eq_true, inR_iff, inR_iff] at hv
    obtain ⟨⟨hv1, hv2⟩, hv3⟩ := hv
    obtain ⟨st, rfl⟩ := Int.eq_ofNat_of_zero_le hv2.1
    have HN : Hid (twO p st s = tw p st s) := by unfold Hid twO; rw [if_pos hval, Int.toNat_natCast]
    have hst : st < p.st.length := by omega
    obtain ⟨s00, s99⟩ := hv3
    have htw := tw_bd hv1 hst s00
    have hcb := cyc_bd hv1
    have HAT : Hid (∀ k : Nat, (k : Int) ≤ tw p st s → tgr p st (s + k) = decide ((k : Int) = tw p st s)) := fun k hk => tw_at hv1 hst s00 (by omega) hk
    obtain ⟨T, hT⟩ := Int.eq_ofNat_of_zero_le htw.1
    rw [hT] at htw HAT HN
    have hT225 : T ≤ 225 := by omega
    have HV := Lib.hid hv1
    clear hv1 hcb htw hT hv2
    go_enter Try.func81, Try.ntmps81
    go_wp2_with fail
    rw [← hw0]
    clear hw0
    refine (spec_validTram _ lo _ p st s (HP0.out.below HB0.out (Nat.le_refl _))).mono ?_; rintro e w1 ⟨rfl, hB1⟩
    rw [hval]
    clear hval
    go_wp2_with fail
    go_loopw [7] (fun nv wo => ∃ k : Nat, k ≤ T ∧ nv = .int .i64 k ∧ Below w0.heap.size w0 wo) (fun nv _ => T - (intOf nv).toNat)
    case atStart => exact ⟨0, Nat.zero_le _, rfl, hB1⟩
    case round =>
      clear hB1
      obtain ⟨k, hk, rfl, hB⟩ := hrel
      have hT := HB0.out.trans (hB.mono HB0.out.size)
      have u0 := (hB.cell (p := ⟨w.heap.size, 0, none⟩) hz0).trans x0
      have u1 := (hB.cell (p := ⟨w.heap.size, 1, none⟩) hz0).trans x1
      have hat := HAT.out k (by omega)
      have wr1 : IntKind.i64.wrap (s + (k : Int)) = s + (k : Int) := IntWalk.i64_in _ (by omega)
      by_cases hkT : k < T
      · rw [decide_eq_false (by omega)] at hat
        have HATK := Lib.hid hat
        clear hat
        go_wp2_with fail
        refine (spec_tramGreen _ lo _ p st (s + k) (HP0.out.below hT (Nat.le_refl _)) HV.out hst (by omega) (by omega)).mono ?_
        rintro e w2 ⟨rfl, hB2⟩
        rw [HATK.out]
        have hB3 := hB.trans (hB2.mono hB.size)
        clear u0 u1 hB hT hB2
        go_wp2_with fail
        go_roundw
        case rel => exact ⟨k + 1, by omega, by go_num, hB3⟩
        case measure => simp [intOf]; omega
      · obtain rfl : k = T := by omega
        rw [decide_eq_true rfl] at hat
        have HATK := Lib.hid hat
        clear hat
        go_wp2_with fail
        refine (spec_tramGreen _ lo _ p st (s + k) (HP0.out.below hT (Nat.le_refl _)) HV.out hst (by omega) (by omega)).mono ?_
        rintro e w2 ⟨rfl, hB2⟩
        rw [HATK.out]
        have hB3 := hT.trans (hB2.mono hT.size)
        clear u0 u1 hB hT hB2
        go_wp2_with fail
        go_ret
        exact ⟨ret_H HN, hB3⟩

set_option maxHeartbeats 4000000 in
theorem spec_switchTime (w : World) (lo : Nat) (vp : Value) (p : Pln) (f : Int) (hp : PlanR w lo vp p) :
    Calls Try.prog 92 #[vp, .int .i64 f] w fun e w' => e = .returned (.int .i64 (swT p f)) ∧ Below w.heap.size w w' := by
  have hp0 := hp
  obtain ⟨vc, vs, rfl, hc, hs⟩ := hp
  obtain ⟨ao, cap, rfl, hcap, hm⟩ := hs.form
  obtain ⟨aoc, capc, rfl, hcapc, hmc⟩ := hc.form
  have HP0 := Lib.hid hp0
  obtain ⟨w0, hw0, hB0, x0, x1, hz0⟩ := plan_box w (.slice aoc p.cl.length capc) (.slice ao p.st.length cap)
  have HB0 := Lib.hid hB0
  clear hp0 hc hs hB0
  cases hval : validP p
  · have HN : Hid (swT p f = -1) := by unfold Hid swT; rw [if_neg (by rw [hval]; simp)]
    go_enter Try.func92, Try.ntmps92
    go_wp2_with fail
    rw [← hw0]
    clear hw0
    refine (spec_validPlan _ lo _ p (HP0.out.below HB0.out (Nat.le_refl _))).mono ?_; rintro e w1 ⟨rfl, hB1⟩
    rw [hval]
    clear hval
    go_wp2_with fail
    go_ret
    exact ⟨ret_H HN, HB0.out.trans (hB1.mono HB0.out.size)⟩
  · have HV := Lib.hid hval
    cases hin : inR f 0 9999
    · have HN : Hid (swT p f = -1) := by unfold Hid swT; rw [if_neg (by rw [hin]; simp)]
      have dn : (decide (0 ≤ f) && decide (f ≤ 9999)) = false := hin
      clear hin
      go_enter Try.func92, Try.ntmps92
      go_wp2_with fail
      rw [← hw0]
      clear hw0
      refine (spec_validPlan _ lo _ p (HP0.out.below HB0.out (Nat.le_refl _))).mono ?_; rintro e w1 ⟨rfl, hB1⟩
      rw [hval]
      clear hval
      go_wp2_with (go_at_call 90; with_reducible refine (inRange_dec f 0 9999 false _ dn).mono ?_; rintro e' w2 ⟨rfl, rfl⟩)
      go_ret
      exact ⟨ret_H HN, HB0.out.trans (hB1.mono HB0.out.size)⟩
    · have hN : swT p f = swt (cyc p) f := by unfold swT; rw [if_pos ⟨hval, hin⟩]
      have HN := Lib.hid hN
      have dn : (decide (0 ≤ f) && decide (f ≤ 9999)) = true := hin
      have hf := inR_iff.1 hin
      obtain ⟨f0, f1⟩ := hf
      clear hin hN
      go_enter Try.func92, Try.ntmps92
      go_wp2_with fail
      rw [← hw0]
      clear hw0
      refine (spec_validPlan _ lo _ p (HP0.out.below HB0.out (Nat.le_refl _))).mono ?_; rintro e w1 ⟨rfl, hB1⟩
      rw [hval]
      clear hval
      have u0 := (hB1.cell (p := ⟨w.heap.size, 0, none⟩) hz0).trans x0
      have u1 := (hB1.cell (p := ⟨w.heap.size, 1, none⟩) hz0).trans x1
      have hT := HB0.out.trans (hB1.mono HB0.out.size)
      clear x0 x1
      go_wp2_with (go_at_call 90; with_reducible refine (inRange_dec f 0 9999 true _ dn).mono ?_; rintro e' w2 ⟨rfl, rfl⟩)
      refine (spec_cycle _ lo _ p (HP0.out.below hT (Nat.le_refl _)) HV.out).mono ?_
      rintro e w5 ⟨rfl, hB5⟩
      have hbd := cyc_bd HV.out
      have hsw := swt_bd hbd.1 f0
      have hdf : swt (cyc p) f = (f + cyc p - 1) / cyc p * cyc p := rfl
      obtain ⟨c, hcc⟩ : ∃ c, c = cyc p := ⟨_, rfl⟩
      rw [← hcc] at hbd hsw hdf HN ⊢
      obtain ⟨c5, c225⟩ := hbd
      have q1 : (f + c - 1).tdiv c = (f + c - 1) / c := Int.tdiv_eq_ediv_of_nonneg (by omega)
      have wr1 : IntKind.i64.wrap (f + c) = f + c := IntWalk.i64_in _ (by omega)
      have wr2 : IntKind.i64.wrap (f + c - 1) = f + c - 1 := IntWalk.i64_in _ (by omega)
      have wr3 : IntKind.i64.wrap ((f + c - 1) / c * c) = (f + c - 1) / c * c := by
        rw [← hdf]; exact IntWalk.i64_in _ (by omega)
      have hd0 : 0 ≤ (f + c - 1) / c := Int.ediv_nonneg (by omega) (by omega)
      have hd1 : (f + c - 1) / c ≤ f + c - 1 := Int.ediv_le_self _ (by omega)
      have wr4 : IntKind.i64.wrap ((f + c - 1) / c) = (f + c - 1) / c := IntWalk.i64_in _ (by omega)
      have m4 : ¬ c = 0 := by omega
      have HDF := Lib.hid hdf
      obtain ⟨hsw1, hsw2, _⟩ := hsw
      clear hdf hcc hd1
      go_wp2
      go_ret
      exact ⟨ret_int (by rw [HN.out, HDF.out]), hT.trans (hB5.mono hT.size)⟩
end Go.Proofs.Ytokpgipbgkiepaa
