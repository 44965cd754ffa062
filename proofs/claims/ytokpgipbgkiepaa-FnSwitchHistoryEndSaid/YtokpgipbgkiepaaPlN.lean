/- CycleOf, SwitchTime, tramWait, validTram, TramWait: the program's. -/
import Derived.Test.YtokpgipbgkiepaaPlM
import Derived.Test.YtokpgipbgkiepaaPl2
namespace Go.Proofs.Ytokpgipbgkiepaa
open Go.RowKit
set_option linter.unusedVariables false
set_option linter.unusedSimpArgs false

theorem ret_H {k : IntKind} {a b : Int} (h : Hid (a = b)) : Ending.returned (.int k b) = .returned (.int k a) := by rw [h.out]
theorem ret_B {a b : Bool} (h : Hid (a = b)) : Ending.returned (.bool b) = .returned (.bool a) := by rw [h.out]
def cycO (p : Pln) : Int := if validP p = true then cyc p else -1
def swT (p : Pln) (f : Int) : Int := if validP p = true ∧ inR f 0 9999 = true then swt (cyc p) f else -1

set_option maxHeartbeats 4000000 in
theorem impl_cycleOf (w : World) (lo : Nat) (vp : Value) (p : Pln) (hp : PlanR w lo vp p) :
    Calls Try.prog 33 #[vp] w fun e w' => e = .returned (.int .i64 (cycO p)) ∧ Below w.heap.size w w' := by
  have hp0 := hp
  obtain ⟨vc, vs, rfl, hc, hs⟩ := hp
  obtain ⟨ao, cap, rfl, hcap, hm⟩ := hs.form
  obtain ⟨aoc, capc, rfl, hcapc, hmc⟩ := hc.form
  have HP0 := Lib.hid hp0
  obtain ⟨w0, hw0, hB0, x0, x1, hz0⟩ := plan_box w (.slice aoc p.cl.length capc) (.slice ao p.st.length cap)
  have HB0 := Lib.hid hB0
  clear hp0 hc hs hB0
  cases hval : validP p
  · have HN : Hid (cycO p = -1) := by unfold Hid cycO; rw [if_neg (by rw [hval]; decide)]
    go_enter Try.func33, Try.ntmps33
    go_wp2_with fail
    rw [← hw0]
    clear hw0
    refine (impl_validPlan _ lo _ p (HP0.out.below HB0.out (Nat.le_refl _))).mono ?_; rintro e w1 ⟨rfl, hB1⟩
    rw [hval]
    clear hval
    go_wp2_with fail
    go_ret
    exact ⟨ret_H HN, HB0.out.trans (hB1.mono HB0.out.size)⟩
  · have HN : Hid (cycO p = cyc p) := by unfold Hid cycO; rw [if_pos hval]
    have HV := Lib.hid hval
    go_enter Try.func33, Try.ntmps33
    go_wp2_with fail
    rw [← hw0]
    clear hw0
    refine (impl_validPlan _ lo _ p (HP0.out.below HB0.out (Nat.le_refl _))).mono ?_; rintro e w1 ⟨rfl, hB1⟩
    rw [hval]
    clear hval
    have u0 := (hB1.cell (p := ⟨w.heap.size, 0, none⟩) hz0).trans x0
    have u1 := (hB1.cell (p := ⟨w.heap.size, 1, none⟩) hz0).trans x1
    have hT := HB0.out.trans (hB1.mono HB0.out.size)
    clear x0 x1
    go_wp2_with fail
    refine (plan_cycle _ lo _ p (HP0.out.below hT (Nat.le_refl _)) HV.out).mono ?_
    rintro e w5 ⟨rfl, hB5⟩
    go_wp2
    go_ret
    exact ⟨ret_H HN, hT.trans (hB5.mono hT.size)⟩

set_option maxHeartbeats 4000000 in
theorem impl_switchTime (w : World) (lo : Nat) (vp : Value) (p : Pln) (f : Int) (hp : PlanR w lo vp p) :
    Calls Try.prog 40 #[vp, .int .i64 f] w fun e w' => e = .returned (.int .i64 (swT p f)) ∧ Below w.heap.size w w' := by
  have hp0 := hp
  obtain ⟨vc, vs, rfl, hc, hs⟩ := hp
  obtain ⟨ao, cap, rfl, hcap, hm⟩ := hs.form
  obtain ⟨aoc, capc, rfl, hcapc, hmc⟩ := hc.form
  have HP0 := Lib.hid hp0
  obtain ⟨w0, hw0, hB0, x0, x1, hz0⟩ := plan_box w (.slice aoc p.cl.length capc) (.slice ao p.st.length cap)
  have HB0 := Lib.hid hB0
  clear hp0 hc hs hB0
  cases hval : validP p
  · have HN : Hid (swT p f = -1) := by unfold Hid swT; rw [if_neg (by rw [hval]; simp)]
    go_enter Try.func40, Try.ntmps40
    go_wp2_with fail
    rw [← hw0]
    clear hw0
    refine (impl_validPlan _ lo _ p (HP0.out.below HB0.out (Nat.le_refl _))).mono ?_; rintro e w1 ⟨rfl, hB1⟩
    rw [hval]
    clear hval
    go_wp2_with fail
    go_ret
    exact ⟨ret_H HN, HB0.out.trans (hB1.mono HB0.out.size)⟩
  · have HV := Lib.hid hval
    cases hin : inR f 0 9999
    · have HN : Hid (swT p f = -1) := by unfold Hid swT; rw [if_neg (by rw [hin]; simp)]
      have dn : (decide (0 ≤ f) && decide (f ≤ 9999)) = false := hin
      clear hin
      go_enter Try.func40, Try.ntmps40
      go_wp2_with fail
      rw [← hw0]
      clear hw0
      refine (impl_validPlan _ lo _ p (HP0.out.below HB0.out (Nat.le_refl _))).mono ?_; rintro e w1 ⟨rfl, hB1⟩
      rw [hval]
      clear hval
      go_wp2_with (go_at_call 63; with_reducible refine (within_dec f 0 9999 false _ dn).mono ?_; rintro e' w2 ⟨rfl, rfl⟩)
      go_ret
      exact ⟨ret_H HN, HB0.out.trans (hB1.mono HB0.out.size)⟩
    · have hN : swT p f = swt (cyc p) f := by unfold swT; rw [if_pos ⟨hval, hin⟩]
      have HN := Lib.hid hN
      have dn : (decide (0 ≤ f) && decide (f ≤ 9999)) = true := hin
      have hf := inR_iff.1 hin
      obtain ⟨f0, f1⟩ := hf
      clear hin hN
      go_enter Try.func40, Try.ntmps40
      go_wp2_with fail
      rw [← hw0]
      clear hw0
      refine (impl_validPlan _ lo _ p (HP0.out.below HB0.out (Nat.le_refl _))).mono ?_; rintro e w1 ⟨rfl, hB1⟩
      rw [hval]
      clear hval
      have u0 := (hB1.cell (p := ⟨w.heap.size, 0, none⟩) hz0).trans x0
      have u1 := (hB1.cell (p := ⟨w.heap.size, 1, none⟩) hz0).trans x1
      have hT := HB0.out.trans (hB1.mono HB0.out.size)
      clear x0 x1
      go_wp2_with (go_at_call 63; with_reducible refine (within_dec f 0 9999 true _ dn).mono ?_; rintro e' w2 ⟨rfl, rfl⟩)
      refine (plan_cycle _ lo _ p (HP0.out.below hT (Nat.le_refl _)) HV.out).mono ?_
      rintro e w5 ⟨rfl, hB5⟩
      have hbd := cyc_bd HV.out
      have hsw := swt_bd hbd.1 f0
      have hdf : swt (cyc p) f = (f + cyc p - 1) / cyc p * cyc p := rfl
      obtain ⟨c, hcc⟩ : ∃ c, c = cyc p := ⟨_, rfl⟩
      rw [← hcc] at hbd hsw hdf HN ⊢
      obtain ⟨c5, c225⟩ := hbd
      have q1 : (f + c - 1).tdiv c = (f + c - 1) / c := Int.tdiv_eq_ediv_of_nonneg (by omega)
      have wr1 : IntKind.i64.wrap (f + c) = f + c := IntWalk.i64_in _ (by omega)
      have wr2 : IntKind.i64.wrap (f + c - 1) = f + c - 1 := IntWalk.i64_in _ (by omega)
      have wr3 : IntKind.i64.wrap ((f + c - 1) / c * c) = (f + c - 1) / c * c := by
        rw [← hdf]; exact IntWalk.i64_in _ (by omega)
      have hd0 : 0 ≤ (f + c - 1) / c := Int.ediv_nonneg (by omega) (by omega)
      have hd1 : (f + c - 1) / c ≤ f + c - 1 := Int.ediv_le_self _ (by omega)
      have wr4 : IntKind.i64.wrap ((f + c - 1) / c) = (f + c - 1) / c := IntWalk.i64_in _ (by omega)
      have m4 : ¬ c = 0 := by omega
      have HDF := Lib.hid hdf
      obtain ⟨hsw1, hsw2, _⟩ := hsw
      clear hdf hcc hd1
      go_wp2
      go_ret
      exact ⟨ret_int (by rw [HN.out, HDF.out]), hT.trans (hB5.mono hT.size)⟩

/-! The tram. -/
def vTram (p : Pln) (st s : Int) : Bool := validP p && inR st 0 ((p.st.length : Int) - 1) && inR s 0 9999
set_option maxHeartbeats 4000000 in
theorem impl_validTram (w : World) (lo : Nat) (vp : Value) (p : Pln) (st s : Int) (hp : PlanR w lo vp p) :
    Calls Try.prog 74 #[vp, .int .i64 st, .int .i64 s] w fun e w' => e = .returned (.bool (vTram p st s)) ∧ Below w.heap.size w w' := by
  have hp0 := hp
  obtain ⟨vc, vs, rfl, hc, hs⟩ := hp
  obtain ⟨ao, cap, rfl, hcap, hm⟩ := hs.form
  obtain ⟨aoc, capc, rfl, hcapc, hmc⟩ := hc.form
  have HP0 := Lib.hid hp0
  obtain ⟨w0, hw0, hB0, x0, x1, hz0⟩ := plan_box w (.slice aoc p.cl.length capc) (.slice ao p.st.length cap)
  have HB0 := Lib.hid hB0
  clear hp0 hc hs hB0
  have wr1 : IntKind.i64.wrap ((p.st.length : Int) - 1) = (p.st.length : Int) - 1 := IntWalk.i64_in _ (by omega)
  cases hval : validP p
  · have HN : Hid (vTram p st s = false) := by unfold Hid vTram; rw [hval]; rfl
    go_enter Try.func74, Try.ntmps74
    go_wp2_with fail
    rw [← hw0]
    clear hw0
    refine (impl_validPlan _ lo _ p (HP0.out.below HB0.out (Nat.le_refl _))).mono ?_; rintro e w1 ⟨rfl, hB1⟩
    rw [hval]
    clear hval
    go_wp2_with fail
    go_ret
    exact ⟨ret_B HN, HB0.out.trans (hB1.mono HB0.out.size)⟩
  · cases hin : inR st 0 ((p.st.length : Int) - 1)
    · have HN : Hid (vTram p st s = false) := by unfold Hid vTram; rw [hin]; simp
      have dn : (decide (0 ≤ st) && decide (st ≤ (p.st.length : Int) - 1)) = false := hin
      clear hin
      go_enter Try.func74, Try.ntmps74
      go_wp2_with fail
      rw [← hw0]
      clear hw0
      refine (impl_validPlan _ lo _ p (HP0.out.below HB0.out (Nat.le_refl _))).mono ?_; rintro e w1 ⟨rfl, hB1⟩
      rw [hval]
      clear hval
      have u1 := (hB1.cell (p := ⟨w.heap.size, 1, none⟩) hz0).trans x1
      clear x0 x1
      go_wp2_with (go_at_call 63; with_reducible refine (within_dec st 0 ((p.st.length : Int) - 1) false _ dn).mono ?_; rintro e' w2 ⟨rfl, rfl⟩)
      go_ret
      exact ⟨ret_B HN, HB0.out.trans (hB1.mono HB0.out.size)⟩
    · have hN : vTram p st s = inR s 0 9999 := by unfold vTram; rw [hval, hin]; rfl
      have HN := Lib.hid hN
      have dn : (decide (0 ≤ st) && decide (st ≤ (p.st.length : Int) - 1)) = true := hin
      have dn2 : (decide (0 ≤ s) && decide (s ≤ 9999)) = inR s 0 9999 := rfl
      obtain ⟨bb, hbb⟩ : ∃ bb, bb = inR s 0 9999 := ⟨_, rfl⟩
      rw [← hbb] at dn2 HN
      clear hin hN hbb
      go_enter Try.func74, Try.ntmps74
      go_wp2_with fail
      rw [← hw0]
      clear hw0
      refine (impl_validPlan _ lo _ p (HP0.out.below HB0.out (Nat.le_refl _))).mono ?_; rintro e w1 ⟨rfl, hB1⟩
      rw [hval]
      clear hval
      have u1 := (hB1.cell (p := ⟨w.heap.size, 1, none⟩) hz0).trans x1
      clear x0 x1
      go_wp2_with (first | (go_at_call 63; with_reducible refine (within_dec st 0 ((p.st.length : Int) - 1) true _ dn).mono ?_; rintro e' w2 ⟨rfl, rfl⟩) | (go_at_call 63; with_reducible refine (within_dec s 0 9999 bb _ dn2).mono ?_; rintro e' w2 ⟨rfl, rfl⟩))
      go_ret
      exact ⟨ret_B HN, HB0.out.trans (hB1.mono HB0.out.size)⟩

set_option maxHeartbeats 4000000 in
theorem plan_tramWait (w : World) (lo : Nat) (vp : Value) (p : Pln) (st : Nat) (s : Int) (hp : PlanR w lo vp p) (hval : validP p = true) (hst : st < p.st.length) (hs0 : 0 ≤ s) (hs1 : s ≤ 1000000) :
    Calls Try.prog 77 #[vp, .int .i64 st, .int .i64 s] w fun e w' => e = .returned (.int .i64 (tw p st s)) ∧ Below w.heap.size w w' := by
  have hp0 := hp
  obtain ⟨vc, vs, rfl, hc, hs⟩ := hp
  obtain ⟨ao, cap, rfl, hcap, hm⟩ := hs.form
  obtain ⟨aoc, capc, rfl, hcapc, hmc⟩ := hc.form
  obtain ⟨b, off, rfl, _, hb, hx⟩ := hs.spot (by omega)
  have c1w := (hx st hst).1
  have HP0 := Lib.hid hp0
  have HV := Lib.hid hval
  obtain ⟨w0, hw0, hB0, x0, x1, hz0⟩ := plan_box w (.slice aoc p.cl.length capc) (.slice (some ⟨b, off, none⟩) p.st.length cap)
  have HB0 := Lib.hid hB0
  have hst0 : (0 : Int) ≤ (st : Int) := by omega
  have hst1 : (st : Int) < (p.st.length : Int) := by omega
  obtain ⟨k1, k2, k3, k4, k5, k6⟩ := st_nums hval hst
  have htw : tw p st s = if (s % cyc p - beg p st + cyc p) % cyc p < (p.st.getD st s0).gr then 0 else cyc p - (s % cyc p - beg p st + cyc p) % cyc p := rfl
  have HCW := Lib.hid c1w
  clear hp0 hc hs hB0 hx c1w hval
  go_enter Try.func77, Try.ntmps77
  go_wp2_with fail
  rw [← hw0]
  clear hw0
  refine (plan_cycle _ lo _ p (HP0.out.below HB0.out (Nat.le_refl _)) HV.out).mono ?_; rintro e w1 ⟨rfl, hB1⟩
  have u0 := (hB1.cell (p := ⟨w.heap.size, 0, none⟩) hz0).trans x0
  have u1 := (hB1.cell (p := ⟨w.heap.size, 1, none⟩) hz0).trans x1
  have hT := HB0.out.trans (hB1.mono HB0.out.size)
  have u2 := (hT.cell (p := ⟨b, off + st * 2 + 1, none⟩) hb).trans HCW.out
  have hz1 : w.heap.size < w1.heap.size := Nat.lt_of_lt_of_le hz0 hB1.size
  have hb1 : b < w1.heap.size := Nat.lt_of_lt_of_le hb hT.size
  clear x0 x1
  obtain ⟨gr, hgr⟩ : ∃ gr, gr = (p.st.getD st s0).gr := ⟨_, rfl⟩
  obtain ⟨bg, hbg⟩ : ∃ bg, bg = beg p st := ⟨_, rfl⟩
  obtain ⟨c, hcc⟩ : ∃ c, c = cyc p := ⟨_, rfl⟩
  rw [← hgr] at u2 k4 k5 k6 htw
  rw [← hbg] at k3 k6 htw
  rw [← hcc] at k1 k2 k6 htw ⊢
  have HBG := Lib.hid hbg
  have g0 := Int.emod_nonneg s (show c ≠ 0 by omega)
  have g1 := Int.emod_lt_of_pos s (show 0 < c by omega)
  have t1 : s.tmod c = s % c := Int.tmod_eq_emod_of_nonneg (by omega)
  obtain ⟨m, hmm⟩ : ∃ m, m = s % c := ⟨_, rfl⟩
  rw [← hmm] at g0 g1 t1 htw
  have g2 := Int.emod_nonneg (m - bg + c) (show c ≠ 0 by omega)
  have g3 := Int.emod_lt_of_pos (m - bg + c) (show 0 < c by omega)
  have t2 : (m - bg + c).tmod c = (m - bg + c) % c := Int.tmod_eq_emod_of_nonneg (by omega)
  obtain ⟨d, hdd⟩ : ∃ d, d = (m - bg + c) % c := ⟨_, rfl⟩
  rw [← hdd] at g2 g3 t2 htw
  have wr1 : IntKind.i64.wrap (m - bg) = m - bg := IntWalk.i64_in _ (by omega)
  have wr2 : IntKind.i64.wrap (m - bg + c) = m - bg + c := IntWalk.i64_in _ (by omega)
  have wr3 : IntKind.i64.wrap (c - d) = c - d := IntWalk.i64_in _ (by omega)
  have e0 : s % c = m := hmm.symm
  have e1 : (m - bg + c) % c = d := hdd.symm
  have m4 : ¬ c = 0 := by omega
  have HTW := Lib.hid htw
  have keepA : ∀ W, Below w1.heap.size w1 W → (W.cell? ⟨w.heap.size, 0, none⟩ = some (.slice aoc p.cl.length capc) ∧ W.cell? ⟨w.heap.size, 1, none⟩ = some (.slice (some ⟨b, off, none⟩) p.st.length cap) ∧ W.cell? ⟨b, off + st * 2 + 1, none⟩ = some (.int .i64 gr)) := fun W h => ⟨(h.cell (p := ⟨w.heap.size, 0, none⟩) hz1).trans u0, (h.cell (p := ⟨w.heap.size, 1, none⟩) hz1).trans u1, (h.cell (p := ⟨b, off + st * 2 + 1, none⟩) hb1).trans u2⟩
  have KA := Lib.hid keepA
  clear hgr hbg hcc hmm hdd htw keepA
  by_cases hlt : d < gr
  · have dl : decide (d < gr) = true := decide_eq_true hlt
    have HL := Lib.hid hlt
    clear hlt
    go_wp2_with fail
    go_region_held3 (fun w' => w'.cell? ⟨w.heap.size, 0, none⟩ = some (.slice aoc p.cl.length capc) ∧ w'.cell? ⟨w.heap.size, 1, none⟩ = some (.slice (some ⟨b, off, none⟩) p.st.length cap) ∧ w'.cell? ⟨b, off + st * 2 + 1, none⟩ = some (.int .i64 gr))
      (first | exact KA.out _ hB5 | exact KA.out _ (Below.refl _ _) | go_keep | assumption)
      ((go_at_call 111; refine (plan_beginOf _ lo _ p st (HP0.out.below (hT.trans ((Below.drew (Below.refl w1.heap.size w1)).mono hT.size)) (Nat.le_refl _)) HV.out (Nat.le_of_lt hst)).mono ?_; rintro e w5 ⟨rfl, hB5'⟩; rw [← HBG.out]; have hB5 : Below w1.heap.size w1 w5 := (Below.drew (Below.refl w1.heap.size w1)).trans hB5'))
    go_wp2
    go_ret
    exact ⟨ret_int (by rw [HTW.out, if_pos HL.out]), hT.trans (hB5.mono hT.size)⟩
  · have dl : decide (d < gr) = false := decide_eq_false hlt
    have HL := Lib.hid hlt
    clear hlt
    go_wp2_with fail
    go_region_held3 (fun w' => w'.cell? ⟨w.heap.size, 0, none⟩ = some (.slice aoc p.cl.length capc) ∧ w'.cell? ⟨w.heap.size, 1, none⟩ = some (.slice (some ⟨b, off, none⟩) p.st.length cap) ∧ w'.cell? ⟨b, off + st * 2 + 1, none⟩ = some (.int .i64 gr))
      (first | exact KA.out _ hB5 | exact KA.out _ (Below.refl _ _) | go_keep | assumption)
      ((go_at_call 111; refine (plan_beginOf _ lo _ p st (HP0.out.below (hT.trans ((Below.drew (Below.refl w1.heap.size w1)).mono hT.size)) (Nat.le_refl _)) HV.out (Nat.le_of_lt hst)).mono ?_; rintro e w5 ⟨rfl, hB5'⟩; rw [← HBG.out]; have hB5 : Below w1.heap.size w1 w5 := (Below.drew (Below.refl w1.heap.size w1)).trans hB5'))
    go_wp2
    go_ret
    exact ⟨ret_int (by rw [HTW.out, if_neg (by have := HL.out; omega)]), hT.trans (hB5.mono hT.size)⟩

def twO (p : Pln) (st s : Int) : Int := if vTram p st s = true then tw p st.toNat s else -1
set_option maxHeartbeats 4000000 in
theorem impl_tramWait (w : World) (lo : Nat) (vp : Value) (p : Pln) (st s : Int) (hp : PlanR w lo vp p) :
    Calls Try.prog 32 #[vp, .int .i64 st, .int .i64 s] w fun e w' => e = .returned (.int .i64 (twO p st s)) ∧ Below w.heap.size w w' := by
  have hp0 := hp
  obtain ⟨vc, vs, rfl, hc, hs⟩ := hp
  obtain ⟨ao, cap, rfl, hcap, hm⟩ := hs.form
  obtain ⟨aoc, capc, rfl, hcapc, hmc⟩ := hc.form
  have HP0 := Lib.hid hp0
  obtain ⟨w0, hw0, hB0, x0, x1, hz0⟩ := plan_box w (.slice aoc p.cl.length capc) (.slice ao p.st.length cap)
  have HB0 := Lib.hid hB0
  clear hp0 hc hs hB0
  cases hval : vTram p st s
  · have HN : Hid (twO p st s = -1) := by unfold Hid twO; rw [if_neg (by rw [hval]; decide)]
    go_enter Try.func32, Try.ntmps32
    go_wp2_with fail
    rw [← hw0]
    clear hw0
    refine (impl_validTram _ lo _ p st s (HP0.out.below HB0.out (Nat.le_refl _))).mono ?_; rintro e w1 ⟨rfl, hB1⟩
    rw [hval]
    clear hval
    go_wp2_with fail
    go_ret
    exact ⟨ret_H HN, HB0.out.trans (hB1.mono HB0.out.size)⟩
  · have HN : Hid (twO p st s = tw p st.toNat s) := by unfold Hid twO; rw [if_pos hval]
    have hv := hval
    unfold vTram at hv
    rw [Bool.and_eq_true, Bool.and_eq_true, inR_iff, inR_iff] at hv
    obtain ⟨⟨hv1, hv2⟩, hv3⟩ := hv
    obtain ⟨st, rfl⟩ := Int.eq_ofNat_of_zero_le hv2.1
    rw [Int.toNat_natCast] at HN
    have HV := Lib.hid hv1
    clear hv1
    go_enter Try.func32, Try.ntmps32
    go_wp2_with fail
    rw [← hw0]
    clear hw0
    refine (impl_validTram _ lo _ p st s (HP0.out.below HB0.out (Nat.le_refl _))).mono ?_; rintro e w1 ⟨rfl, hB1⟩
    rw [hval]
    clear hval
    have u0 := (hB1.cell (p := ⟨w.heap.size, 0, none⟩) hz0).trans x0
    have u1 := (hB1.cell (p := ⟨w.heap.size, 1, none⟩) hz0).trans x1
    have hT := HB0.out.trans (hB1.mono HB0.out.size)
    clear x0 x1
    go_wp2_with fail
    refine (plan_tramWait _ lo _ p st s (HP0.out.below hT (Nat.le_refl _)) HV.out (by omega) hv3.1 (by omega)).mono ?_
    rintro e w5 ⟨rfl, hB5⟩
    go_wp2
    go_ret
    exact ⟨ret_H HN, hT.trans (hB5.mono hT.size)⟩
end Go.Proofs.Ytokpgipbgkiepaa
