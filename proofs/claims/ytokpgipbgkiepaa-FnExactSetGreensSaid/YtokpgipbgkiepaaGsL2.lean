/- FnExactSetGreens: the walk. -/
import Derived.Test.YtokpgipbgkiepaaCp3
import Derived.Test.YtokpgipbgkiepaaGr5
namespace Go.Proofs.Ytokpgipbgkiepaa
open Go.RowKit
set_option linter.unusedVariables false
set_option linter.unusedSimpArgs false

theorem box2 (w : World) (a b : Value) (T : TypeId) : ∃ w0, w0 = w.alloc (.cells #[a, b] T) ∧ Below w.heap.size w w0 ∧ w0.cell? ⟨w.heap.size, 0, none⟩ = some a ∧ w0.cell? ⟨w.heap.size, 1, none⟩ = some b ∧ w.heap.size < w0.heap.size := by
  refine ⟨_, rfl, (Below.refl _ _).alloc (Nat.le_refl _) _, ?_, ?_, by simp⟩
  · rw [cell_of_row _ w.heap.size 0 #[a, b] T (0, 0) (heap_alloc_new w _)]; simp
  · rw [cell_of_row _ w.heap.size 1 #[a, b] T (0, 0) (heap_alloc_new w _)]; simp
theorem PlSm.sg {p : Pln} (h : PlSm p) (gs : List Int) : PlSm (sgP p gs) := by
  unfold sgP
  split
  · exact ⟨h.c, h.r, by rw [wgs_len]; exact h.s, fun i hi => by rw [wgs_len] at hi; rw [wgs_get hi]; exact h.h i hi⟩
  · exact ⟨by simp [p00], fun i hi => by simp [p00] at hi, by simp [p00], fun i hi => by simp [p00] at hi⟩
set_option maxHeartbeats 16000000 in
theorem fnExactSetGreens_walk (w : World) (vp : Value) (p : Pln) (ugs : Value) (gs : List Int) (hvp : PlanR w 0 vp p) (hugs : Ints w 0 ugs gs) (_ : ∀ x ∈ gs, in64 x) :
    Calls Try.prog 4 #[vp, ugs] w fun e w' => e = .returned (.bool true) ∧ Below w.heap.size w w' := by
  obtain ⟨ags, cgs, rfl, _, _⟩ := hugs.form
  have hvp0 := hvp
  obtain ⟨vcp, vsp, rfl, hc, hs⟩ := hvp
  obtain ⟨acp, ccp, rfl, _, _⟩ := hc.form
  obtain ⟨asp, csp, rfl, _, _⟩ := hs.form
  clear hc hs
  obtain ⟨w1, hw, hB, y0, y1, hzp⟩ := box2 w (.slice acp p.cl.length ccp) (.slice asp p.st.length csp) 40
  have Kp : Hid (∀ W, Below w1.heap.size w1 W → W.cell? ⟨w.heap.size, 0, none⟩ = some (.slice acp p.cl.length ccp) ∧ W.cell? ⟨w.heap.size, 1, none⟩ = some (.slice asp p.st.length csp)) := fun W h => ⟨(h.cell (p := ⟨w.heap.size, 0, none⟩) hzp).trans y0, (h.cell (p := ⟨w.heap.size, 1, none⟩) hzp).trans y1⟩
  have HWp := Lib.hid hw
  have TW := Lib.hid hB
  clear hw hB y0 y1
  have KPp : Hid (∀ W, Below w1.heap.size w1 W → PlanR W 0 (.agg #[.slice acp p.cl.length ccp, .slice asp p.st.length csp]) p) := fun W h => (hvp0.below TW.out (Nat.le_refl _)).below h (Nat.le_refl _)
  have KIgs : Hid (∀ W, Below w1.heap.size w1 W → Ints W 0 (.slice ags gs.length cgs) gs) := fun W h => Rd.below (Rd.below hugs TW.out (Nat.le_refl _) (by decide)) h (Nat.le_refl _) (by decide)
  have T_w1 := Lib.hid (Below.refl w1.heap.size w1)
  clear hvp0 hugs
  by_cases hlgs : gs.length ≤ 1048576
  case neg =>
    go_enter Try.func4, Try.ntmps4
    go_wp2_with fail
    rw [← HWp.out]
    go_ret
    exact ⟨rfl, TW.out⟩
  go_enter Try.func4, Try.ntmps4
  go_wp2_with fail
  rw [← HWp.out]
  clear HWp
  refine (szPlan_any _ 0 _ p 1048576 (KPp.out _ T_w1.out) (by omega)).mono ?_; rintro e w2 ⟨rp, rfl, ⟨hq1, hq2, hq3⟩, hB⟩
  replace T_w1 := Lib.hid (T_w1.out.trans (hB.mono T_w1.out.size))
  clear hB
  by_cases hr : rp < 0
  · have d1 : decide (rp < 0) = true := decide_eq_true hr
    clear hq2 hq3
    go_wp2_with fail
    go_ret
    exact ⟨rfl, TW.out.trans (T_w1.out.mono TW.out.size)⟩
  have dp : decide (rp < 0) = false := decide_eq_false hr
  have HSMp := Lib.hid (hq3 (by omega))
  clear hq2 hq3 hr
  obtain ⟨ok, hok⟩ : ∃ x, x = sgB p gs := ⟨_, rfl⟩
  obtain ⟨q, hq⟩ : ∃ x, x = sgP p gs := ⟨_, rfl⟩
  have HOK := Lib.hid hok
  have HQ := Lib.hid hq
  have hok1 : (ok != ok) = false := by simp
  have HSMq : Hid (PlSm q) := by rw [hq]; exact HSMp.out.sg gs
  clear hok hq
  obtain ⟨up0, up1⟩ := Kp.out _ T_w1.out
  go_wp2_with fail
  refine (toPlan_any _ _ p (KPp.out _ T_w1.out) HSMp.out).mono ?_; rintro e w3 ⟨vsp, rfl, hP, hB⟩
  clear up0 up1
  replace T_w1 := Lib.hid (T_w1.out.trans (hB.mono T_w1.out.size))
  have HS0 := Lib.hid hP
  clear hP hB
  go_wp2_with fail
  refine (toIntS_any _ _ gs (KIgs.out _ T_w1.out) (by omega)).mono ?_; rintro e w4 ⟨xsgs, rfl, hI, hB⟩
  replace T_w1 := Lib.hid (T_w1.out.trans (hB.mono T_w1.out.size))
  replace HS0 := Lib.hid (HS0.out.below hB (Nat.le_refl _))
  have HS1 := Lib.hid hI
  clear hI hB
  go_wp2_with fail
  refine (spec_setGreens _ 0 0 _ _ p gs (HS0.out.planR.mono (Nat.zero_le _)) (HS1.out.rd.mono (Nat.zero_le _))).mono ?_; rintro e w5 ⟨v1, rfl, hR, hB⟩
  replace T_w1 := Lib.hid (T_w1.out.trans (hB.mono T_w1.out.size))
  replace HS0 := Lib.hid (HS0.out.below hB (Nat.le_refl _))
  replace HS1 := Lib.hid (HS1.out.below hB (Nat.le_refl _))
  clear hB
  clear HS0 HS1
  rw [← HQ.out] at hR
  rw [← HOK.out]
  obtain ⟨_, _, rfl, hc, hs⟩ := id hR
  obtain ⟨aw, bw, rfl, _, _⟩ := hc.form
  obtain ⟨cw, dw, rfl, _, _⟩ := hs.form
  clear hc hs
  obtain ⟨w6, hw, hB, y0, y1, hzw⟩ := box2 w5 (.slice aw q.cl.length bw) (.slice cw q.st.length dw) 26
  have Kw : Hid (∀ W, Below w6.heap.size w6 W → W.cell? ⟨w5.heap.size, 0, none⟩ = some (.slice aw q.cl.length bw) ∧ W.cell? ⟨w5.heap.size, 1, none⟩ = some (.slice cw q.st.length dw)) := fun W h => ⟨(h.cell (p := ⟨w5.heap.size, 0, none⟩) hzw).trans y0, (h.cell (p := ⟨w5.heap.size, 1, none⟩) hzw).trans y1⟩
  have HWw := Lib.hid hw
  have TP_w1 := T_w1
  replace T_w1 := Lib.hid (T_w1.out.trans (hB.mono T_w1.out.size))
  have KPw : Hid (∀ W, Below w6.heap.size w6 W → PlanR W 0 (.agg #[.slice aw q.cl.length bw, .slice cw q.st.length dw]) q) := fun W h => ((hR.below hB (Nat.le_refl _)).mono (Nat.zero_le _)).below h (Nat.le_refl _)
  clear hw hB hR y0 y1
  have T_w6 := Lib.hid (Below.refl w6.heap.size w6)
  have hzxp_w1 := T_w1.out.size
  have hzxp_w6 := T_w6.out.size
  obtain ⟨up0, up1⟩ := Kp.out _ TP_w1.out
  have uzp : w.heap.size < w5.heap.size := by have := TP_w1.out.size; omega
  go_wp2_with fail
  rw [← HWw.out]
  clear HWw
  clear TP_w1
  refine (toPlan_any _ _ p (KPp.out _ T_w1.out) HSMp.out).mono ?_; rintro e w7 ⟨vxp, rfl, hP, hB⟩
  clear up0 up1 uzp
  replace T_w1 := Lib.hid (T_w1.out.trans (hB.mono T_w1.out.size))
  replace T_w6 := Lib.hid (T_w6.out.trans (hB.mono T_w6.out.size))
  have HXp := Lib.hid hP
  replace HXp := Lib.hid (HXp.out.up hB.size)
  have hzhp := hB.size
  clear hB hP
  have hR := HXp.out.planR
  obtain ⟨_, _, rfl, hc, hs⟩ := id hR
  obtain ⟨axp, bxp, rfl, _, _⟩ := hc.form
  obtain ⟨cxp, dxp, rfl, _, _⟩ := hs.form
  clear hc hs
  obtain ⟨w8, hw, hB, y0, y1, hzxp⟩ := box2 w7 (.slice axp p.cl.length bxp) (.slice cxp p.st.length dxp) 26
  have Kxp : Hid (∀ W, Below w8.heap.size w8 W → W.cell? ⟨w7.heap.size, 0, none⟩ = some (.slice axp p.cl.length bxp) ∧ W.cell? ⟨w7.heap.size, 1, none⟩ = some (.slice cxp p.st.length dxp)) := fun W h => ⟨(h.cell (p := ⟨w7.heap.size, 0, none⟩) hzxp).trans y0, (h.cell (p := ⟨w7.heap.size, 1, none⟩) hzxp).trans y1⟩
  have HWxp := Lib.hid hw
  have TP_w1 := T_w1
  have TP_w6 := T_w6
  replace T_w1 := Lib.hid (T_w1.out.trans (hB.mono T_w1.out.size))
  replace T_w6 := Lib.hid (T_w6.out.trans (hB.mono T_w6.out.size))
  replace HXp := Lib.hid (HXp.out.below hB (Nat.le_refl _))
  have KPxp : Hid (∀ W, Below w8.heap.size w8 W → PlanR W 0 (.agg #[.slice axp p.cl.length bxp, .slice cxp p.st.length dxp]) p) := fun W h => ((hR.below hB (Nat.le_refl _)).mono (Nat.zero_le _)).below h (Nat.le_refl _)
  clear hw hB hR y0 y1
  have T_w8 := Lib.hid (Below.refl w8.heap.size w8)
  have hzxgs_w1 := T_w1.out.size
  have hzxgs_w6 := T_w6.out.size
  have hzxgs_w8 := T_w8.out.size
  go_wp2_with fail
  rw [← HWxp.out]
  clear HWxp
  clear TP_w1 TP_w6
  refine (toIntS_any _ _ gs (KIgs.out _ T_w1.out) (by omega)).mono ?_; rintro e w9 ⟨xxgs, rfl, hI, hB⟩
  replace T_w1 := Lib.hid (T_w1.out.trans (hB.mono T_w1.out.size))
  replace T_w6 := Lib.hid (T_w6.out.trans (hB.mono T_w6.out.size))
  replace T_w8 := Lib.hid (T_w8.out.trans (hB.mono T_w8.out.size))
  replace HXp := Lib.hid (HXp.out.below hB (Nat.le_refl _))
  have HXgs := Lib.hid hI
  have HWXgs : Hid (∀ k, wblk xxgs = some k → w8.heap.size ≤ k ∧ k < w9.heap.size) := fun k hk => hI.wblk hk
  clear hB hI
  have hzgl_w1 := T_w1.out.size
  have hzgl_w6 := T_w6.out.size
  have hzgl_w8 := T_w8.out.size
  obtain ⟨uxp0, uxp1⟩ := Kxp.out _ T_w8.out
  go_wp2_with fail
  refine (impl_setGreens _ 0 0 _ _ p gs (KPxp.out _ T_w8.out) (HXgs.out.rd.mono (Nat.zero_le _))).mono ?_; rintro e w10 ⟨v2, rfl, hO, hB⟩
  clear uxp0 uxp1
  replace T_w1 := Lib.hid (T_w1.out.trans (hB.mono T_w1.out.size))
  replace T_w6 := Lib.hid (T_w6.out.trans (hB.mono T_w6.out.size))
  replace T_w8 := Lib.hid (T_w8.out.trans (hB.mono T_w8.out.size))
  replace HXp := Lib.hid (HXp.out.below hB (Nat.le_refl _))
  replace HXgs := Lib.hid (HXgs.out.below hB (Nat.le_refl _))
  rw [← HQ.out] at hO
  rw [← HOK.out]
  have hzg_w1 := T_w1.out.size
  have hzg_w6 := T_w6.out.size
  have hzg_w8 := T_w8.out.size
  have HG : Hid (PlanH w10 w9.heap.size w10.heap.size v2 q) := hO.up hB.size
  have hzgi := hB.size
  clear hB hO
  have hR := HG.out.planR
  obtain ⟨_, _, rfl, hc, hs⟩ := id hR
  obtain ⟨ag, bg, rfl, _, _⟩ := hc.form
  obtain ⟨cg, dg, rfl, _, _⟩ := hs.form
  clear hc hs
  obtain ⟨w11, hw, hB, y0, y1, hzg⟩ := box2 w10 (.slice ag q.cl.length bg) (.slice cg q.st.length dg) 26
  have Kg : Hid (∀ W, Below w11.heap.size w11 W → W.cell? ⟨w10.heap.size, 0, none⟩ = some (.slice ag q.cl.length bg) ∧ W.cell? ⟨w10.heap.size, 1, none⟩ = some (.slice cg q.st.length dg)) := fun W h => ⟨(h.cell (p := ⟨w10.heap.size, 0, none⟩) hzg).trans y0, (h.cell (p := ⟨w10.heap.size, 1, none⟩) hzg).trans y1⟩
  have HWg := Lib.hid hw
  have TP_w1 := T_w1
  have TP_w6 := T_w6
  have TP_w8 := T_w8
  replace T_w1 := Lib.hid (T_w1.out.trans (hB.mono T_w1.out.size))
  replace T_w6 := Lib.hid (T_w6.out.trans (hB.mono T_w6.out.size))
  replace T_w8 := Lib.hid (T_w8.out.trans (hB.mono T_w8.out.size))
  replace HXp := Lib.hid (HXp.out.below hB (Nat.le_refl _))
  replace HXgs := Lib.hid (HXgs.out.below hB (Nat.le_refl _))
  replace HG := Lib.hid (HG.out.below hB (Nat.le_refl _))
  have KPg : Hid (∀ W, Below w11.heap.size w11 W → PlanR W 0 (.agg #[.slice ag q.cl.length bg, .slice cg q.st.length dg]) q) := fun W h => ((hR.below hB (Nat.le_refl _)).mono (Nat.zero_le _)).below h (Nat.le_refl _)
  clear hw hB hR y0 y1
  have T_w11 := Lib.hid (Below.refl w11.heap.size w11)
  have HGB : Hid (Own w11 w10.heap.size 26 2 (.slice (some ⟨w10.heap.size, 0, none⟩) 1 1) 1 [.slice ag q.cl.length bg, .slice cg q.st.length dg]) := by rw [HWg.out]; exact Own.made _ _ _ _ 2 1 rfl (Nat.le_refl _) (by decide)
  obtain ⟨uw0, uw1⟩ := Kw.out _ TP_w6.out
  have uzw : w5.heap.size < w10.heap.size := by have := TP_w6.out.size; omega
  go_wp2_with fail
  rw [← HWg.out]
  clear HWg
  clear TP_w1 TP_w6 TP_w8
  refine (eqPlan_same _ _ _ q (KPg.out _ T_w11.out) (KPw.out _ T_w6.out)).mono ?_; rintro e w12 ⟨rfl, hB⟩
  clear uw0 uw1 uzw
  replace T_w1 := Lib.hid (T_w1.out.trans (hB.mono T_w1.out.size))
  replace T_w6 := Lib.hid (T_w6.out.trans (hB.mono T_w6.out.size))
  replace T_w8 := Lib.hid (T_w8.out.trans (hB.mono T_w8.out.size))
  replace T_w11 := Lib.hid (T_w11.out.trans (hB.mono T_w11.out.size))
  replace HXp := Lib.hid (HXp.out.below hB (Nat.le_refl _))
  replace HXgs := Lib.hid (HXgs.out.below hB (Nat.le_refl _))
  replace HG := Lib.hid (HG.out.below hB (Nat.le_refl _))
  replace HGB := Lib.hid (HGB.out.below hB (Nat.le_refl _))
  clear hB
  obtain ⟨up0, up1⟩ := Kp.out _ T_w1.out
  obtain ⟨uxp0, uxp1⟩ := Kxp.out _ T_w8.out
  have KC : Hid (∀ W, Below w12.heap.size w12 W → (W.cell? ⟨w.heap.size, 0, none⟩ = some (.slice acp p.cl.length ccp) ∧ W.cell? ⟨w.heap.size, 1, none⟩ = some (.slice asp p.st.length csp)) ∧ (W.cell? ⟨w7.heap.size, 0, none⟩ = some (.slice axp p.cl.length bxp) ∧ W.cell? ⟨w7.heap.size, 1, none⟩ = some (.slice cxp p.st.length dxp))) := fun W h => ⟨Kp.out _ (T_w1.out.trans (h.mono T_w1.out.size)), Kxp.out _ (T_w8.out.trans (h.mono T_w8.out.size))⟩
  go_wp2_with fail
  go_region_held3 (fun w' => (w'.cell? ⟨w.heap.size, 0, none⟩ = some (.slice acp p.cl.length ccp) ∧ w'.cell? ⟨w.heap.size, 1, none⟩ = some (.slice asp p.st.length csp)) ∧ (w'.cell? ⟨w7.heap.size, 0, none⟩ = some (.slice axp p.cl.length bxp) ∧ w'.cell? ⟨w7.heap.size, 1, none⟩ = some (.slice cxp p.st.length dxp)))
    (first | exact KC.out _ hB8 | exact KC.out _ hB7 | exact KC.out _ (Below.refl _ _) | go_keep | assumption)
    ((first
      | (go_at_call 21; refine (toPlan_any _ _ p (KPp.out _ (T_w1.out.trans ((Below.drew (Below.refl w12.heap.size w12)).mono T_w1.out.size))) HSMp.out).mono ?_; rintro e w13 ⟨v7, rfl, hP7, hB7'⟩; have hB7 : Below w12.heap.size w12 w13 := (Below.drew (Below.refl w12.heap.size w12)).trans hB7')
      | (go_at_call 23; refine (eqPlan_same _ _ _ p (KPxp.out _ (T_w8.out.trans (hB7.mono T_w8.out.size))) (hP7.planR.mono (Nat.zero_le _))).mono ?_; rintro e w14 ⟨rfl, hB8'⟩; have hB8 : Below w12.heap.size w12 w14 := hB7.trans (hB8'.mono hB7.size))))
  clear up0 up1 uxp0 uxp1
  have hB := hB8
  replace T_w1 := Lib.hid (T_w1.out.trans (hB.mono T_w1.out.size))
  replace T_w6 := Lib.hid (T_w6.out.trans (hB.mono T_w6.out.size))
  replace T_w8 := Lib.hid (T_w8.out.trans (hB.mono T_w8.out.size))
  replace T_w11 := Lib.hid (T_w11.out.trans (hB.mono T_w11.out.size))
  replace HXp := Lib.hid (HXp.out.below hB (Nat.le_refl _))
  replace HXgs := Lib.hid (HXgs.out.below hB (Nat.le_refl _))
  replace HG := Lib.hid (HG.out.below hB (Nat.le_refl _))
  replace HGB := Lib.hid (HGB.out.below hB (Nat.le_refl _))
  clear KC hB hB8 hB7 hB8' hB7' hP7
  go_wp2_with fail
  refine (toIntS_any _ _ gs (KIgs.out _ T_w1.out) (by omega)).mono ?_; rintro e w15 ⟨xygs, rfl, hI, hB⟩
  replace T_w1 := Lib.hid (T_w1.out.trans (hB.mono T_w1.out.size))
  replace T_w6 := Lib.hid (T_w6.out.trans (hB.mono T_w6.out.size))
  replace T_w8 := Lib.hid (T_w8.out.trans (hB.mono T_w8.out.size))
  replace T_w11 := Lib.hid (T_w11.out.trans (hB.mono T_w11.out.size))
  replace HXp := Lib.hid (HXp.out.below hB (Nat.le_refl _))
  replace HXgs := Lib.hid (HXgs.out.below hB (Nat.le_refl _))
  replace HG := Lib.hid (HG.out.below hB (Nat.le_refl _))
  replace HGB := Lib.hid (HGB.out.below hB (Nat.le_refl _))
  have HY := Lib.hid hI
  clear hB hI
  go_wp2_with fail
  refine (eqIntS_same _ _ _ gs (HXgs.out.rd.mono (Nat.zero_le _)) (HY.out.rd.mono (Nat.zero_le _))).mono ?_; rintro e w16 ⟨rfl, hB⟩
  replace T_w1 := Lib.hid (T_w1.out.trans (hB.mono T_w1.out.size))
  replace T_w6 := Lib.hid (T_w6.out.trans (hB.mono T_w6.out.size))
  replace T_w8 := Lib.hid (T_w8.out.trans (hB.mono T_w8.out.size))
  replace T_w11 := Lib.hid (T_w11.out.trans (hB.mono T_w11.out.size))
  replace HXp := Lib.hid (HXp.out.below hB (Nat.le_refl _))
  replace HXgs := Lib.hid (HXgs.out.below hB (Nat.le_refl _))
  replace HG := Lib.hid (HG.out.below hB (Nat.le_refl _))
  replace HGB := Lib.hid (HGB.out.below hB (Nat.le_refl _))
  replace HY := Lib.hid (HY.out.below hB (Nat.le_refl _))
  clear hB
  clear HY
  have hzm_w1 := T_w1.out.size
  have hzm_w6 := T_w6.out.size
  have hzm_w8 := T_w8.out.size
  have hzm_w11 := T_w11.out.size
  clear T_w11
  obtain ⟨u0, u1⟩ := Kxp.out _ T_w8.out
  clear T_w8
  go_wp2_with fail
  refine (markPlan_any _ w6.heap.size w7.heap.size _ p 1 HXp.out (by omega) HSMp.out (by omega)).mono ?_; rintro e w17 ⟨rfl, _, hC⟩
  clear u0 u1
  clear HXp
  obtain ⟨k1, hk1⟩ : ∃ k, k = 1 + totP p := ⟨_, rfl⟩
  rw [← hk1]
  have hkb1 : k1 ≤ 20000000000000 * 1 := by have := HSMp.out.totP; omega
  have Hk1 := Lib.hid hk1
  clear hk1
  replace T_w1 := Lib.hid (T_w1.out.trans (hC.below (B := w1.heap.size) T_w1.out.size (by omega)))
  replace T_w6 := Lib.hid (T_w6.out.trans (hC.below (B := w6.heap.size) T_w6.out.size (by omega)))
  replace HXgs := Lib.hid (HXgs.out.chg hC (fun k hk => by have := hk.1; have := hk.2; omega))
  replace HG := Lib.hid (HG.out.chg hC (fun k hk => by have := hk.1; have := hk.2; omega))
  replace HGB := Lib.hid (HGB.out.chg hC (fun k hk => by have := hk.1; have := hk.2; omega))
  have hzs1 := hC.size
  clear hC
  go_wp2_with fail
  refine (markIntS_any _ _ _ _ k1 _ HXgs.out (by omega)).mono ?_; rintro e w18 ⟨rfl, _, hg⟩
  clear HXgs
  have hC : ChgIn w8.heap.size w9.heap.size w17 w18 := chg_of_grownBy hg (fun k hk => .inl (HWXgs.out k hk))
  clear hg
  replace T_w1 := Lib.hid (T_w1.out.trans (hC.below (B := w1.heap.size) T_w1.out.size (by omega)))
  replace T_w6 := Lib.hid (T_w6.out.trans (hC.below (B := w6.heap.size) T_w6.out.size (by omega)))
  replace HG := Lib.hid (HG.out.chg hC (fun k hk => by have := hk.1; have := hk.2; omega))
  replace HGB := Lib.hid (HGB.out.chg hC (fun k hk => by have := hk.1; have := hk.2; omega))
  have hzs2 := hC.size
  clear hC
  have hkd : decide ((k1 : Int) + (gs.length : Int) < 0) = false := decide_eq_false (by omega)
  obtain ⟨_, e1, _, hz, p1, _, _⟩ := HGB.out.parts (by omega)
  cases e1
  have x0 := p1 0 (by simp)
  have x1 := p1 1 (by simp)
  simp only [List.getElem_cons_zero, List.getElem_cons_succ] at x0 x1
  replace Kg : Hid (∀ W, Below w18.heap.size w18 W → W.cell? ⟨w10.heap.size, 0, none⟩ = some (.slice ag q.cl.length bg) ∧ W.cell? ⟨w10.heap.size, 1, none⟩ = some (.slice cg q.st.length dg)) := fun W h => ⟨(h.cell (p := ⟨w10.heap.size, 0, none⟩) hz).trans x0, (h.cell (p := ⟨w10.heap.size, 1, none⟩) hz).trans x1⟩
  replace KPg : Hid (∀ W, Below w18.heap.size w18 W → PlanR W 0 (.agg #[.slice ag q.cl.length bg, .slice cg q.st.length dg]) q) := fun W h => (HG.out.planR.mono (Nat.zero_le _)).below h (Nat.le_refl _)
  clear p1 x0 x1 hz
  have T_w18 := Lib.hid (Below.refl w18.heap.size w18)
  obtain ⟨ug0, ug1⟩ := Kg.out _ T_w18.out
  obtain ⟨uw0, uw1⟩ := Kw.out _ T_w6.out
  go_wp2_with fail
  refine (eqPlan_same _ _ _ q (KPg.out _ T_w18.out) (KPw.out _ T_w6.out)).mono ?_; rintro e w19 ⟨rfl, hB⟩
  clear ug0 ug1 uw0 uw1
  replace T_w1 := Lib.hid (T_w1.out.trans (hB.mono T_w1.out.size))
  replace T_w6 := Lib.hid (T_w6.out.trans (hB.mono T_w6.out.size))
  replace T_w18 := Lib.hid (T_w18.out.trans (hB.mono T_w18.out.size))
  replace HG := Lib.hid (HG.out.below hB (Nat.le_refl _))
  replace HGB := Lib.hid (HGB.out.below hB (Nat.le_refl _))
  clear hB
  have hzmg_w1 := T_w1.out.size
  have hzmg_w6 := T_w6.out.size
  have hzmg_w18 := T_w18.out.size
  obtain ⟨ug0, ug1⟩ := Kg.out _ T_w18.out
  clear T_w18
  go_wp2_with fail
  refine (markPlan_any _ _ _ _ q 1 HG.out (by omega) HSMq.out (by omega)).mono ?_; rintro e w20 ⟨rfl, hG, hC⟩
  clear ug0 ug1
  replace HG := Lib.hid hG
  clear hG
  replace T_w1 := Lib.hid (T_w1.out.trans (hC.below (B := w1.heap.size) T_w1.out.size (by omega)))
  replace T_w6 := Lib.hid (T_w6.out.trans (hC.below (B := w6.heap.size) T_w6.out.size (by omega)))
  replace HGB := Lib.hid (HGB.out.chg hC (fun k hk => by have := hk.1; have := hk.2; omega))
  clear hC
  obtain ⟨km, hkm⟩ : ∃ k, k = 1 + totP q := ⟨_, rfl⟩
  rw [← hkm]
  have HKM := Lib.hid hkm
  have d1 : decide ((km : Int) < 0) = false := decide_eq_false (by omega)
  have d2 : ((km : Int) != (km : Int)) = false := by simp
  clear hkm
  obtain ⟨_, e1, _, hz, p1, _, _⟩ := HGB.out.parts (by omega)
  cases e1
  have x0 := p1 0 (by simp)
  have x1 := p1 1 (by simp)
  simp only [List.getElem_cons_zero, List.getElem_cons_succ] at x0 x1
  replace Kg : Hid (∀ W, Below w20.heap.size w20 W → W.cell? ⟨w10.heap.size, 0, none⟩ = some (.slice ag q.cl.length bg) ∧ W.cell? ⟨w10.heap.size, 1, none⟩ = some (.slice cg q.st.length dg)) := fun W h => ⟨(h.cell (p := ⟨w10.heap.size, 0, none⟩) hz).trans x0, (h.cell (p := ⟨w10.heap.size, 1, none⟩) hz).trans x1⟩
  replace KPg : Hid (∀ W, Below w20.heap.size w20 W → PlanR W 0 (.agg #[.slice ag q.cl.length bg, .slice cg q.st.length dg]) (mPl q 1)) := fun W h => (HG.out.planR.mono (Nat.zero_le _)).below h (Nat.le_refl _)
  clear p1 x0 x1 hz
  have T_w20 := Lib.hid (Below.refl w20.heap.size w20)
  clear HG HGB
  obtain ⟨ug0, ug1⟩ := Kg.out _ T_w20.out
  go_wp2_with fail
  refine (heldPlan_any _ _ _ q 1 (KPg.out _ T_w20.out) HSMq.out (by omega)).mono ?_; rintro e w21 ⟨rfl, hB⟩
  clear ug0 ug1
  replace T_w1 := Lib.hid (T_w1.out.trans (hB.mono T_w1.out.size))
  replace T_w6 := Lib.hid (T_w6.out.trans (hB.mono T_w6.out.size))
  replace T_w20 := Lib.hid (T_w20.out.trans (hB.mono T_w20.out.size))
  clear hB
  rw [← HKM.out]
  obtain ⟨up0, up1⟩ := Kp.out _ T_w1.out
  go_wp2_with fail
  refine (toPlan_any _ _ p (KPp.out _ T_w1.out) HSMp.out).mono ?_; rintro e w22 ⟨vzp, rfl, hP, hB⟩
  clear up0 up1
  replace T_w1 := Lib.hid (T_w1.out.trans (hB.mono T_w1.out.size))
  replace T_w6 := Lib.hid (T_w6.out.trans (hB.mono T_w6.out.size))
  replace T_w20 := Lib.hid (T_w20.out.trans (hB.mono T_w20.out.size))
  have HZ0 := Lib.hid hP
  clear hP hB
  go_wp2_with fail
  refine (toIntS_any _ _ gs (KIgs.out _ T_w1.out) (by omega)).mono ?_; rintro e w23 ⟨xzgs, rfl, hI, hB⟩
  replace T_w1 := Lib.hid (T_w1.out.trans (hB.mono T_w1.out.size))
  replace T_w6 := Lib.hid (T_w6.out.trans (hB.mono T_w6.out.size))
  replace T_w20 := Lib.hid (T_w20.out.trans (hB.mono T_w20.out.size))
  replace HZ0 := Lib.hid (HZ0.out.below hB (Nat.le_refl _))
  have HZ1 := Lib.hid hI
  clear hI hB
  go_wp2_with fail
  refine (impl_setGreens _ 0 0 _ _ p gs (HZ0.out.planR.mono (Nat.zero_le _)) (HZ1.out.rd.mono (Nat.zero_le _))).mono ?_; rintro e w24 ⟨v3, rfl, hO, hB⟩
  replace T_w1 := Lib.hid (T_w1.out.trans (hB.mono T_w1.out.size))
  replace T_w6 := Lib.hid (T_w6.out.trans (hB.mono T_w6.out.size))
  replace T_w20 := Lib.hid (T_w20.out.trans (hB.mono T_w20.out.size))
  replace HZ0 := Lib.hid (HZ0.out.below hB (Nat.le_refl _))
  replace HZ1 := Lib.hid (HZ1.out.below hB (Nat.le_refl _))
  clear hB
  clear HZ0 HZ1
  rw [← HQ.out] at hO
  rw [← HOK.out]
  have hR := hO.planR
  clear hO
  obtain ⟨_, _, rfl, hc, hs⟩ := id hR
  obtain ⟨ah, bh, rfl, _, _⟩ := hc.form
  obtain ⟨ch, dh, rfl, _, _⟩ := hs.form
  clear hc hs
  obtain ⟨w25, hw, hB, y0, y1, hzh⟩ := box2 w24 (.slice ah q.cl.length bh) (.slice ch q.st.length dh) 26
  have Kh : Hid (∀ W, Below w25.heap.size w25 W → W.cell? ⟨w24.heap.size, 0, none⟩ = some (.slice ah q.cl.length bh) ∧ W.cell? ⟨w24.heap.size, 1, none⟩ = some (.slice ch q.st.length dh)) := fun W h => ⟨(h.cell (p := ⟨w24.heap.size, 0, none⟩) hzh).trans y0, (h.cell (p := ⟨w24.heap.size, 1, none⟩) hzh).trans y1⟩
  have HWh := Lib.hid hw
  have TP_w1 := T_w1
  have TP_w6 := T_w6
  have TP_w20 := T_w20
  replace T_w1 := Lib.hid (T_w1.out.trans (hB.mono T_w1.out.size))
  replace T_w6 := Lib.hid (T_w6.out.trans (hB.mono T_w6.out.size))
  replace T_w20 := Lib.hid (T_w20.out.trans (hB.mono T_w20.out.size))
  have KPh : Hid (∀ W, Below w25.heap.size w25 W → PlanR W 0 (.agg #[.slice ah q.cl.length bh, .slice ch q.st.length dh]) q) := fun W h => ((hR.below hB (Nat.le_refl _)).mono (Nat.zero_le _)).below h (Nat.le_refl _)
  clear hw hB hR y0 y1
  have T_w25 := Lib.hid (Below.refl w25.heap.size w25)
  obtain ⟨uw0, uw1⟩ := Kw.out _ TP_w6.out
  have uzw : w5.heap.size < w24.heap.size := by have := TP_w6.out.size; omega
  go_wp2_with fail
  rw [← HWh.out]
  clear HWh
  clear TP_w1 TP_w6 TP_w20
  refine (eqPlan_same _ _ _ q (KPh.out _ T_w25.out) (KPw.out _ T_w6.out)).mono ?_; rintro e w26 ⟨rfl, hB⟩
  clear uw0 uw1 uzw
  replace T_w1 := Lib.hid (T_w1.out.trans (hB.mono T_w1.out.size))
  replace T_w6 := Lib.hid (T_w6.out.trans (hB.mono T_w6.out.size))
  replace T_w20 := Lib.hid (T_w20.out.trans (hB.mono T_w20.out.size))
  replace T_w25 := Lib.hid (T_w25.out.trans (hB.mono T_w25.out.size))
  clear hB
  obtain ⟨ug0, ug1⟩ := Kg.out _ T_w20.out
  go_wp2_with fail
  refine (heldPlan_any _ _ _ q 1 (KPg.out _ T_w20.out) HSMq.out (by omega)).mono ?_; rintro e w27 ⟨rfl, hB⟩
  clear ug0 ug1
  replace T_w1 := Lib.hid (T_w1.out.trans (hB.mono T_w1.out.size))
  replace T_w6 := Lib.hid (T_w6.out.trans (hB.mono T_w6.out.size))
  replace T_w20 := Lib.hid (T_w20.out.trans (hB.mono T_w20.out.size))
  replace T_w25 := Lib.hid (T_w25.out.trans (hB.mono T_w25.out.size))
  clear hB
  rw [← HKM.out]
  go_wp2_with fail
  go_ret
  exact ⟨rfl, TW.out.trans (T_w1.out.mono TW.out.size)⟩
end Go.Proofs.Ytokpgipbgkiepaa
