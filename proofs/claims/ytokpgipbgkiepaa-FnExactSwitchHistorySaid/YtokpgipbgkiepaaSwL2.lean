/- FnExactSwitchHistory: the walk. -/
import Derived.Test.YtokpgipbgkiepaaCp3
import Derived.Test.YtokpgipbgkiepaaSwL1
namespace Go.Proofs.Ytokpgipbgkiepaa
open Go.RowKit
set_option linter.unusedVariables false
set_option linter.unusedSimpArgs false

theorem shT_facts {a b : Pln} {T first : Int} {N : Nat} (hab : sameC a b = true) (hT : 0 ≤ T) (hN : N ≤ 150) (hf : ∀ k, k < N → 0 ≤ first + (k : Int)) : (shT a b T first N).length ≤ 150 ∧ ∀ i, i < (shT a b T first N).length → ((shT a b T first N).getD i []).length ≤ 8 := by
  refine ⟨by rw [shT_len]; exact hN, fun i hi => ?_⟩
  rw [shT_len] at hi
  rw [shT_get hi]
  obtain ⟨h1, h2, h3⟩ := sameC_iff.1 hab
  exact swg_len h1 h2 (hf i hi) hT (br_bd h1 h2 h3).1
theorem shO_facts (a b : Pln) (f first count : Int) : (shO a b f first count).length ≤ 150 ∧ ∀ i, i < (shO a b f first count).length → ((shO a b f first count).getD i []).length ≤ 8 := by
  rw [shO_vspan]
  split
  · rename_i h
    have hsv := h.1
    unfold swV at hsv
    rw [Bool.and_eq_true] at hsv
    have hsp := h.2
    unfold vspan at hsp
    simp only [Bool.and_eq_true, Bool.or_eq_true, decide_eq_true_eq, inR_iff] at hsp
    exact shT_facts hsv.1 (swt_nums (sameC_iff.1 hsv.1).1 hsv.2).1 (by omega) (fun k hk => by omega)
  · exact ⟨by simp, fun i hi => by simp at hi⟩
set_option maxHeartbeats 16000000 in
theorem fnExactSwitchHistory_walk (w : World) (va : Value) (a : Pln) (vb : Value) (b : Pln) (f : Int) (first : Int) (count : Int) (hva : PlanR w 0 va a) (hvb : PlanR w 0 vb b) (_ : in64 f) (_ : in64 first) (_ : in64 count) :
    Calls Try.prog 12 #[va, vb, .int .i64 f, .int .i64 first, .int .i64 count] w fun e w' => e = .returned (.bool true) ∧ Below w.heap.size w w' := by
  have hva0 := hva
  obtain ⟨vca, vsa, rfl, hc, hs⟩ := hva
  obtain ⟨aca, cca, rfl, _, _⟩ := hc.form
  obtain ⟨asa, csa, rfl, _, _⟩ := hs.form
  clear hc hs
  have hvb0 := hvb
  obtain ⟨vcb, vsb, rfl, hc, hs⟩ := hvb
  obtain ⟨acb, ccb, rfl, _, _⟩ := hc.form
  obtain ⟨asb, csb, rfl, _, _⟩ := hs.form
  clear hc hs
  obtain ⟨w1, hw, hB, hzab, K2⟩ := two_box w (.slice aca a.cl.length cca) (.slice asa a.st.length csa) (.slice acb b.cl.length ccb) (.slice asb b.st.length csb) 40
  have Ka : Hid (∀ W, Below w1.heap.size w1 W → W.cell? ⟨w.heap.size, 0, none⟩ = some (.slice aca a.cl.length cca) ∧ W.cell? ⟨w.heap.size, 1, none⟩ = some (.slice asa a.st.length csa)) := fun W h => (K2 W h).1
  have Kb : Hid (∀ W, Below w1.heap.size w1 W → W.cell? ⟨w.heap.size + 1, 0, none⟩ = some (.slice acb b.cl.length ccb) ∧ W.cell? ⟨w.heap.size + 1, 1, none⟩ = some (.slice asb b.st.length csb)) := fun W h => (K2 W h).2
  have HWab := Lib.hid hw
  have TW := Lib.hid hB
  clear hw hB K2
  have KPa : Hid (∀ W, Below w1.heap.size w1 W → PlanR W 0 (.agg #[.slice aca a.cl.length cca, .slice asa a.st.length csa]) a) := fun W h => (hva0.below TW.out (Nat.le_refl _)).below h (Nat.le_refl _)
  have KPb : Hid (∀ W, Below w1.heap.size w1 W → PlanR W 0 (.agg #[.slice acb b.cl.length ccb, .slice asb b.st.length csb]) b) := fun W h => (hvb0.below TW.out (Nat.le_refl _)).below h (Nat.le_refl _)
  have T_w1 := Lib.hid (Below.refl w1.heap.size w1)
  clear hva0 hvb0
  go_enter Try.func12, Try.ntmps12
  go_wp2_with fail
  rw [← HWab.out]
  clear HWab
  refine (szPlan_any _ 0 _ a 1048576 (KPa.out _ T_w1.out) (by omega)).mono ?_; rintro e w2 ⟨ra, rfl, ⟨hq1, hq2, hq3⟩, hB⟩
  replace T_w1 := Lib.hid (T_w1.out.trans (hB.mono T_w1.out.size))
  clear hB
  by_cases hr : ra < 0
  · have d1 : decide (ra < 0) = true := decide_eq_true hr
    clear hq2 hq3
    go_wp2_with fail
    go_ret
    exact ⟨rfl, TW.out.trans (T_w1.out.mono TW.out.size)⟩
  have da : decide (ra < 0) = false := decide_eq_false hr
  have HSMa := Lib.hid (hq3 (by omega))
  have hra : 0 ≤ ra ∧ ra ≤ 1048576 := ⟨by omega, by omega⟩
  clear hq2 hq3 hr
  obtain ⟨ub0, ub1⟩ := Kb.out _ T_w1.out
  go_wp2_with fail
  refine (szPlan_any _ 0 _ b ra (KPb.out _ T_w1.out) (by omega)).mono ?_; rintro e w3 ⟨rb, rfl, ⟨hq1, hq2, hq3⟩, hB⟩
  clear ub0 ub1
  replace T_w1 := Lib.hid (T_w1.out.trans (hB.mono T_w1.out.size))
  clear hB
  by_cases hr : rb < 0
  · have d1 : decide (rb < 0) = true := decide_eq_true hr
    clear hq2 hq3
    go_wp2_with fail
    go_ret
    exact ⟨rfl, TW.out.trans (T_w1.out.mono TW.out.size)⟩
  have db : decide (rb < 0) = false := decide_eq_false hr
  have HSMb := Lib.hid (hq3 (by omega))
  have hrb : 0 ≤ rb ∧ rb ≤ 1048576 := ⟨by omega, by omega⟩
  clear hq2 hq3 hr
  obtain ⟨t, ht⟩ : ∃ x, x = shO a b f first count := ⟨_, rfl⟩
  have HTT := Lib.hid ht
  have htf := shO_facts a b f first count
  rw [← ht] at htf
  obtain ⟨htl, htr⟩ := htf
  have HTR : Hid (∀ i, i < t.length → (t.getD i []).length ≤ 2097152) := fun i hi => by have := htr i hi; omega
  clear ht htr
  have KC : Hid (∀ W, Below w3.heap.size w3 W → (W.cell? ⟨w.heap.size, 0, none⟩ = some (.slice aca a.cl.length cca) ∧ W.cell? ⟨w.heap.size, 1, none⟩ = some (.slice asa a.st.length csa)) ∧ (W.cell? ⟨w.heap.size + 1, 0, none⟩ = some (.slice acb b.cl.length ccb) ∧ W.cell? ⟨w.heap.size + 1, 1, none⟩ = some (.slice asb b.st.length csb))) := fun W h => ⟨Ka.out _ (T_w1.out.trans (h.mono T_w1.out.size)), Kb.out _ (T_w1.out.trans (h.mono T_w1.out.size))⟩
  obtain ⟨⟨x00, x01⟩, ⟨x10, x11⟩⟩ := KC.out _ (Below.refl _ _)
  go_wp2_with fail
  go_region_held3 (fun W => (W.cell? ⟨w.heap.size, 0, none⟩ = some (.slice aca a.cl.length cca) ∧ W.cell? ⟨w.heap.size, 1, none⟩ = some (.slice asa a.st.length csa)) ∧ (W.cell? ⟨w.heap.size + 1, 0, none⟩ = some (.slice acb b.cl.length ccb) ∧ W.cell? ⟨w.heap.size + 1, 1, none⟩ = some (.slice asb b.st.length csb)))
    (first | exact KC.out _ hBy2 | exact KC.out _ hBy1 | exact KC.out _ hBy0 | exact KC.out _ (Below.refl _ _) | exact KC.out _ (Below.drew (Below.refl w3.heap.size w3)) | go_keep | assumption)
    ((first
      | (go_at_call 21; (with_reducible refine (toPlan_any _ (.agg #[.slice aca a.cl.length cca, .slice asa a.st.length csa]) a (KPa.out _ (T_w1.out.trans ((Below.drew (Below.refl w3.heap.size w3)).mono T_w1.out.size))) HSMa.out).mono ?_); rintro e w4 ⟨vsa, rfl, hPra, hBx0⟩; have hBy0 : Below w3.heap.size w3 w4 := (Below.drew (Below.refl w3.heap.size w3)).trans (hBx0.mono (Below.drew (Below.refl w3.heap.size w3)).size); skip)
      | (go_at_call 21; (with_reducible refine (toPlan_any _ (.agg #[.slice acb b.cl.length ccb, .slice asb b.st.length csb]) b (KPb.out _ (T_w1.out.trans (hBy0.mono T_w1.out.size))) HSMb.out).mono ?_); rintro e w5 ⟨vsb, rfl, hPrb, hBx1⟩; have hBy1 : Below w3.heap.size w3 w5 := hBy0.trans (hBx1.mono hBy0.size); have hPra := hPra.below hBx1 (Nat.le_refl _); skip)
      | (go_at_call 45; refine (spec_SwitchHistory _ 0 0 _ _ a b f first count (hPra.planR.mono (Nat.zero_le _)) (hPrb.planR.mono (Nat.zero_le _))).mono ?_; rintro e w6 ⟨v1, rfl, hR, hBx2⟩; have hBy2 : Below w3.heap.size w3 w6 := hBy1.trans (hBx2.mono hBy1.size))))
  have hB := hBy2
  replace T_w1 := Lib.hid (T_w1.out.trans (hB.mono T_w1.out.size))
  replace hR := hR.mono hBy1.size
  clear KC hB x00 x01 x10 x11 hPra hPrb hBx2 hBy2 hBx1 hBy1 hBx0 hBy0
  rw [← HTT.out] at hR
  have KW : Hid (∀ W, Below w6.heap.size w6 W → IntSS W 0 v1 t) := fun W h => (hR.ss.below h (Nat.le_refl _)).mono (Nat.zero_le _)
  obtain ⟨av1, cv1, rfl, _, _⟩ := hR.ss.form
  clear hR
  have T_w6 := Lib.hid (Below.refl w6.heap.size w6)
  have hzxa_w1 := T_w1.out.size
  have hzxa_w6 := T_w6.out.size
  obtain ⟨ua0, ua1⟩ := Ka.out _ T_w1.out
  go_wp2_with fail
  refine (toPlan_any _ _ a (KPa.out _ T_w1.out) HSMa.out).mono ?_; rintro e w7 ⟨vxa, rfl, hP, hB⟩
  clear ua0 ua1
  replace T_w1 := Lib.hid (T_w1.out.trans (hB.mono T_w1.out.size))
  replace T_w6 := Lib.hid (T_w6.out.trans (hB.mono T_w6.out.size))
  have HXa := Lib.hid hP
  replace HXa := Lib.hid (HXa.out.up hB.size)
  have hzha := hB.size
  clear hB hP
  have hR := HXa.out.planR
  obtain ⟨_, _, rfl, hc, hs⟩ := id hR
  obtain ⟨axa, bxa, rfl, _, _⟩ := hc.form
  obtain ⟨cxa, dxa, rfl, _, _⟩ := hs.form
  clear hc hs
  obtain ⟨w8, hw, hB, y0, y1, hzxa⟩ := box2 w7 (.slice axa a.cl.length bxa) (.slice cxa a.st.length dxa) 26
  have Kxa : Hid (∀ W, Below w8.heap.size w8 W → W.cell? ⟨w7.heap.size, 0, none⟩ = some (.slice axa a.cl.length bxa) ∧ W.cell? ⟨w7.heap.size, 1, none⟩ = some (.slice cxa a.st.length dxa)) := fun W h => ⟨(h.cell (p := ⟨w7.heap.size, 0, none⟩) hzxa).trans y0, (h.cell (p := ⟨w7.heap.size, 1, none⟩) hzxa).trans y1⟩
  have HWxa := Lib.hid hw
  have TP_w1 := T_w1
  have TP_w6 := T_w6
  replace T_w1 := Lib.hid (T_w1.out.trans (hB.mono T_w1.out.size))
  replace T_w6 := Lib.hid (T_w6.out.trans (hB.mono T_w6.out.size))
  replace HXa := Lib.hid (HXa.out.below hB (Nat.le_refl _))
  have KPxa : Hid (∀ W, Below w8.heap.size w8 W → PlanR W 0 (.agg #[.slice axa a.cl.length bxa, .slice cxa a.st.length dxa]) a) := fun W h => ((hR.below hB (Nat.le_refl _)).mono (Nat.zero_le _)).below h (Nat.le_refl _)
  clear hw hB hR y0 y1
  have T_w8 := Lib.hid (Below.refl w8.heap.size w8)
  have hzxb_w1 := T_w1.out.size
  have hzxb_w6 := T_w6.out.size
  have hzxb_w8 := T_w8.out.size
  obtain ⟨ub0, ub1⟩ := Kb.out _ TP_w1.out
  have uzb : w.heap.size + 1 < w7.heap.size := by have := TP_w1.out.size; omega
  go_wp2_with fail
  rw [← HWxa.out]
  clear HWxa
  clear TP_w1 TP_w6
  refine (toPlan_any _ _ b (KPb.out _ T_w1.out) HSMb.out).mono ?_; rintro e w9 ⟨vxb, rfl, hP, hB⟩
  clear ub0 ub1 uzb
  replace T_w1 := Lib.hid (T_w1.out.trans (hB.mono T_w1.out.size))
  replace T_w6 := Lib.hid (T_w6.out.trans (hB.mono T_w6.out.size))
  replace T_w8 := Lib.hid (T_w8.out.trans (hB.mono T_w8.out.size))
  replace HXa := Lib.hid (HXa.out.below hB (Nat.le_refl _))
  have HXb := Lib.hid hP
  replace HXb := Lib.hid (HXb.out.up hB.size)
  have hzhb := hB.size
  clear hB hP
  have hR := HXb.out.planR
  obtain ⟨_, _, rfl, hc, hs⟩ := id hR
  obtain ⟨axb, bxb, rfl, _, _⟩ := hc.form
  obtain ⟨cxb, dxb, rfl, _, _⟩ := hs.form
  clear hc hs
  obtain ⟨w10, hw, hB, y0, y1, hzxb⟩ := box2 w9 (.slice axb b.cl.length bxb) (.slice cxb b.st.length dxb) 26
  have Kxb : Hid (∀ W, Below w10.heap.size w10 W → W.cell? ⟨w9.heap.size, 0, none⟩ = some (.slice axb b.cl.length bxb) ∧ W.cell? ⟨w9.heap.size, 1, none⟩ = some (.slice cxb b.st.length dxb)) := fun W h => ⟨(h.cell (p := ⟨w9.heap.size, 0, none⟩) hzxb).trans y0, (h.cell (p := ⟨w9.heap.size, 1, none⟩) hzxb).trans y1⟩
  have HWxb := Lib.hid hw
  have TP_w1 := T_w1
  have TP_w6 := T_w6
  have TP_w8 := T_w8
  replace T_w1 := Lib.hid (T_w1.out.trans (hB.mono T_w1.out.size))
  replace T_w6 := Lib.hid (T_w6.out.trans (hB.mono T_w6.out.size))
  replace T_w8 := Lib.hid (T_w8.out.trans (hB.mono T_w8.out.size))
  replace HXa := Lib.hid (HXa.out.below hB (Nat.le_refl _))
  replace HXb := Lib.hid (HXb.out.below hB (Nat.le_refl _))
  have KPxb : Hid (∀ W, Below w10.heap.size w10 W → PlanR W 0 (.agg #[.slice axb b.cl.length bxb, .slice cxb b.st.length dxb]) b) := fun W h => ((hR.below hB (Nat.le_refl _)).mono (Nat.zero_le _)).below h (Nat.le_refl _)
  clear hw hB hR y0 y1
  have T_w10 := Lib.hid (Below.refl w10.heap.size w10)
  have HBxb : Hid (Own w10 w9.heap.size 26 2 (.slice (some ⟨w9.heap.size, 0, none⟩) 1 1) 1 [.slice axb b.cl.length bxb, .slice cxb b.st.length dxb]) := by rw [HWxb.out]; exact Own.made _ _ _ _ 2 1 rfl (Nat.le_refl _) (by decide)
  have hzgl_w1 := T_w1.out.size
  have hzgl_w6 := T_w6.out.size
  have hzgl_w8 := T_w8.out.size
  have hzgl_w10 := T_w10.out.size
  obtain ⟨uxa0, uxa1⟩ := Kxa.out _ TP_w8.out
  have uzxa : w7.heap.size < w9.heap.size := by have := TP_w8.out.size; omega
  go_wp2_with fail
  rw [← HWxb.out]
  clear HWxb
  clear TP_w1 TP_w6 TP_w8
  refine (impl_SwitchHistory _ 0 0 _ _ a b f first count (KPxa.out _ T_w8.out) (KPxb.out _ T_w10.out)).mono ?_; rintro e w11 ⟨v2, rfl, hO, hB⟩
  clear uxa0 uxa1 uzxa
  replace T_w1 := Lib.hid (T_w1.out.trans (hB.mono T_w1.out.size))
  replace T_w6 := Lib.hid (T_w6.out.trans (hB.mono T_w6.out.size))
  replace T_w8 := Lib.hid (T_w8.out.trans (hB.mono T_w8.out.size))
  replace T_w10 := Lib.hid (T_w10.out.trans (hB.mono T_w10.out.size))
  replace HXa := Lib.hid (HXa.out.below hB (Nat.le_refl _))
  replace HXb := Lib.hid (HXb.out.below hB (Nat.le_refl _))
  replace HBxb := Lib.hid (HBxb.out.below hB (Nat.le_refl _))
  rw [← HTT.out] at hO
  have HG := Lib.hid hO.up
  have hzgi := hB.size
  obtain ⟨av2, cv2, rfl, _, _⟩ := hO.ss.form
  clear hB hO
  go_wp2_with fail
  refine (eqIntSS_same _ _ _ t (HG.out.own.ss.mono (Nat.zero_le _)) (KW.out _ T_w6.out)).mono ?_; rintro e w12 ⟨rfl, hB⟩
  replace T_w1 := Lib.hid (T_w1.out.trans (hB.mono T_w1.out.size))
  replace T_w6 := Lib.hid (T_w6.out.trans (hB.mono T_w6.out.size))
  replace T_w8 := Lib.hid (T_w8.out.trans (hB.mono T_w8.out.size))
  replace T_w10 := Lib.hid (T_w10.out.trans (hB.mono T_w10.out.size))
  replace HXa := Lib.hid (HXa.out.below hB (Nat.le_refl _))
  replace HXb := Lib.hid (HXb.out.below hB (Nat.le_refl _))
  replace HBxb := Lib.hid (HBxb.out.below hB (Nat.le_refl _))
  replace HG := Lib.hid (HG.out.below hB (Nat.le_refl _))
  clear hB
  obtain ⟨ua0, ua1⟩ := Ka.out _ T_w1.out
  obtain ⟨uxa0, uxa1⟩ := Kxa.out _ T_w8.out
  have KC : Hid (∀ W, Below w12.heap.size w12 W → (W.cell? ⟨w.heap.size, 0, none⟩ = some (.slice aca a.cl.length cca) ∧ W.cell? ⟨w.heap.size, 1, none⟩ = some (.slice asa a.st.length csa)) ∧ (W.cell? ⟨w7.heap.size, 0, none⟩ = some (.slice axa a.cl.length bxa) ∧ W.cell? ⟨w7.heap.size, 1, none⟩ = some (.slice cxa a.st.length dxa))) := fun W h => ⟨Ka.out _ (T_w1.out.trans (h.mono T_w1.out.size)), Kxa.out _ (T_w8.out.trans (h.mono T_w8.out.size))⟩
  go_wp2_with fail
  go_region_held3 (fun w' => (w'.cell? ⟨w.heap.size, 0, none⟩ = some (.slice aca a.cl.length cca) ∧ w'.cell? ⟨w.heap.size, 1, none⟩ = some (.slice asa a.st.length csa)) ∧ (w'.cell? ⟨w7.heap.size, 0, none⟩ = some (.slice axa a.cl.length bxa) ∧ w'.cell? ⟨w7.heap.size, 1, none⟩ = some (.slice cxa a.st.length dxa)))
    (first | exact KC.out _ hB8 | exact KC.out _ hB7 | exact KC.out _ (Below.refl _ _) | go_keep | assumption)
    ((first
      | (go_at_call 21; refine (toPlan_any _ _ a (KPa.out _ (T_w1.out.trans ((Below.drew (Below.refl w12.heap.size w12)).mono T_w1.out.size))) HSMa.out).mono ?_; rintro e w13 ⟨v7, rfl, hP7, hB7'⟩; have hB7 : Below w12.heap.size w12 w13 := (Below.drew (Below.refl w12.heap.size w12)).trans hB7')
      | (go_at_call 23; refine (eqPlan_same _ _ _ a (KPxa.out _ (T_w8.out.trans (hB7.mono T_w8.out.size))) (hP7.planR.mono (Nat.zero_le _))).mono ?_; rintro e w14 ⟨rfl, hB8'⟩; have hB8 : Below w12.heap.size w12 w14 := hB7.trans (hB8'.mono hB7.size))))
  clear ua0 ua1 uxa0 uxa1
  have hB := hB8
  replace T_w1 := Lib.hid (T_w1.out.trans (hB.mono T_w1.out.size))
  replace T_w6 := Lib.hid (T_w6.out.trans (hB.mono T_w6.out.size))
  replace T_w8 := Lib.hid (T_w8.out.trans (hB.mono T_w8.out.size))
  replace T_w10 := Lib.hid (T_w10.out.trans (hB.mono T_w10.out.size))
  replace HXa := Lib.hid (HXa.out.below hB (Nat.le_refl _))
  replace HXb := Lib.hid (HXb.out.below hB (Nat.le_refl _))
  replace HBxb := Lib.hid (HBxb.out.below hB (Nat.le_refl _))
  replace HG := Lib.hid (HG.out.below hB (Nat.le_refl _))
  clear KC hB hB8 hB7 hB8' hB7' hP7
  obtain ⟨ub0, ub1⟩ := Kb.out _ T_w1.out
  obtain ⟨uxb0, uxb1⟩ := Kxb.out _ T_w10.out
  have KC : Hid (∀ W, Below w14.heap.size w14 W → (W.cell? ⟨w.heap.size + 1, 0, none⟩ = some (.slice acb b.cl.length ccb) ∧ W.cell? ⟨w.heap.size + 1, 1, none⟩ = some (.slice asb b.st.length csb)) ∧ (W.cell? ⟨w9.heap.size, 0, none⟩ = some (.slice axb b.cl.length bxb) ∧ W.cell? ⟨w9.heap.size, 1, none⟩ = some (.slice cxb b.st.length dxb))) := fun W h => ⟨Kb.out _ (T_w1.out.trans (h.mono T_w1.out.size)), Kxb.out _ (T_w10.out.trans (h.mono T_w10.out.size))⟩
  go_wp2_with fail
  go_region_held3 (fun w' => (w'.cell? ⟨w.heap.size + 1, 0, none⟩ = some (.slice acb b.cl.length ccb) ∧ w'.cell? ⟨w.heap.size + 1, 1, none⟩ = some (.slice asb b.st.length csb)) ∧ (w'.cell? ⟨w9.heap.size, 0, none⟩ = some (.slice axb b.cl.length bxb) ∧ w'.cell? ⟨w9.heap.size, 1, none⟩ = some (.slice cxb b.st.length dxb)))
    (first | exact KC.out _ hB8 | exact KC.out _ hB7 | exact KC.out _ (Below.refl _ _) | go_keep | assumption)
    ((first
      | (go_at_call 21; refine (toPlan_any _ _ b (KPb.out _ (T_w1.out.trans ((Below.drew (Below.refl w14.heap.size w14)).mono T_w1.out.size))) HSMb.out).mono ?_; rintro e w15 ⟨v7, rfl, hP7, hB7'⟩; have hB7 : Below w14.heap.size w14 w15 := (Below.drew (Below.refl w14.heap.size w14)).trans hB7')
      | (go_at_call 23; refine (eqPlan_same _ _ _ b (KPxb.out _ (T_w10.out.trans (hB7.mono T_w10.out.size))) (hP7.planR.mono (Nat.zero_le _))).mono ?_; rintro e w16 ⟨rfl, hB8'⟩; have hB8 : Below w14.heap.size w14 w16 := hB7.trans (hB8'.mono hB7.size))))
  clear ub0 ub1 uxb0 uxb1
  have hB := hB8
  replace T_w1 := Lib.hid (T_w1.out.trans (hB.mono T_w1.out.size))
  replace T_w6 := Lib.hid (T_w6.out.trans (hB.mono T_w6.out.size))
  replace T_w8 := Lib.hid (T_w8.out.trans (hB.mono T_w8.out.size))
  replace T_w10 := Lib.hid (T_w10.out.trans (hB.mono T_w10.out.size))
  replace HXa := Lib.hid (HXa.out.below hB (Nat.le_refl _))
  replace HXb := Lib.hid (HXb.out.below hB (Nat.le_refl _))
  replace HBxb := Lib.hid (HBxb.out.below hB (Nat.le_refl _))
  replace HG := Lib.hid (HG.out.below hB (Nat.le_refl _))
  clear KC hB hB8 hB7 hB8' hB7' hP7
  have hzm_w1 := T_w1.out.size
  have hzm_w6 := T_w6.out.size
  have hzm_w8 := T_w8.out.size
  have hzm_w10 := T_w10.out.size
  clear T_w10
  obtain ⟨u0, u1⟩ := Kxa.out _ T_w8.out
  clear T_w8
  go_wp2_with fail
  refine (markPlan_any _ w6.heap.size w7.heap.size _ a 1 HXa.out (by omega) HSMa.out (by omega)).mono ?_; rintro e w17 ⟨rfl, _, hC⟩
  clear u0 u1
  clear HXa
  obtain ⟨k1, hk1⟩ : ∃ k, k = 1 + totP a := ⟨_, rfl⟩
  rw [← hk1]
  have hkb1 : k1 ≤ 20000000000000 * 1 := by have := HSMa.out.totP; omega
  have Hk1 := Lib.hid hk1
  clear hk1
  replace T_w1 := Lib.hid (T_w1.out.trans (hC.below (B := w1.heap.size) T_w1.out.size (by omega)))
  replace T_w6 := Lib.hid (T_w6.out.trans (hC.below (B := w6.heap.size) T_w6.out.size (by omega)))
  replace HXb := Lib.hid (HXb.out.chg hC (fun k hk => by have := hk.1; have := hk.2; omega))
  replace HBxb := Lib.hid (HBxb.out.chg hC (fun k hk => by have := hk.1; have := hk.2; omega))
  replace HG := Lib.hid (HG.out.chg hC (fun k hk => by have := hk.1; have := hk.2; omega))
  have hzs1 := hC.size
  clear hC
  obtain ⟨_, e1, _, _, p1, _, _⟩ := HBxb.out.parts (by omega)
  cases e1
  have u0 := p1 0 (by simp)
  have u1 := p1 1 (by simp)
  simp only [List.getElem_cons_zero, List.getElem_cons_succ] at u0 u1
  clear p1
  clear HBxb
  go_wp2_with fail
  refine (markPlan_any _ w8.heap.size w9.heap.size _ b k1 HXb.out (by omega) HSMb.out (by omega)).mono ?_; rintro e w18 ⟨rfl, _, hC⟩
  clear u0 u1
  clear HXb
  obtain ⟨k2, hk2⟩ : ∃ k, k = k1 + totP b := ⟨_, rfl⟩
  rw [← hk2]
  have hkb2 : k2 ≤ 20000000000000 * 2 := by have := HSMb.out.totP; omega
  have Hk2 := Lib.hid hk2
  clear hk2
  replace T_w1 := Lib.hid (T_w1.out.trans (hC.below (B := w1.heap.size) T_w1.out.size (by omega)))
  replace T_w6 := Lib.hid (T_w6.out.trans (hC.below (B := w6.heap.size) T_w6.out.size (by omega)))
  replace HG := Lib.hid (HG.out.chg hC (fun k hk => by have := hk.1; have := hk.2; omega))
  have hzs2 := hC.size
  clear hC
  have hkd : decide ((k2 : Int) < 0) = false := decide_eq_false (by omega)
  go_wp2_with fail
  refine (eqIntSS_same _ _ _ t (HG.out.own.ss.mono (Nat.zero_le _)) (KW.out _ T_w6.out)).mono ?_; rintro e w19 ⟨rfl, hB⟩
  replace T_w1 := Lib.hid (T_w1.out.trans (hB.mono T_w1.out.size))
  replace T_w6 := Lib.hid (T_w6.out.trans (hB.mono T_w6.out.size))
  replace HG := Lib.hid (HG.out.below hB (Nat.le_refl _))
  clear hB
  have hzmg_w1 := T_w1.out.size
  have hzmg_w6 := T_w6.out.size
  go_wp2_with fail
  refine (markIntSS_any _ _ _ _ t 1 HG.out (by omega) HTR.out (by omega)).mono ?_; rintro e w20 ⟨rfl, hG, hC⟩
  replace HG := Lib.hid hG
  clear hG
  replace T_w1 := Lib.hid (T_w1.out.trans (hC.below (B := w1.heap.size) T_w1.out.size (by omega)))
  replace T_w6 := Lib.hid (T_w6.out.trans (hC.below (B := w6.heap.size) T_w6.out.size (by omega)))
  clear hC
  have htb := tot_bd HTR.out t.length (Nat.le_refl _)
  obtain ⟨km, hkm⟩ : ∃ k, k = 1 + tot t t.length := ⟨_, rfl⟩
  rw [← hkm]
  have HKM := Lib.hid hkm
  have d1 : decide ((km : Int) < 0) = false := decide_eq_false (by omega)
  have d2 : ((km : Int) != (km : Int)) = false := by simp
  clear hkm htb
  go_wp2_with fail
  refine (heldIntSS_any _ _ _ t 1 HG.out.own.ss (by omega) HTR.out (by omega)).mono ?_; rintro e _ ⟨rfl, rfl⟩
  rw [← HKM.out]
  have KC : Hid (∀ W, Below w20.heap.size w20 W → (W.cell? ⟨w.heap.size, 0, none⟩ = some (.slice aca a.cl.length cca) ∧ W.cell? ⟨w.heap.size, 1, none⟩ = some (.slice asa a.st.length csa)) ∧ (W.cell? ⟨w.heap.size + 1, 0, none⟩ = some (.slice acb b.cl.length ccb) ∧ W.cell? ⟨w.heap.size + 1, 1, none⟩ = some (.slice asb b.st.length csb))) := fun W h => ⟨Ka.out _ (T_w1.out.trans (h.mono T_w1.out.size)), Kb.out _ (T_w1.out.trans (h.mono T_w1.out.size))⟩
  obtain ⟨⟨x00, x01⟩, ⟨x10, x11⟩⟩ := KC.out _ (Below.refl _ _)
  go_wp2_with fail
  go_region_held3 (fun W => (W.cell? ⟨w.heap.size, 0, none⟩ = some (.slice aca a.cl.length cca) ∧ W.cell? ⟨w.heap.size, 1, none⟩ = some (.slice asa a.st.length csa)) ∧ (W.cell? ⟨w.heap.size + 1, 0, none⟩ = some (.slice acb b.cl.length ccb) ∧ W.cell? ⟨w.heap.size + 1, 1, none⟩ = some (.slice asb b.st.length csb)))
    (first | exact KC.out _ hBy2 | exact KC.out _ hBy1 | exact KC.out _ hBy0 | exact KC.out _ (Below.refl _ _) | exact KC.out _ (Below.drew (Below.refl w20.heap.size w20)) | go_keep | assumption)
    ((first
      | (go_at_call 21; (with_reducible refine (toPlan_any _ (.agg #[.slice aca a.cl.length cca, .slice asa a.st.length csa]) a (KPa.out _ (T_w1.out.trans ((Below.drew (Below.refl w20.heap.size w20)).mono T_w1.out.size))) HSMa.out).mono ?_); rintro e w21 ⟨vza, rfl, hPra, hBx0⟩; have hBy0 : Below w20.heap.size w20 w21 := (Below.drew (Below.refl w20.heap.size w20)).trans (hBx0.mono (Below.drew (Below.refl w20.heap.size w20)).size); skip)
      | (go_at_call 21; (with_reducible refine (toPlan_any _ (.agg #[.slice acb b.cl.length ccb, .slice asb b.st.length csb]) b (KPb.out _ (T_w1.out.trans (hBy0.mono T_w1.out.size))) HSMb.out).mono ?_); rintro e w22 ⟨vzb, rfl, hPrb, hBx1⟩; have hBy1 : Below w20.heap.size w20 w22 := hBy0.trans (hBx1.mono hBy0.size); have hPra := hPra.below hBx1 (Nat.le_refl _); skip)
      | (go_at_call 43; refine (impl_SwitchHistory _ 0 0 _ _ a b f first count (hPra.planR.mono (Nat.zero_le _)) (hPrb.planR.mono (Nat.zero_le _))).mono ?_; rintro e w23 ⟨v3, rfl, hO, hBx2⟩; have hBy2 : Below w20.heap.size w20 w23 := hBy1.trans (hBx2.mono hBy1.size))))
  have hB := hBy2
  replace T_w1 := Lib.hid (T_w1.out.trans (hB.mono T_w1.out.size))
  replace T_w6 := Lib.hid (T_w6.out.trans (hB.mono T_w6.out.size))
  replace HG := Lib.hid (HG.out.below hB (Nat.le_refl _))
  replace hO := hO.mono hBy1.size
  clear KC hB x00 x01 x10 x11 hPra hPrb hBx2 hBy2 hBx1 hBy1 hBx0 hBy0
  rw [← HTT.out] at hO
  have HH := Lib.hid hO
  obtain ⟨av3, cv3, rfl, _, _⟩ := hO.ss.form
  clear hO
  go_wp2_with fail
  refine (eqIntSS_same _ _ _ t (HH.out.ss.mono (Nat.zero_le _)) (KW.out _ T_w6.out)).mono ?_; rintro e w24 ⟨rfl, hB⟩
  replace T_w1 := Lib.hid (T_w1.out.trans (hB.mono T_w1.out.size))
  replace T_w6 := Lib.hid (T_w6.out.trans (hB.mono T_w6.out.size))
  replace HG := Lib.hid (HG.out.below hB (Nat.le_refl _))
  replace HH := Lib.hid (HH.out.below hB (Nat.le_refl _))
  clear hB
  clear HH
  go_wp2_with fail
  refine (heldIntSS_any _ _ _ t 1 HG.out.own.ss (by omega) HTR.out (by omega)).mono ?_; rintro e _ ⟨rfl, rfl⟩
  rw [← HKM.out]
  go_wp2_with fail
  go_ret
  exact ⟨rfl, TW.out.trans (T_w1.out.mono TW.out.size)⟩
end Go.Proofs.Ytokpgipbgkiepaa
