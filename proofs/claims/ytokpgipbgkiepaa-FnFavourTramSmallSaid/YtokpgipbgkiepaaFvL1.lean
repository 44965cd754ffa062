/- FnExactFavourTram: the walk. -/
import Derived.Test.YtokpgipbgkiepaaCp3
import Derived.Test.YtokpgipbgkiepaaFv3
namespace Go.Proofs.Ytokpgipbgkiepaa
open Go.RowKit
set_option linter.unusedVariables false
set_option linter.unusedSimpArgs false

theorem box2 (w : World) (a b : Value) (T : TypeId) : ∃ w0, w0 = w.alloc (.cells #[a, b] T) ∧ Below w.heap.size w w0 ∧ w0.cell? ⟨w.heap.size, 0, none⟩ = some a ∧ w0.cell? ⟨w.heap.size, 1, none⟩ = some b ∧ w.heap.size < w0.heap.size := by
  refine ⟨_, rfl, (Below.refl _ _).alloc (Nat.le_refl _) _, ?_, ?_, by simp⟩
  · rw [cell_of_row _ w.heap.size 0 #[a, b] T (0, 0) (heap_alloc_new w _)]; simp
  · rw [cell_of_row _ w.heap.size 1 #[a, b] T (0, 0) (heap_alloc_new w _)]; simp
theorem f1_len (p : Pln) (st : Nat) (s : Int) (n : Nat) (h : n ≤ 6) : (f1 p st s n).length = p.st.length := by
  rcases f1_good p st s n h with h | ⟨_, _, _, _, _, _, _, _, h, _⟩
  · rw [h, grs_len]
  · rw [h, shf_len, grs_len]
theorem favO_len (p : Pln) (st s : Int) : (favO p st s).length ≤ 1000 := by
  cases h : vTram p st s
  · rw [favO_no h]; simp
  · rw [favO_yes h]
    have hv : validP p = true := by unfold vTram at h; simp only [Bool.and_eq_true] at h; exact h.1.1
    have := (validP_iff.1 hv).2.2.1
    have := f1_len p st.toNat s 6 (Nat.le_refl _)
    unfold fav; omega
set_option maxHeartbeats 16000000 in
theorem fnExactFavourTram_walk (w : World) (vp : Value) (p : Pln) (st : Int) (s : Int) (hvp : PlanR w 0 vp p) (_ : in64 st) (_ : in64 s) :
    Calls Try.prog 7 #[vp, .int .i64 st, .int .i64 s] w fun e w' => e = .returned (.bool true) ∧ Below w.heap.size w w' := by
  have hvp0 := hvp
  obtain ⟨vcp, vsp, rfl, hc, hs⟩ := hvp
  obtain ⟨acp, ccp, rfl, _, _⟩ := hc.form
  obtain ⟨asp, csp, rfl, _, _⟩ := hs.form
  clear hc hs
  obtain ⟨w1, hw, hB, y0, y1, hzp⟩ := box2 w (.slice acp p.cl.length ccp) (.slice asp p.st.length csp) 40
  have Kp : Hid (∀ W, Below w1.heap.size w1 W → W.cell? ⟨w.heap.size, 0, none⟩ = some (.slice acp p.cl.length ccp) ∧ W.cell? ⟨w.heap.size, 1, none⟩ = some (.slice asp p.st.length csp)) := fun W h => ⟨(h.cell (p := ⟨w.heap.size, 0, none⟩) hzp).trans y0, (h.cell (p := ⟨w.heap.size, 1, none⟩) hzp).trans y1⟩
  have HWp := Lib.hid hw
  have TW := Lib.hid hB
  clear hw hB y0 y1
  have KPp : Hid (∀ W, Below w1.heap.size w1 W → PlanR W 0 (.agg #[.slice acp p.cl.length ccp, .slice asp p.st.length csp]) p) := fun W h => (hvp0.below TW.out (Nat.le_refl _)).below h (Nat.le_refl _)
  have T_w1 := Lib.hid (Below.refl w1.heap.size w1)
  clear hvp0
  go_enter Try.func7, Try.ntmps7
  go_wp2_with fail
  rw [← HWp.out]
  clear HWp
  refine (szPlan_any _ 0 _ p 1048576 (KPp.out _ T_w1.out) (by omega)).mono ?_; rintro e w2 ⟨rp, rfl, ⟨hq1, hq2, hq3⟩, hB⟩
  replace T_w1 := Lib.hid (T_w1.out.trans (hB.mono T_w1.out.size))
  clear hB
  by_cases hr : rp < 0
  · have d1 : decide (rp < 0) = true := decide_eq_true hr
    clear hq2 hq3
    go_wp2_with fail
    go_ret
    exact ⟨rfl, TW.out.trans (T_w1.out.mono TW.out.size)⟩
  have dp : decide (rp < 0) = false := decide_eq_false hr
  have HSMp := Lib.hid (hq3 (by omega))
  clear hq2 hq3 hr
  obtain ⟨xs, hxs⟩ : ∃ x, x = favO p st s := ⟨_, rfl⟩
  have HXS := Lib.hid hxs
  have hxl : xs.length ≤ 1000 := by rw [hxs]; exact favO_len p st s
  clear hxs
  obtain ⟨up0, up1⟩ := Kp.out _ T_w1.out
  go_wp2_with fail
  refine (toPlan_any _ _ p (KPp.out _ T_w1.out) HSMp.out).mono ?_; rintro e w3 ⟨vsp, rfl, hP, hB⟩
  clear up0 up1
  replace T_w1 := Lib.hid (T_w1.out.trans (hB.mono T_w1.out.size))
  have HSp := Lib.hid hP
  clear hP hB
  go_wp2_with fail
  refine (spec_favourTram _ 0 _ p st s (HSp.out.planR.mono (Nat.zero_le _))).mono ?_; rintro e w4 ⟨v1, rfl, hR, hB⟩
  replace T_w1 := Lib.hid (T_w1.out.trans (hB.mono T_w1.out.size))
  replace HSp := Lib.hid (HSp.out.below hB (Nat.le_refl _))
  clear hB
  clear HSp
  rw [← HXS.out] at hR
  have KW : Hid (∀ W, Below w4.heap.size w4 W → Ints W 0 v1 xs) := fun W h => Rd.mono (Rd.below hR.rd h (Nat.le_refl _) (by decide)) (Nat.zero_le _)
  obtain ⟨av1, cv1, rfl, _, _⟩ := hR.form
  clear hR
  have T_w4 := Lib.hid (Below.refl w4.heap.size w4)
  have hzxp_w1 := T_w1.out.size
  have hzxp_w4 := T_w4.out.size
  obtain ⟨up0, up1⟩ := Kp.out _ T_w1.out
  go_wp2_with fail
  refine (toPlan_any _ _ p (KPp.out _ T_w1.out) HSMp.out).mono ?_; rintro e w5 ⟨vxp, rfl, hP, hB⟩
  clear up0 up1
  replace T_w1 := Lib.hid (T_w1.out.trans (hB.mono T_w1.out.size))
  replace T_w4 := Lib.hid (T_w4.out.trans (hB.mono T_w4.out.size))
  have HXp := Lib.hid hP
  replace HXp := Lib.hid (HXp.out.up hB.size)
  have hzhp := hB.size
  clear hB hP
  have hR := HXp.out.planR
  obtain ⟨_, _, rfl, hc, hs⟩ := id hR
  obtain ⟨axp, bxp, rfl, _, _⟩ := hc.form
  obtain ⟨cxp, dxp, rfl, _, _⟩ := hs.form
  clear hc hs
  obtain ⟨w6, hw, hB, y0, y1, hzxp⟩ := box2 w5 (.slice axp p.cl.length bxp) (.slice cxp p.st.length dxp) 26
  have Kxp : Hid (∀ W, Below w6.heap.size w6 W → W.cell? ⟨w5.heap.size, 0, none⟩ = some (.slice axp p.cl.length bxp) ∧ W.cell? ⟨w5.heap.size, 1, none⟩ = some (.slice cxp p.st.length dxp)) := fun W h => ⟨(h.cell (p := ⟨w5.heap.size, 0, none⟩) hzxp).trans y0, (h.cell (p := ⟨w5.heap.size, 1, none⟩) hzxp).trans y1⟩
  have HWxp := Lib.hid hw
  have TP_w1 := T_w1
  have TP_w4 := T_w4
  replace T_w1 := Lib.hid (T_w1.out.trans (hB.mono T_w1.out.size))
  replace T_w4 := Lib.hid (T_w4.out.trans (hB.mono T_w4.out.size))
  replace HXp := Lib.hid (HXp.out.below hB (Nat.le_refl _))
  have KPxp : Hid (∀ W, Below w6.heap.size w6 W → PlanR W 0 (.agg #[.slice axp p.cl.length bxp, .slice cxp p.st.length dxp]) p) := fun W h => ((hR.below hB (Nat.le_refl _)).mono (Nat.zero_le _)).below h (Nat.le_refl _)
  clear hw hB hR y0 y1
  have T_w6 := Lib.hid (Below.refl w6.heap.size w6)
  have hzgl_w1 := T_w1.out.size
  have hzgl_w4 := T_w4.out.size
  have hzgl_w6 := T_w6.out.size
  go_wp2_with fail
  rw [← HWxp.out]
  clear HWxp
  clear TP_w1 TP_w4
  refine (impl_favourTram _ 0 _ p st s (KPxp.out _ T_w6.out)).mono ?_; rintro e w7 ⟨v2, rfl, hO, hB⟩
  replace T_w1 := Lib.hid (T_w1.out.trans (hB.mono T_w1.out.size))
  replace T_w4 := Lib.hid (T_w4.out.trans (hB.mono T_w4.out.size))
  replace T_w6 := Lib.hid (T_w6.out.trans (hB.mono T_w6.out.size))
  replace HXp := Lib.hid (HXp.out.below hB (Nat.le_refl _))
  rw [← HXS.out] at hO
  have HG := Lib.hid hO
  have HWG : Hid (∀ k, wblk v2 = some k → w6.heap.size ≤ k ∧ k < w7.heap.size) := fun k hk => hO.wblk hk
  have hzgi := hB.size
  obtain ⟨av2, cv2, rfl, _, _⟩ := hO.form
  clear hB hO
  go_wp2_with fail
  refine (eqIntS_same _ _ _ xs (HG.out.rd.mono (Nat.zero_le _)) (KW.out _ T_w4.out)).mono ?_; rintro e w8 ⟨rfl, hB⟩
  replace T_w1 := Lib.hid (T_w1.out.trans (hB.mono T_w1.out.size))
  replace T_w4 := Lib.hid (T_w4.out.trans (hB.mono T_w4.out.size))
  replace T_w6 := Lib.hid (T_w6.out.trans (hB.mono T_w6.out.size))
  replace HXp := Lib.hid (HXp.out.below hB (Nat.le_refl _))
  replace HG := Lib.hid (HG.out.below hB (Nat.le_refl _))
  clear hB
  obtain ⟨up0, up1⟩ := Kp.out _ T_w1.out
  obtain ⟨uxp0, uxp1⟩ := Kxp.out _ T_w6.out
  have KC : Hid (∀ W, Below w8.heap.size w8 W → (W.cell? ⟨w.heap.size, 0, none⟩ = some (.slice acp p.cl.length ccp) ∧ W.cell? ⟨w.heap.size, 1, none⟩ = some (.slice asp p.st.length csp)) ∧ (W.cell? ⟨w5.heap.size, 0, none⟩ = some (.slice axp p.cl.length bxp) ∧ W.cell? ⟨w5.heap.size, 1, none⟩ = some (.slice cxp p.st.length dxp))) := fun W h => ⟨Kp.out _ (T_w1.out.trans (h.mono T_w1.out.size)), Kxp.out _ (T_w6.out.trans (h.mono T_w6.out.size))⟩
  go_wp2_with fail
  go_region_held3 (fun w' => (w'.cell? ⟨w.heap.size, 0, none⟩ = some (.slice acp p.cl.length ccp) ∧ w'.cell? ⟨w.heap.size, 1, none⟩ = some (.slice asp p.st.length csp)) ∧ (w'.cell? ⟨w5.heap.size, 0, none⟩ = some (.slice axp p.cl.length bxp) ∧ w'.cell? ⟨w5.heap.size, 1, none⟩ = some (.slice cxp p.st.length dxp)))
    (first | exact KC.out _ hB8 | exact KC.out _ hB7 | exact KC.out _ (Below.refl _ _) | go_keep | assumption)
    ((first
      | (go_at_call 21; refine (toPlan_any _ _ p (KPp.out _ (T_w1.out.trans ((Below.drew (Below.refl w8.heap.size w8)).mono T_w1.out.size))) HSMp.out).mono ?_; rintro e w9 ⟨v7, rfl, hP7, hB7'⟩; have hB7 : Below w8.heap.size w8 w9 := (Below.drew (Below.refl w8.heap.size w8)).trans hB7')
      | (go_at_call 23; refine (eqPlan_same _ _ _ p (KPxp.out _ (T_w6.out.trans (hB7.mono T_w6.out.size))) (hP7.planR.mono (Nat.zero_le _))).mono ?_; rintro e w10 ⟨rfl, hB8'⟩; have hB8 : Below w8.heap.size w8 w10 := hB7.trans (hB8'.mono hB7.size))))
  clear up0 up1 uxp0 uxp1
  have hB := hB8
  replace T_w1 := Lib.hid (T_w1.out.trans (hB.mono T_w1.out.size))
  replace T_w4 := Lib.hid (T_w4.out.trans (hB.mono T_w4.out.size))
  replace T_w6 := Lib.hid (T_w6.out.trans (hB.mono T_w6.out.size))
  replace HXp := Lib.hid (HXp.out.below hB (Nat.le_refl _))
  replace HG := Lib.hid (HG.out.below hB (Nat.le_refl _))
  clear KC hB hB8 hB7 hB8' hB7' hP7
  have hzm_w1 := T_w1.out.size
  have hzm_w4 := T_w4.out.size
  have hzm_w6 := T_w6.out.size
  obtain ⟨u0, u1⟩ := Kxp.out _ T_w6.out
  clear T_w6
  go_wp2_with fail
  refine (markPlan_any _ w4.heap.size w5.heap.size _ p 1 HXp.out (by omega) HSMp.out (by omega)).mono ?_; rintro e w11 ⟨rfl, _, hC⟩
  clear u0 u1
  clear HXp
  obtain ⟨k1, hk1⟩ : ∃ k, k = 1 + totP p := ⟨_, rfl⟩
  rw [← hk1]
  have hkb1 : k1 ≤ 20000000000000 * 1 := by have := HSMp.out.totP; omega
  have Hk1 := Lib.hid hk1
  clear hk1
  replace T_w1 := Lib.hid (T_w1.out.trans (hC.below (B := w1.heap.size) T_w1.out.size (by omega)))
  replace T_w4 := Lib.hid (T_w4.out.trans (hC.below (B := w4.heap.size) T_w4.out.size (by omega)))
  replace HG := Lib.hid (HG.out.chg hC (fun k hk => by have := hk.1; have := hk.2; omega))
  have hzs1 := hC.size
  clear hC
  have hkd : decide ((k1 : Int) < 0) = false := decide_eq_false (by omega)
  go_wp2_with fail
  refine (eqIntS_same _ _ _ xs (HG.out.rd.mono (Nat.zero_le _)) (KW.out _ T_w4.out)).mono ?_; rintro e w12 ⟨rfl, hB⟩
  replace T_w1 := Lib.hid (T_w1.out.trans (hB.mono T_w1.out.size))
  replace T_w4 := Lib.hid (T_w4.out.trans (hB.mono T_w4.out.size))
  replace HG := Lib.hid (HG.out.below hB (Nat.le_refl _))
  clear hB
  have hzmg_w1 := T_w1.out.size
  have hzmg_w4 := T_w4.out.size
  go_wp2_with fail
  refine (markIntS_any _ _ _ _ 1 _ HG.out (by omega)).mono ?_; rintro e w13 ⟨rfl, hG, hg⟩
  have hC : ChgIn w6.heap.size w7.heap.size w12 w13 := chg_of_grownBy hg (fun k hk => .inl (HWG.out k hk))
  clear hg
  replace HG := Lib.hid hG
  clear hG
  replace T_w1 := Lib.hid (T_w1.out.trans (hC.below (B := w1.heap.size) T_w1.out.size (by omega)))
  replace T_w4 := Lib.hid (T_w4.out.trans (hC.below (B := w4.heap.size) T_w4.out.size (by omega)))
  clear hC
  have d1 : decide (((1 : Nat) : Int) + (xs.length : Int) < 0) = false := decide_eq_false (by omega)
  have d1' : decide ((1 : Int) + (xs.length : Int) < 0) = false := decide_eq_false (by omega)
  have d2 : ((1 : Int) + (xs.length : Int) != (1 : Int) + (xs.length : Int)) = false := by simp
  have d3 : (((1 : Nat) : Int) + (xs.length : Int) != ((1 : Nat) : Int) + (xs.length : Int)) = false := by simp
  go_wp2_with fail
  refine (heldIntS_any _ _ _ _ 1 HG.out.rd (by omega)).mono ?_; rintro e _ ⟨rfl, rfl⟩
  obtain ⟨up0, up1⟩ := Kp.out _ T_w1.out
  go_wp2_with fail
  refine (toPlan_any _ _ p (KPp.out _ T_w1.out) HSMp.out).mono ?_; rintro e w14 ⟨vzp, rfl, hP, hB⟩
  clear up0 up1
  replace T_w1 := Lib.hid (T_w1.out.trans (hB.mono T_w1.out.size))
  replace T_w4 := Lib.hid (T_w4.out.trans (hB.mono T_w4.out.size))
  replace HG := Lib.hid (HG.out.below hB (Nat.le_refl _))
  have HZp := Lib.hid hP
  clear hP hB
  go_wp2_with fail
  refine (impl_favourTram _ 0 _ p st s (HZp.out.planR.mono (Nat.zero_le _))).mono ?_; rintro e w15 ⟨v3, rfl, hO, hB⟩
  replace T_w1 := Lib.hid (T_w1.out.trans (hB.mono T_w1.out.size))
  replace T_w4 := Lib.hid (T_w4.out.trans (hB.mono T_w4.out.size))
  replace HG := Lib.hid (HG.out.below hB (Nat.le_refl _))
  replace HZp := Lib.hid (HZp.out.below hB (Nat.le_refl _))
  clear hB
  clear HZp
  rw [← HXS.out] at hO
  have HH := Lib.hid hO
  obtain ⟨av3, cv3, rfl, _, _⟩ := hO.form
  clear hO
  go_wp2_with fail
  refine (eqIntS_same _ _ _ xs (HH.out.rd.mono (Nat.zero_le _)) (KW.out _ T_w4.out)).mono ?_; rintro e w16 ⟨rfl, hB⟩
  replace T_w1 := Lib.hid (T_w1.out.trans (hB.mono T_w1.out.size))
  replace T_w4 := Lib.hid (T_w4.out.trans (hB.mono T_w4.out.size))
  replace HG := Lib.hid (HG.out.below hB (Nat.le_refl _))
  replace HH := Lib.hid (HH.out.below hB (Nat.le_refl _))
  clear hB
  clear HH
  go_wp2_with fail
  refine (heldIntS_any _ _ _ _ 1 HG.out.rd (by omega)).mono ?_; rintro e _ ⟨rfl, rfl⟩
  go_wp2_with fail
  go_ret
  exact ⟨rfl, TW.out.trans (T_w1.out.mono TW.out.size)⟩
end Go.Proofs.Ytokpgipbgkiepaa
