/- FnSwitchedGreen: the walk. -/
import Derived.Test.YtokpgipbgkiepaaSwA
import Derived.Test.YtokpgipbgkiepaaSwB
import Derived.Test.YtokpgipbgkiepaaDrSA
import Derived.Test.YtokpgipbgkiepaaEqI
import Derived.Test.YtokpgipbgkiepaaPlG
namespace Go.Proofs.Ytokpgipbgkiepaa
open Go.RowKit
set_option linter.unusedVariables false
set_option linter.unusedSimpArgs false

set_option maxHeartbeats 16000000 in
theorem fnSwitchedGreen_walk (w : World) (v : Value) (bs : List UInt8) (hv : Bytes w 0 v bs) :
    Calls Try.prog 8 #[v] w fun e w' => e = .returned (.bool true) ∧ Below w.heap.size w w' := by
  obtain ⟨ao, cap, rfl, hcap, hm⟩ := hv.form
  by_cases hlen : bs.length ≤ 1048576
  case neg =>
    go_enter Try.func8, Try.ntmps8
    go_wp2
    go_ret
    exact ⟨rfl, Below.refl _ _⟩
  have T_w := Lib.hid (Below.refl w.heap.size w)
  go_enter Try.func8, Try.ntmps8
  go_wp2_with fail
  go_at_call 35
  refine (drawSwitchedGreen _ _ bs hv).mono ?_; rintro e w1 ⟨va, vb, a, b, f, s, rfl, hPa, hPb, hB⟩
  replace T_w := Lib.hid (T_w.out.trans (hB.mono T_w.out.size))
  clear hB hv
  obtain ⟨aca, cca, asa, csa, rfl, _, _⟩ := hPa.aggs
  obtain ⟨acb, ccb, asb, csb, rfl, _, _⟩ := hPb.aggs
  obtain ⟨w2, hw, hB, hzab, K2⟩ := two_box w1 (.slice aca a.cl.length cca) (.slice asa a.st.length csa) (.slice acb b.cl.length ccb) (.slice asb b.st.length csb) 26
  have Ka : Hid (∀ W, Below w2.heap.size w2 W → W.cell? ⟨w1.heap.size, 0, none⟩ = some (.slice aca a.cl.length cca) ∧ W.cell? ⟨w1.heap.size, 1, none⟩ = some (.slice asa a.st.length csa)) := fun W h => (K2 W h).1
  have KPa : Hid (∀ W, Below w2.heap.size w2 W → PlanR W 0 (.agg #[.slice aca a.cl.length cca, .slice asa a.st.length csa]) a) := fun W h => ((hPa.below hB (Nat.le_refl _)).mono (Nat.zero_le _)).below h (Nat.le_refl _)
  have Kb : Hid (∀ W, Below w2.heap.size w2 W → W.cell? ⟨w1.heap.size + 1, 0, none⟩ = some (.slice acb b.cl.length ccb) ∧ W.cell? ⟨w1.heap.size + 1, 1, none⟩ = some (.slice asb b.st.length csb)) := fun W h => (K2 W h).2
  have KPb : Hid (∀ W, Below w2.heap.size w2 W → PlanR W 0 (.agg #[.slice acb b.cl.length ccb, .slice asb b.st.length csb]) b) := fun W h => ((hPb.below hB (Nat.le_refl _)).mono (Nat.zero_le _)).below h (Nat.le_refl _)
  have HWab := Lib.hid hw
  replace T_w := Lib.hid (T_w.out.trans (hB.mono T_w.out.size))
  clear hw hB K2 hPa hPb
  have T_w2 := Lib.hid (Below.refl w2.heap.size w2)
  obtain ⟨xs, hxs⟩ : ∃ x, x = swO a b f s := ⟨_, rfl⟩
  have HXS := Lib.hid hxs
  clear hxs
  go_wp2_with fail
  rw [← HWab.out]
  clear HWab
  refine (impl_SwitchedGreen _ 0 0 _ _ a b f s (KPa.out _ T_w2.out) (KPb.out _ T_w2.out)).mono ?_; rintro e w3 ⟨v1, rfl, hO, hB⟩
  replace T_w := Lib.hid (T_w.out.trans (hB.mono T_w.out.size))
  replace T_w2 := Lib.hid (T_w2.out.trans (hB.mono T_w2.out.size))
  clear hB
  rw [← HXS.out] at hO
  have Kv1 : Hid (∀ W, Below w3.heap.size w3 W → Ints W 0 v1 xs) := fun W h => Rd.mono (Rd.below hO.rd h (Nat.le_refl _) (by decide)) (Nat.zero_le _)
  obtain ⟨av1, cv1, rfl, _, _⟩ := hO.form
  clear hO
  have T_w3 := Lib.hid (Below.refl w3.heap.size w3)
  obtain ⟨ua0, ua1⟩ := Ka.out _ T_w2.out
  obtain ⟨ub0, ub1⟩ := Kb.out _ T_w2.out
  go_wp2_with fail
  refine (spec_SwitchedGreen _ 0 0 _ _ a b f s (KPa.out _ T_w2.out) (KPb.out _ T_w2.out)).mono ?_; rintro e w4 ⟨v2, rfl, hO, hB⟩
  clear ua0 ua1 ub0 ub1
  replace T_w := Lib.hid (T_w.out.trans (hB.mono T_w.out.size))
  replace T_w2 := Lib.hid (T_w2.out.trans (hB.mono T_w2.out.size))
  replace T_w3 := Lib.hid (T_w3.out.trans (hB.mono T_w3.out.size))
  clear hB
  rw [← HXS.out] at hO
  have Kv2 : Hid (∀ W, Below w4.heap.size w4 W → Ints W 0 v2 xs) := fun W h => Rd.mono (Rd.below hO.rd h (Nat.le_refl _) (by decide)) (Nat.zero_le _)
  obtain ⟨av2, cv2, rfl, _, _⟩ := hO.form
  clear hO
  have T_w4 := Lib.hid (Below.refl w4.heap.size w4)
  go_wp2_with fail
  refine (equalInts_same _ _ _ xs (Kv1.out _ T_w3.out) (Kv2.out _ T_w4.out)).mono ?_; rintro e w5 ⟨rfl, hB⟩
  replace T_w := Lib.hid (T_w.out.trans (hB.mono T_w.out.size))
  replace T_w2 := Lib.hid (T_w2.out.trans (hB.mono T_w2.out.size))
  replace T_w3 := Lib.hid (T_w3.out.trans (hB.mono T_w3.out.size))
  replace T_w4 := Lib.hid (T_w4.out.trans (hB.mono T_w4.out.size))
  clear hB
  by_cases hz : xs.length = 0
  · have hz1 : ((xs.length : Int) == 0) = true := by rw [hz]; rfl
    clear hz
    obtain ⟨ua0, ua1⟩ := Ka.out _ T_w2.out
    obtain ⟨ub0, ub1⟩ := Kb.out _ T_w2.out
    go_wp2_with fail
    refine (spec_SwitchedGreen _ 0 0 _ _ a b f s (KPa.out _ T_w2.out) (KPb.out _ T_w2.out)).mono ?_; rintro e w6 ⟨v3, rfl, hO, hB⟩
    clear ua0 ua1 ub0 ub1
    replace T_w := Lib.hid (T_w.out.trans (hB.mono T_w.out.size))
    replace T_w2 := Lib.hid (T_w2.out.trans (hB.mono T_w2.out.size))
    replace T_w3 := Lib.hid (T_w3.out.trans (hB.mono T_w3.out.size))
    replace T_w4 := Lib.hid (T_w4.out.trans (hB.mono T_w4.out.size))
    clear hB
    rw [← HXS.out] at hO
    have Kv3 : Hid (∀ W, Below w6.heap.size w6 W → Ints W 0 v3 xs) := fun W h => Rd.mono (Rd.below hO.rd h (Nat.le_refl _) (by decide)) (Nat.zero_le _)
    obtain ⟨av3, cv3, rfl, _, _⟩ := hO.form
    clear hO
    have T_w6 := Lib.hid (Below.refl w6.heap.size w6)
    go_wp2_with fail
    refine (equalInts_same _ _ _ xs (Kv1.out _ T_w3.out) (Kv3.out _ T_w6.out)).mono ?_; rintro e w7 ⟨rfl, hB⟩
    replace T_w := Lib.hid (T_w.out.trans (hB.mono T_w.out.size))
    replace T_w2 := Lib.hid (T_w2.out.trans (hB.mono T_w2.out.size))
    replace T_w3 := Lib.hid (T_w3.out.trans (hB.mono T_w3.out.size))
    replace T_w4 := Lib.hid (T_w4.out.trans (hB.mono T_w4.out.size))
    replace T_w6 := Lib.hid (T_w6.out.trans (hB.mono T_w6.out.size))
    clear hB
    go_wp2_with fail
    go_ret
    exact ⟨rfl, T_w.out⟩
  have hz1 : ((xs.length : Int) == 0) = false := beq_eq_false_iff_ne.mpr (by omega)
  obtain ⟨F1, F2, F3⟩ := sg_facts (a := a) (b := b) (f := f) (s := s) (xs := xs) HXS.out (by omega)
  have HF1 := Lib.hid F1
  have HF2 := Lib.hid F2
  have HF3 := Lib.hid F3
  clear F1 F2 F3 hz
  have HCa : Hid (∀ W, Below w2.heap.size w2 W → IntSS W 0 (.slice aca a.cl.length cca) a.cl) := fun W h => by obtain ⟨_, _, e, h1, _⟩ := KPa.out W h; cases e; exact h1
  obtain ⟨ua0, ua1⟩ := Ka.out _ T_w2.out
  go_wp2_with fail
  refine (impl_conflictsOf _ 0 _ a.cl (HCa.out _ T_w2.out) HF1.out).mono ?_; rintro e w6 ⟨v4, rfl, hC, hB⟩
  clear ua0 ua1
  replace T_w := Lib.hid (T_w.out.trans (hB.mono T_w.out.size))
  replace T_w2 := Lib.hid (T_w2.out.trans (hB.mono T_w2.out.size))
  replace T_w3 := Lib.hid (T_w3.out.trans (hB.mono T_w3.out.size))
  replace T_w4 := Lib.hid (T_w4.out.trans (hB.mono T_w4.out.size))
  have HC4 := Lib.hid hC
  clear hB hC
  go_wp2_with fail
  refine (impl_validPhase _ _ 0 _ _ a.cl xs HC4.out HF1.out (Kv1.out _ T_w3.out)).mono ?_; rintro e w7 ⟨rfl, hB⟩
  replace T_w := Lib.hid (T_w.out.trans (hB.mono T_w.out.size))
  replace T_w2 := Lib.hid (T_w2.out.trans (hB.mono T_w2.out.size))
  replace T_w3 := Lib.hid (T_w3.out.trans (hB.mono T_w3.out.size))
  replace T_w4 := Lib.hid (T_w4.out.trans (hB.mono T_w4.out.size))
  replace HC4 := Lib.hid (HC4.out.below hB (Nat.le_refl _))
  clear hB
  rw [HF2.out]
  clear HC4
  obtain ⟨ua0, ua1⟩ := Ka.out _ T_w2.out
  go_wp2_with fail
  refine (impl_switchTime _ 0 _ a f (KPa.out _ T_w2.out)).mono ?_; rintro e w8 ⟨rfl, hB⟩
  clear ua0 ua1
  replace T_w := Lib.hid (T_w.out.trans (hB.mono T_w.out.size))
  replace T_w2 := Lib.hid (T_w2.out.trans (hB.mono T_w2.out.size))
  replace T_w3 := Lib.hid (T_w3.out.trans (hB.mono T_w3.out.size))
  replace T_w4 := Lib.hid (T_w4.out.trans (hB.mono T_w4.out.size))
  clear hB
  obtain ⟨T, hT⟩ : ∃ T, T = swT a f := ⟨_, rfl⟩
  rw [← hT]
  have HT := Lib.hid hT
  clear hT
  by_cases hge : T ≤ s
  · have d1 : decide (T ≤ s) = true := decide_eq_true hge
    have d2 : decide (s ≥ T) = true := decide_eq_true hge
    clear hge
    go_wp2_with fail
    go_ret
    exact ⟨rfl, T_w.out⟩
  have d1 : decide (T ≤ s) = false := decide_eq_false hge
  have HE := Lib.hid (HF3.out (by rw [← HT.out]; omega))
  clear hge
  obtain ⟨ua0, ua1⟩ := Ka.out _ T_w2.out
  go_wp2_with fail
  refine (impl_greenAt _ 0 _ a s (KPa.out _ T_w2.out)).mono ?_; rintro e w9 ⟨v5, rfl, hO, hB⟩
  clear ua0 ua1
  replace T_w := Lib.hid (T_w.out.trans (hB.mono T_w.out.size))
  replace T_w2 := Lib.hid (T_w2.out.trans (hB.mono T_w2.out.size))
  replace T_w3 := Lib.hid (T_w3.out.trans (hB.mono T_w3.out.size))
  replace T_w4 := Lib.hid (T_w4.out.trans (hB.mono T_w4.out.size))
  clear hB
  rw [HE.out] at hO
  have Kv5 : Hid (∀ W, Below w9.heap.size w9 W → Ints W 0 v5 xs) := fun W h => Rd.mono (Rd.below hO.rd h (Nat.le_refl _) (by decide)) (Nat.zero_le _)
  obtain ⟨av5, cv5, rfl, _, _⟩ := hO.form
  clear hO
  have T_w9 := Lib.hid (Below.refl w9.heap.size w9)
  go_wp2_with fail
  refine (equalInts_same _ _ _ xs (Kv5.out _ T_w9.out) (Kv1.out _ T_w3.out)).mono ?_; rintro e w10 ⟨rfl, hB⟩
  replace T_w := Lib.hid (T_w.out.trans (hB.mono T_w.out.size))
  replace T_w2 := Lib.hid (T_w2.out.trans (hB.mono T_w2.out.size))
  replace T_w3 := Lib.hid (T_w3.out.trans (hB.mono T_w3.out.size))
  replace T_w4 := Lib.hid (T_w4.out.trans (hB.mono T_w4.out.size))
  replace T_w9 := Lib.hid (T_w9.out.trans (hB.mono T_w9.out.size))
  clear hB
  go_wp2_with fail
  go_ret
  exact ⟨rfl, T_w.out⟩
end Go.Proofs.Ytokpgipbgkiepaa
