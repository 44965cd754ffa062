/- FnSwitchedGreenSame: the walk. -/
import Derived.Test.YtokpgipbgkiepaaSwL3
import Derived.IntWalk
import Derived.Deep.RegionHeld3
import Derived.Deep.QuietTactic
import Derived.BigQuiet
namespace Go.Proofs.Ytokpgipbgkiepaa
open Go.RowKit
set_option linter.unusedVariables false
set_option linter.unusedSimpArgs false

set_option maxHeartbeats 16000000 in
theorem fnSwitchedGreenSame_walk (w : World) (v : Value) (bs : List UInt8) (hv : Bytes w 0 v bs) :
    Calls Try.prog 9 #[v] w fun e w' => e = .returned (.bool true) ∧ Below w.heap.size w w' := by
  obtain ⟨ao, cap, rfl, hcap, hm⟩ := hv.form
  by_cases hlen : bs.length ≤ 1048576
  case neg =>
    go_enter Try.func9, Try.ntmps9
    go_wp2
    go_ret
    exact ⟨rfl, Below.refl _ _⟩
  have T_w := Lib.hid (Below.refl w.heap.size w)
  go_enter Try.func9, Try.ntmps9
  go_wp2_with fail
  go_at_call 35
  refine (drawSwitchedGreen _ _ bs hv).mono ?_; rintro e w1 ⟨va, vb, a, b, f, s, rfl, hPa, hPb, hB⟩
  replace T_w := Lib.hid (T_w.out.trans (hB.mono T_w.out.size))
  clear hB hv
  obtain ⟨aca, cca, asa, csa, rfl, _, _⟩ := hPa.aggs
  obtain ⟨acb, ccb, asb, csb, rfl, _, _⟩ := hPb.aggs
  obtain ⟨w2, hw, hB, hzab, K2⟩ := two_box w1 (.slice aca a.cl.length cca) (.slice asa a.st.length csa) (.slice acb b.cl.length ccb) (.slice asb b.st.length csb) 26
  have Ka : Hid (∀ W, Below w2.heap.size w2 W → W.cell? ⟨w1.heap.size, 0, none⟩ = some (.slice aca a.cl.length cca) ∧ W.cell? ⟨w1.heap.size, 1, none⟩ = some (.slice asa a.st.length csa)) := fun W h => (K2 W h).1
  have KPa : Hid (∀ W, Below w2.heap.size w2 W → PlanR W 0 (.agg #[.slice aca a.cl.length cca, .slice asa a.st.length csa]) a) := fun W h => ((hPa.below hB (Nat.le_refl _)).mono (Nat.zero_le _)).below h (Nat.le_refl _)
  have Kb : Hid (∀ W, Below w2.heap.size w2 W → W.cell? ⟨w1.heap.size + 1, 0, none⟩ = some (.slice acb b.cl.length ccb) ∧ W.cell? ⟨w1.heap.size + 1, 1, none⟩ = some (.slice asb b.st.length csb)) := fun W h => (K2 W h).2
  have KPb : Hid (∀ W, Below w2.heap.size w2 W → PlanR W 0 (.agg #[.slice acb b.cl.length ccb, .slice asb b.st.length csb]) b) := fun W h => ((hPb.below hB (Nat.le_refl _)).mono (Nat.zero_le _)).below h (Nat.le_refl _)
  have HWab := Lib.hid hw
  replace T_w := Lib.hid (T_w.out.trans (hB.mono T_w.out.size))
  clear hw hB K2 hPa hPb
  have T_w2 := Lib.hid (Below.refl w2.heap.size w2)
  obtain ⟨xs, hxs⟩ : ∃ x, x = swO a b f s := ⟨_, rfl⟩
  have HXS := Lib.hid hxs
  clear hxs
  go_wp2_with fail
  rw [← HWab.out]
  clear HWab
  refine (impl_SwitchedGreen _ 0 0 _ _ a b f s (KPa.out _ T_w2.out) (KPb.out _ T_w2.out)).mono ?_; rintro e w3 ⟨v1, rfl, hO, hB⟩
  replace T_w := Lib.hid (T_w.out.trans (hB.mono T_w.out.size))
  replace T_w2 := Lib.hid (T_w2.out.trans (hB.mono T_w2.out.size))
  clear hB
  rw [← HXS.out] at hO
  have Kv1 : Hid (∀ W, Below w3.heap.size w3 W → Ints W 0 v1 xs) := fun W h => Rd.mono (Rd.below hO.rd h (Nat.le_refl _) (by decide)) (Nat.zero_le _)
  obtain ⟨av1, cv1, rfl, _, _⟩ := hO.form
  clear hO
  have T_w3 := Lib.hid (Below.refl w3.heap.size w3)
  obtain ⟨ua0, ua1⟩ := Ka.out _ T_w2.out
  obtain ⟨ub0, ub1⟩ := Kb.out _ T_w2.out
  go_wp2_with fail
  refine (spec_SwitchedGreen _ 0 0 _ _ a b f s (KPa.out _ T_w2.out) (KPb.out _ T_w2.out)).mono ?_; rintro e w4 ⟨v2, rfl, hO, hB⟩
  clear ua0 ua1 ub0 ub1
  replace T_w := Lib.hid (T_w.out.trans (hB.mono T_w.out.size))
  replace T_w2 := Lib.hid (T_w2.out.trans (hB.mono T_w2.out.size))
  replace T_w3 := Lib.hid (T_w3.out.trans (hB.mono T_w3.out.size))
  clear hB
  rw [← HXS.out] at hO
  have Kv2 : Hid (∀ W, Below w4.heap.size w4 W → Ints W 0 v2 xs) := fun W h => Rd.mono (Rd.below hO.rd h (Nat.le_refl _) (by decide)) (Nat.zero_le _)
  obtain ⟨av2, cv2, rfl, _, _⟩ := hO.form
  clear hO
  have T_w4 := Lib.hid (Below.refl w4.heap.size w4)
  go_wp2_with fail
  refine (equalInts_same _ _ _ xs (Kv1.out _ T_w3.out) (Kv2.out _ T_w4.out)).mono ?_; rintro e w5 ⟨rfl, hB⟩
  replace T_w := Lib.hid (T_w.out.trans (hB.mono T_w.out.size))
  replace T_w2 := Lib.hid (T_w2.out.trans (hB.mono T_w2.out.size))
  replace T_w3 := Lib.hid (T_w3.out.trans (hB.mono T_w3.out.size))
  replace T_w4 := Lib.hid (T_w4.out.trans (hB.mono T_w4.out.size))
  clear hB
  obtain ⟨ua0, ua1⟩ := Ka.out _ T_w2.out
  go_wp2_with fail
  refine (impl_validPlan _ 0 _ a (KPa.out _ T_w2.out)).mono ?_; rintro e w6 ⟨rfl, hB⟩
  clear ua0 ua1
  replace T_w := Lib.hid (T_w.out.trans (hB.mono T_w.out.size))
  replace T_w2 := Lib.hid (T_w2.out.trans (hB.mono T_w2.out.size))
  replace T_w3 := Lib.hid (T_w3.out.trans (hB.mono T_w3.out.size))
  replace T_w4 := Lib.hid (T_w4.out.trans (hB.mono T_w4.out.size))
  clear hB
  obtain ⟨ok, hok⟩ : ∃ b, b = validP a := ⟨_, rfl⟩
  rw [← hok]
  have HOK := Lib.hid hok
  clear hok
  cases ok
  case false =>
    obtain ⟨ua0, ua1⟩ := Ka.out _ T_w2.out
    obtain ⟨ub0, ub1⟩ := Kb.out _ T_w2.out
    go_wp2_with fail
    refine (spec_SwitchedGreen _ 0 0 _ _ a b f s (KPa.out _ T_w2.out) (KPb.out _ T_w2.out)).mono ?_; rintro e w7 ⟨v3, rfl, hO, hB⟩
    clear ua0 ua1 ub0 ub1
    replace T_w := Lib.hid (T_w.out.trans (hB.mono T_w.out.size))
    replace T_w2 := Lib.hid (T_w2.out.trans (hB.mono T_w2.out.size))
    replace T_w3 := Lib.hid (T_w3.out.trans (hB.mono T_w3.out.size))
    replace T_w4 := Lib.hid (T_w4.out.trans (hB.mono T_w4.out.size))
    clear hB
    rw [← HXS.out] at hO
    have Kv3 : Hid (∀ W, Below w7.heap.size w7 W → Ints W 0 v3 xs) := fun W h => Rd.mono (Rd.below hO.rd h (Nat.le_refl _) (by decide)) (Nat.zero_le _)
    obtain ⟨av3, cv3, rfl, _, _⟩ := hO.form
    clear hO
    have T_w7 := Lib.hid (Below.refl w7.heap.size w7)
    go_wp2_with fail
    refine (equalInts_same _ _ _ xs (Kv1.out _ T_w3.out) (Kv3.out _ T_w7.out)).mono ?_; rintro e w8 ⟨rfl, hB⟩
    replace T_w := Lib.hid (T_w.out.trans (hB.mono T_w.out.size))
    replace T_w2 := Lib.hid (T_w2.out.trans (hB.mono T_w2.out.size))
    replace T_w3 := Lib.hid (T_w3.out.trans (hB.mono T_w3.out.size))
    replace T_w4 := Lib.hid (T_w4.out.trans (hB.mono T_w4.out.size))
    replace T_w7 := Lib.hid (T_w7.out.trans (hB.mono T_w7.out.size))
    clear hB
    go_wp2_with fail
    go_ret
    exact ⟨rfl, T_w.out⟩
  case true =>
    by_cases hc : f < 0
    · have dc : decide (f < 0) = true := decide_eq_true hc
      clear hc
      obtain ⟨ua0, ua1⟩ := Ka.out _ T_w2.out
      obtain ⟨ub0, ub1⟩ := Kb.out _ T_w2.out
      go_wp2_with fail
      refine (spec_SwitchedGreen _ 0 0 _ _ a b f s (KPa.out _ T_w2.out) (KPb.out _ T_w2.out)).mono ?_; rintro e w7 ⟨v3, rfl, hO, hB⟩
      clear ua0 ua1 ub0 ub1
      replace T_w := Lib.hid (T_w.out.trans (hB.mono T_w.out.size))
      replace T_w2 := Lib.hid (T_w2.out.trans (hB.mono T_w2.out.size))
      replace T_w3 := Lib.hid (T_w3.out.trans (hB.mono T_w3.out.size))
      replace T_w4 := Lib.hid (T_w4.out.trans (hB.mono T_w4.out.size))
      clear hB
      rw [← HXS.out] at hO
      have Kv3 : Hid (∀ W, Below w7.heap.size w7 W → Ints W 0 v3 xs) := fun W h => Rd.mono (Rd.below hO.rd h (Nat.le_refl _) (by decide)) (Nat.zero_le _)
      obtain ⟨av3, cv3, rfl, _, _⟩ := hO.form
      clear hO
      have T_w7 := Lib.hid (Below.refl w7.heap.size w7)
      go_wp2_with fail
      refine (equalInts_same _ _ _ xs (Kv1.out _ T_w3.out) (Kv3.out _ T_w7.out)).mono ?_; rintro e w8 ⟨rfl, hB⟩
      replace T_w := Lib.hid (T_w.out.trans (hB.mono T_w.out.size))
      replace T_w2 := Lib.hid (T_w2.out.trans (hB.mono T_w2.out.size))
      replace T_w3 := Lib.hid (T_w3.out.trans (hB.mono T_w3.out.size))
      replace T_w4 := Lib.hid (T_w4.out.trans (hB.mono T_w4.out.size))
      replace T_w7 := Lib.hid (T_w7.out.trans (hB.mono T_w7.out.size))
      clear hB
      go_wp2_with fail
      go_ret
      exact ⟨rfl, T_w.out⟩
    have dk0 : decide (f < 0) = false := decide_eq_false hc
    have hk0 : 0 ≤ f := by omega
    clear hc
    by_cases hc : 9999 < f
    · have dc : decide (9999 < f) = true := decide_eq_true hc
      clear hc
      obtain ⟨ua0, ua1⟩ := Ka.out _ T_w2.out
      obtain ⟨ub0, ub1⟩ := Kb.out _ T_w2.out
      go_wp2_with fail
      refine (spec_SwitchedGreen _ 0 0 _ _ a b f s (KPa.out _ T_w2.out) (KPb.out _ T_w2.out)).mono ?_; rintro e w7 ⟨v3, rfl, hO, hB⟩
      clear ua0 ua1 ub0 ub1
      replace T_w := Lib.hid (T_w.out.trans (hB.mono T_w.out.size))
      replace T_w2 := Lib.hid (T_w2.out.trans (hB.mono T_w2.out.size))
      replace T_w3 := Lib.hid (T_w3.out.trans (hB.mono T_w3.out.size))
      replace T_w4 := Lib.hid (T_w4.out.trans (hB.mono T_w4.out.size))
      clear hB
      rw [← HXS.out] at hO
      have Kv3 : Hid (∀ W, Below w7.heap.size w7 W → Ints W 0 v3 xs) := fun W h => Rd.mono (Rd.below hO.rd h (Nat.le_refl _) (by decide)) (Nat.zero_le _)
      obtain ⟨av3, cv3, rfl, _, _⟩ := hO.form
      clear hO
      have T_w7 := Lib.hid (Below.refl w7.heap.size w7)
      go_wp2_with fail
      refine (equalInts_same _ _ _ xs (Kv1.out _ T_w3.out) (Kv3.out _ T_w7.out)).mono ?_; rintro e w8 ⟨rfl, hB⟩
      replace T_w := Lib.hid (T_w.out.trans (hB.mono T_w.out.size))
      replace T_w2 := Lib.hid (T_w2.out.trans (hB.mono T_w2.out.size))
      replace T_w3 := Lib.hid (T_w3.out.trans (hB.mono T_w3.out.size))
      replace T_w4 := Lib.hid (T_w4.out.trans (hB.mono T_w4.out.size))
      replace T_w7 := Lib.hid (T_w7.out.trans (hB.mono T_w7.out.size))
      clear hB
      go_wp2_with fail
      go_ret
      exact ⟨rfl, T_w.out⟩
    have dk1 : decide (9999 < f) = false := decide_eq_false hc
    have hk1 : f ≤ 9999 := by omega
    clear hc
    by_cases hc : s < 0
    · have dc : decide (s < 0) = true := decide_eq_true hc
      clear hc
      obtain ⟨ua0, ua1⟩ := Ka.out _ T_w2.out
      obtain ⟨ub0, ub1⟩ := Kb.out _ T_w2.out
      go_wp2_with fail
      refine (spec_SwitchedGreen _ 0 0 _ _ a b f s (KPa.out _ T_w2.out) (KPb.out _ T_w2.out)).mono ?_; rintro e w7 ⟨v3, rfl, hO, hB⟩
      clear ua0 ua1 ub0 ub1
      replace T_w := Lib.hid (T_w.out.trans (hB.mono T_w.out.size))
      replace T_w2 := Lib.hid (T_w2.out.trans (hB.mono T_w2.out.size))
      replace T_w3 := Lib.hid (T_w3.out.trans (hB.mono T_w3.out.size))
      replace T_w4 := Lib.hid (T_w4.out.trans (hB.mono T_w4.out.size))
      clear hB
      rw [← HXS.out] at hO
      have Kv3 : Hid (∀ W, Below w7.heap.size w7 W → Ints W 0 v3 xs) := fun W h => Rd.mono (Rd.below hO.rd h (Nat.le_refl _) (by decide)) (Nat.zero_le _)
      obtain ⟨av3, cv3, rfl, _, _⟩ := hO.form
      clear hO
      have T_w7 := Lib.hid (Below.refl w7.heap.size w7)
      go_wp2_with fail
      refine (equalInts_same _ _ _ xs (Kv1.out _ T_w3.out) (Kv3.out _ T_w7.out)).mono ?_; rintro e w8 ⟨rfl, hB⟩
      replace T_w := Lib.hid (T_w.out.trans (hB.mono T_w.out.size))
      replace T_w2 := Lib.hid (T_w2.out.trans (hB.mono T_w2.out.size))
      replace T_w3 := Lib.hid (T_w3.out.trans (hB.mono T_w3.out.size))
      replace T_w4 := Lib.hid (T_w4.out.trans (hB.mono T_w4.out.size))
      replace T_w7 := Lib.hid (T_w7.out.trans (hB.mono T_w7.out.size))
      clear hB
      go_wp2_with fail
      go_ret
      exact ⟨rfl, T_w.out⟩
    have dk2 : decide (s < 0) = false := decide_eq_false hc
    have hk2 : 0 ≤ s := by omega
    clear hc
    by_cases hc : 9999 < s
    · have dc : decide (9999 < s) = true := decide_eq_true hc
      clear hc
      obtain ⟨ua0, ua1⟩ := Ka.out _ T_w2.out
      obtain ⟨ub0, ub1⟩ := Kb.out _ T_w2.out
      go_wp2_with fail
      refine (spec_SwitchedGreen _ 0 0 _ _ a b f s (KPa.out _ T_w2.out) (KPb.out _ T_w2.out)).mono ?_; rintro e w7 ⟨v3, rfl, hO, hB⟩
      clear ua0 ua1 ub0 ub1
      replace T_w := Lib.hid (T_w.out.trans (hB.mono T_w.out.size))
      replace T_w2 := Lib.hid (T_w2.out.trans (hB.mono T_w2.out.size))
      replace T_w3 := Lib.hid (T_w3.out.trans (hB.mono T_w3.out.size))
      replace T_w4 := Lib.hid (T_w4.out.trans (hB.mono T_w4.out.size))
      clear hB
      rw [← HXS.out] at hO
      have Kv3 : Hid (∀ W, Below w7.heap.size w7 W → Ints W 0 v3 xs) := fun W h => Rd.mono (Rd.below hO.rd h (Nat.le_refl _) (by decide)) (Nat.zero_le _)
      obtain ⟨av3, cv3, rfl, _, _⟩ := hO.form
      clear hO
      have T_w7 := Lib.hid (Below.refl w7.heap.size w7)
      go_wp2_with fail
      refine (equalInts_same _ _ _ xs (Kv1.out _ T_w3.out) (Kv3.out _ T_w7.out)).mono ?_; rintro e w8 ⟨rfl, hB⟩
      replace T_w := Lib.hid (T_w.out.trans (hB.mono T_w.out.size))
      replace T_w2 := Lib.hid (T_w2.out.trans (hB.mono T_w2.out.size))
      replace T_w3 := Lib.hid (T_w3.out.trans (hB.mono T_w3.out.size))
      replace T_w4 := Lib.hid (T_w4.out.trans (hB.mono T_w4.out.size))
      replace T_w7 := Lib.hid (T_w7.out.trans (hB.mono T_w7.out.size))
      clear hB
      go_wp2_with fail
      go_ret
      exact ⟨rfl, T_w.out⟩
    have dk3 : decide (9999 < s) = false := decide_eq_false hc
    have hk3 : s ≤ 9999 := by omega
    clear hc
    obtain ⟨ua0, ua1⟩ := Ka.out _ T_w2.out
    go_wp2_with fail
    refine (impl_switchTime _ 0 _ a f (KPa.out _ T_w2.out)).mono ?_; rintro e w7 ⟨rfl, hB⟩
    clear ua0 ua1
    replace T_w := Lib.hid (T_w.out.trans (hB.mono T_w.out.size))
    replace T_w2 := Lib.hid (T_w2.out.trans (hB.mono T_w2.out.size))
    replace T_w3 := Lib.hid (T_w3.out.trans (hB.mono T_w3.out.size))
    replace T_w4 := Lib.hid (T_w4.out.trans (hB.mono T_w4.out.size))
    clear hB
    clear dk0 dk1 dk2 dk3
    have HF := Lib.hid (inR_iff.2 ⟨hk0, hk1⟩)
    have HS := Lib.hid (inR_iff.2 ⟨hk2, hk3⟩)
    have hTb := swt_nums HOK.out.symm HF.out
    obtain ⟨T, hT⟩ : ∃ T, T = swT a f := ⟨_, rfl⟩
    have hT2 : T = swt (cyc a) f := by rw [hT]; unfold swT; rw [if_pos ⟨HOK.out.symm, HF.out⟩]
    rw [← hT2] at hTb
    rw [← hT]
    have HT := Lib.hid hT
    clear hT hT2
    have wt : IntKind.i64.wrap (T + 5) = T + 5 := IntWalk.i64_in _ (by omega)
    by_cases hlt : s < T + 5
    · have d1 : decide (s < T + 5) = true := decide_eq_true hlt
      clear hlt
      go_wp2_with fail
      go_quiet (fail)
      go_wp2
      go_ret
      exact ⟨rfl, below_drewN T_w.out _⟩
    have d1 : decide (s < T + 5) = false := decide_eq_false hlt
    have wd : IntKind.i64.wrap (s - (T + 5)) = s - (T + 5) := IntWalk.i64_in _ (by omega)
    have HSS := Lib.hid (sgs_facts HOK.out.symm HF.out HS.out (by rw [← HT.out]; omega))
    rw [← HT.out] at HSS
    clear hlt
    have KC : Hid (∀ W, Below w7.heap.size w7 W → (W.cell? ⟨w1.heap.size, 0, none⟩ = some (.slice aca a.cl.length cca) ∧ W.cell? ⟨w1.heap.size, 1, none⟩ = some (.slice asa a.st.length csa))) := fun W h => Ka.out _ (T_w2.out.trans (h.mono T_w2.out.size))
    obtain ⟨x0, x1⟩ := KC.out _ (Below.refl _ _)
    obtain ⟨ys, hys⟩ : ∃ y, y = swO a a f s := ⟨_, rfl⟩
    rw [← hys] at HSS
    have HYS := Lib.hid hys
    clear hys
    go_wp2_with fail
    go_region_held3 (fun W => (W.cell? ⟨w1.heap.size, 0, none⟩ = some (.slice aca a.cl.length cca) ∧ W.cell? ⟨w1.heap.size, 1, none⟩ = some (.slice asa a.st.length csa)))
      (first | exact KC.out _ hBy2 | exact KC.out _ hBy1 | exact KC.out _ hBy0 | exact KC.out _ (Below.refl _ _) | exact KC.out _ (Below.drew (Below.refl w7.heap.size w7)) | go_keep | assumption)
      ((first
        | (go_at_call 36; refine (impl_SwitchedGreen _ 0 0 _ _ a a f s (KPa.out _ (T_w2.out.trans ((Below.drew (Below.refl w7.heap.size w7)).mono T_w2.out.size))) (KPa.out _ (T_w2.out.trans ((Below.drew (Below.refl w7.heap.size w7)).mono T_w2.out.size)))).mono ?_; rintro e wx ⟨vx, rfl, hOx, hBx⟩; rw [← HYS.out] at hOx; obtain ⟨ax, cx, rfl, _, _⟩ := hOx.form; have hBy0 : Below w7.heap.size w7 wx := (Below.drew (Below.refl w7.heap.size w7)).trans hBx)
        | (go_at_call 41; refine (impl_greenAt _ 0 _ a (s - (T + 5)) (KPa.out _ (T_w2.out.trans (hBy0.mono T_w2.out.size)))).mono ?_; rintro e wy ⟨vy, rfl, hOy, hBx1⟩; rw [← HSS.out] at hOy; obtain ⟨ay, cy, rfl, _, _⟩ := hOy.form; have hOx1 := hOx.below hBx1 (Nat.le_refl _); have hBy1 : Below w7.heap.size w7 wy := hBy0.trans (hBx1.mono hBy0.size))
        | (go_at_call 18; refine (equalInts_same _ _ _ ys (hOx1.rd.mono (Nat.zero_le _)) (hOy.rd.mono (Nat.zero_le _))).mono ?_; rintro e wz ⟨rfl, hBx2⟩; have hBy2 : Below w7.heap.size w7 wz := hBy1.trans (hBx2.mono hBy1.size))))
    go_wp2
    go_ret
    exact ⟨rfl, T_w.out.trans (hBy2.mono T_w.out.size)⟩
end Go.Proofs.Ytokpgipbgkiepaa
