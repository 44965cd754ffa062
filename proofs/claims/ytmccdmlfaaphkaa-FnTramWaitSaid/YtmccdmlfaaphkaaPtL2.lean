/- FnSwitchTime, FnTramWaitCycle: the walks. -/
import Derived.Test.YtmccdmlfaaphkaaPlU
import Derived.Test.YtmccdmlfaaphkaaDrT
namespace Go.Proofs.Ytmccdmlfaaphkaa
open Go.RowKit
set_option linter.unusedVariables false
set_option linter.unusedSimpArgs false

theorem swT_or (p : Pln) (f : Int) : swT p f = -1 ∨ (validP p = true ∧ 0 ≤ f ∧ f ≤ 9999 ∧ swT p f = swt (cyc p) f) := by
  unfold swT
  by_cases h : validP p = true ∧ inR f 0 9999 = true
  · rw [if_pos h]; exact .inr ⟨h.1, (inR_iff.1 h.2).1, (inR_iff.1 h.2).2, rfl⟩
  · rw [if_neg h]; exact .inl rfl

set_option maxHeartbeats 4000000 in
theorem fnSwitchTime_walk (w : World) (v : Value) (bs : List UInt8) (hv : Bytes w 0 v bs) :
    Calls Try.prog 3 #[v] w fun e w' => e = .returned (.bool true) ∧ Below w.heap.size w w' := by
  obtain ⟨ao, cap, rfl, hcap, hm⟩ := hv.form
  by_cases hlen : bs.length ≤ 1048576
  · go_enter Try.func3, Try.ntmps3
    go_wp2_with fail
    go_at_call 8
    refine (drawSwitchTime _ _ bs hv).mono ?_; rintro e w1 ⟨v1, pl, f, rfl, hP1, hD1, hf, hB1⟩
    have hP1r := hP1
    obtain ⟨vc, vs, rfl, hc1, hs1⟩ := hP1r
    obtain ⟨b4, d4, rfl, _, _⟩ := hc1.form
    obtain ⟨b5, d5, rfl, _, _⟩ := hs1.form
    obtain ⟨w2, hw2, hB2, y0, y1, hz2⟩ := plan_box w1 (.slice b4 pl.cl.length d4) (.slice b5 pl.st.length d5)
    have HP2 := Lib.hid ((hP1.below hB2 (Nat.le_refl _)).mono (Nat.zero_le _))
    have HB2 := Lib.hid (hB1.trans (hB2.mono hB1.size))
    have HW2 := Lib.hid hw2
    have HK : Hid (∀ W, Below w2.heap.size w2 W → W.cell? ⟨w1.heap.size, 0, none⟩ = some (.slice b4 pl.cl.length d4) ∧ W.cell? ⟨w1.heap.size, 1, none⟩ = some (.slice b5 pl.st.length d5)) := fun W h => ⟨(h.cell (p := ⟨w1.heap.size, 0, none⟩) hz2).trans y0, (h.cell (p := ⟨w1.heap.size, 1, none⟩) hz2).trans y1⟩
    have HP : Hid (∀ W, Below w2.heap.size w2 W → PlanR W 0 (.agg #[.slice b4 pl.cl.length d4, .slice b5 pl.st.length d5]) pl) := fun W h => HP2.out.below h (Nat.le_refl _)
    clear hP1 hc1 hs1 hw2 hB2 hB1 hv hD1
    go_wp2_with fail
    rw [← HW2.out]
    clear HW2
    have hor := swT_or pl f
    obtain ⟨n, hn⟩ : ∃ n, n = swT pl f := ⟨_, rfl⟩
    rw [← hn] at hor
    have HN := Lib.hid hn
    have hne : (n != n) = false := by simp
    have heq : (n == n) = true := by simp
    have HOR := Lib.hid hor
    clear hn hor
    refine (impl_switchTime _ 0 _ pl f (HP.out _ (Below.refl _ _))).mono ?_; rintro e w3 ⟨rfl, hB3⟩
    rw [← HN.out]
    obtain ⟨z0, z1⟩ := HK.out _ hB3
    clear y0 y1
    go_wp2_with fail
    refine (spec_switchTime _ 0 _ pl f (HP.out _ hB3)).mono ?_; rintro e w4 ⟨rfl, hB4'⟩
    rw [← HN.out]
    have hB4 := hB3.trans (hB4'.mono hB3.size)
    obtain ⟨y0, y1⟩ := HK.out _ hB4
    clear z0 z1 hB4' hB3
    by_cases hn0 : n < 0
    · have d0 : decide (n < 0) = true := decide_eq_true hn0
      clear hn0
      go_wp2_with fail
      refine (spec_switchTime _ 0 _ pl f (HP.out _ hB4)).mono ?_; rintro e w5 ⟨rfl, hB5'⟩
      rw [← HN.out]
      have hB5 := hB4.trans (hB5'.mono hB4.size)
      go_wp2_with fail
      go_ret
      exact ⟨rfl, HB2.out.trans (hB5.mono HB2.out.size)⟩
    · have d0 : decide (n < 0) = false := decide_eq_false hn0
      have hv : validP pl = true ∧ 0 ≤ f ∧ f ≤ 9999 ∧ n = swt (cyc pl) f := by
        rcases HOR.out with h | h
        · omega
        · exact h
      obtain ⟨hv1, f0, f1, hns⟩ := hv
      have hcb := cyc_bd hv1
      have hsw := swt_bd hcb.1 f0
      have hco : cycO pl = cyc pl := by unfold cycO; rw [if_pos hv1]
      rw [← hns] at hsw
      obtain ⟨c, hcc⟩ : ∃ c, c = cyc pl := ⟨_, rfl⟩
      rw [← hcc] at hcb hsw hco
      have HCO := Lib.hid hco
      obtain ⟨s1, s2, s3⟩ := hsw
      obtain ⟨c5, c225⟩ := hcb
      have t1 : n.tmod c = 0 := by rw [Int.tmod_eq_emod_of_nonneg (by omega)]; exact s3
      have e1 : decide (f ≤ n) = true := decide_eq_true s1
      have wr1 : IntKind.i64.wrap (f + c) = f + c := IntWalk.i64_in _ (by omega)
      have e2 : decide (n < f + c) = true := decide_eq_true s2
      have e3 : ((0 : Int) == 0) = true := rfl
      have m4 : ¬ c = 0 := by omega
      clear hco hcc hns hv1
      go_wp2_with fail
      refine (impl_cycleOf _ 0 _ pl (HP.out _ hB4)).mono ?_; rintro e w5 ⟨rfl, hB5'⟩
      rw [HCO.out]
      have hB5 := hB4.trans (hB5'.mono hB4.size)
      clear hB4 hB5'
      go_wp2_with fail
      go_ret
      exact ⟨rfl, HB2.out.trans (hB5.mono HB2.out.size)⟩
  · clear hv
    go_enter Try.func3, Try.ntmps3
    go_wp2
    go_ret
    exact ⟨rfl, Below.refl _ _⟩

theorem twO_or (p : Pln) (st s : Int) : twO p st s = -1 ∨ (∃ k : Nat, st = k ∧ k < p.st.length ∧ validP p = true ∧ 0 ≤ s ∧ s ≤ 9999 ∧ twO p st s = tw p k s) := by
  unfold twO
  by_cases h : vTram p st s = true
  · rw [if_pos h]
    unfold vTram at h
    rw [Bool.and_eq_true, Bool.and_eq_true, inR_iff, inR_iff] at h
    obtain ⟨⟨h1, h2⟩, h3⟩ := h
    exact .inr ⟨st.toNat, by omega, by omega, h1, h3.1, h3.2, rfl⟩
  · rw [if_neg h]; exact .inl rfl
theorem twO_in {p : Pln} (h : validP p = true) {k : Nat} (hk : k < p.st.length) {s : Int} (h0 : 0 ≤ s) (h1 : s ≤ 9999) : twO p k s = tw p k s := by
  unfold twO
  rw [if_pos, Int.toNat_natCast]
  unfold vTram
  rw [h, Bool.and_eq_true, Bool.and_eq_true, inR_iff, inR_iff]
  exact ⟨⟨rfl, by omega, by omega⟩, h0, h1⟩

set_option maxHeartbeats 8000000 in
theorem fnTramWaitCycle_walk (w : World) (v : Value) (bs : List UInt8) (hv : Bytes w 0 v bs) :
    Calls Try.prog 5 #[v] w fun e w' => e = .returned (.bool true) ∧ Below w.heap.size w w' := by
  obtain ⟨ao, cap, rfl, hcap, hm⟩ := hv.form
  by_cases hlen : bs.length ≤ 1048576
  · go_enter Try.func5, Try.ntmps5
    go_wp2_with fail
    go_at_call 15
    refine (drawTramWait _ _ bs hv).mono ?_; rintro e w1 ⟨v1, pl, st, s, rfl, hP1, hD1, hst, hs, hB1⟩
    have hP1r := hP1
    obtain ⟨vc, vs, rfl, hc1, hs1⟩ := hP1r
    obtain ⟨b4, d4, rfl, _, _⟩ := hc1.form
    obtain ⟨b5, d5, rfl, _, _⟩ := hs1.form
    obtain ⟨w2, hw2, hB2, y0, y1, hz2⟩ := plan_box w1 (.slice b4 pl.cl.length d4) (.slice b5 pl.st.length d5)
    have HP2 := Lib.hid ((hP1.below hB2 (Nat.le_refl _)).mono (Nat.zero_le _))
    have HB2 := Lib.hid (hB1.trans (hB2.mono hB1.size))
    have HW2 := Lib.hid hw2
    have HK : Hid (∀ W, Below w2.heap.size w2 W → W.cell? ⟨w1.heap.size, 0, none⟩ = some (.slice b4 pl.cl.length d4) ∧ W.cell? ⟨w1.heap.size, 1, none⟩ = some (.slice b5 pl.st.length d5)) := fun W h => ⟨(h.cell (p := ⟨w1.heap.size, 0, none⟩) hz2).trans y0, (h.cell (p := ⟨w1.heap.size, 1, none⟩) hz2).trans y1⟩
    have HP : Hid (∀ W, Below w2.heap.size w2 W → PlanR W 0 (.agg #[.slice b4 pl.cl.length d4, .slice b5 pl.st.length d5]) pl) := fun W h => HP2.out.below h (Nat.le_refl _)
    clear hP1 hc1 hs1 hw2 hB2 hB1 hv hD1
    go_wp2_with fail
    rw [← HW2.out]
    clear HW2
    have hor := twO_or pl st s
    obtain ⟨n, hn⟩ : ∃ n, n = twO pl st s := ⟨_, rfl⟩
    rw [← hn] at hor
    have HN := Lib.hid hn
    have hne : (n != n) = false := by simp
    have heq : (n == n) = true := by simp
    have HOR := Lib.hid hor
    obtain ⟨hsa, hsb⟩ := hs
    clear hn hor
    refine (impl_tramWait _ 0 _ pl st s (HP.out _ (Below.refl _ _))).mono ?_; rintro e w3 ⟨rfl, hB3⟩
    rw [← HN.out]
    obtain ⟨z0, z1⟩ := HK.out _ hB3
    clear y0 y1
    go_wp2_with fail
    refine (spec_tramWait _ 0 _ pl st s (HP.out _ hB3)).mono ?_; rintro e w4 ⟨rfl, hB4'⟩
    rw [← HN.out]
    have hB4 := hB3.trans (hB4'.mono hB3.size)
    obtain ⟨y0, y1⟩ := HK.out _ hB4
    clear z0 z1 hB4' hB3
    by_cases hn0 : n < 0
    · have d0 : decide (n < 0) = true := decide_eq_true hn0
      clear hn0
      go_wp2_with fail
      refine (spec_tramWait _ 0 _ pl st s (HP.out _ hB4)).mono ?_; rintro e w5 ⟨rfl, hB5'⟩
      rw [← HN.out]
      have hB5 := hB4.trans (hB5'.mono hB4.size)
      go_wp2_with fail
      go_ret
      exact ⟨rfl, HB2.out.trans (hB5.mono HB2.out.size)⟩
    · have d0 : decide (n < 0) = false := decide_eq_false hn0
      obtain ⟨k, rfl, hk, hv1, h0, h1, hnt⟩ : ∃ k : Nat, st = k ∧ k < pl.st.length ∧ validP pl = true ∧ 0 ≤ s ∧ s ≤ 9999 ∧ n = tw pl k s := by
        rcases HOR.out with h | h
        · omega
        · exact h
      have hcb := cyc_bd hv1
      have hco : cycO pl = cyc pl := by unfold cycO; rw [if_pos hv1]
      have htc := tw_cyc pl k s
      have hts := tw_start hv1
      have HIN : Hid (∀ s, 0 ≤ s → s ≤ 9999 → twO pl k s = tw pl k s) := fun s a b => twO_in hv1 hk a b
      have HIN0 : Hid (twO pl (0 : Int) 0 = 0) := by
        have := twO_in hv1 (k := 0) (by omega) (s := 0) (by omega) (by omega)
        unfold Hid; rw [hts] at this; exact this
      obtain ⟨c, hcc⟩ : ∃ c, c = cyc pl := ⟨_, rfl⟩
      rw [← hcc] at hcb hco htc
      have HCO := Lib.hid hco
      obtain ⟨c5, c225⟩ := hcb
      have wr1 : IntKind.i64.wrap (s + c) = s + c := IntWalk.i64_in _ (by omega)
      have HNT := Lib.hid hnt
      have HTC := Lib.hid htc
      have HV1 := Lib.hid hv1
      clear hco hcc hnt hv1 hts htc
      go_wp2_with fail
      refine (impl_cycleOf _ 0 _ pl (HP.out _ hB4)).mono ?_; rintro e w5 ⟨rfl, hB5'⟩
      rw [HCO.out]
      have hB5 := hB4.trans (hB5'.mono hB4.size)
      obtain ⟨z0, z1⟩ := HK.out _ hB5
      clear y0 y1 hB4 hB5'
      by_cases hbig : 9999 < s + c
      · have d1 : decide (9999 < s + c) = true := decide_eq_true hbig
        clear hbig
        go_wp2_with fail
        refine (spec_tramWait _ 0 _ pl k s (HP.out _ hB5)).mono ?_; rintro e w6 ⟨rfl, hB6'⟩
        rw [← HN.out]
        have hB6 := hB5.trans (hB6'.mono hB5.size)
        go_wp2_with fail
        go_ret
        exact ⟨rfl, HB2.out.trans (hB6.mono HB2.out.size)⟩
      · have d1 : decide (9999 < s + c) = false := decide_eq_false hbig
        have HNC : Hid (twO pl k (s + c) = n) := by unfold Hid; rw [HIN.out _ (by omega) (by omega), HTC.out, HNT.out]
        have e0 : ((0 : Int) == 0) = true := rfl
        clear hbig
        go_wp2_with fail
        go_region_held3 (fun w' => w'.cell? ⟨w1.heap.size, 0, none⟩ = some (.slice b4 pl.cl.length d4) ∧ w'.cell? ⟨w1.heap.size, 1, none⟩ = some (.slice b5 pl.st.length d5))
          (first | exact HK.out _ (hB5.trans (hB9.mono hB5.size)) | exact HK.out _ (hB5.trans (hB8.mono hB5.size)) | exact HK.out _ (hB5.trans (hB7.mono hB5.size)) | exact HK.out _ hB5 | go_keep | assumption)
          ((first
            | (go_at_call 11; refine (impl_cycleOf _ 0 _ pl (HP.out _ (hB5.trans ((Below.drew (Below.refl w5.heap.size w5)).mono hB5.size)))).mono ?_; rintro e w7 ⟨rfl, hB7'⟩; rw [HCO.out]; have hB7 : Below w5.heap.size w5 w7 := (Below.drew (Below.refl w5.heap.size w5)).trans hB7')
            | (go_at_call 16; with_reducible refine (impl_tramWait _ 0 _ pl k (s + c) (HP.out _ (hB5.trans (hB7.mono hB5.size)))).mono ?_; rintro e w8 ⟨rfl, hB8'⟩; rw [HNC.out]; have hB8 : Below w5.heap.size w5 w8 := hB7.trans (hB8'.mono hB7.size))
            | (go_at_call 16; with_reducible refine (impl_tramWait _ 0 _ pl 0 0 (HP.out _ (hB5.trans (hB8.mono hB5.size)))).mono ?_; rintro e w9 ⟨rfl, hB9'⟩; rw [HIN0.out]; have hB9 : Below w5.heap.size w5 w9 := hB8.trans (hB9'.mono hB8.size))))
        go_wp2
        go_ret
        exact ⟨rfl, HB2.out.trans ((hB5.trans (hB9.mono hB5.size)).mono HB2.out.size)⟩
  · clear hv
    go_enter Try.func5, Try.ntmps5
    go_wp2
    go_ret
    exact ⟨rfl, Below.refl _ _⟩
end Go.Proofs.Ytmccdmlfaaphkaa
