/- SwitchedGreen: the reference's; SwitchHistory: both. -/
import Derived.Test.YtokpgipbgkiepaaSw5
import Derived.Test.YtokpgipbgkiepaaGr3
import Derived.Test.YtokpgipbgkiepaaPlL
namespace Go.Proofs.Ytokpgipbgkiepaa
open Go.RowKit
set_option linter.unusedVariables false
set_option linter.unusedSimpArgs false

set_option maxHeartbeats 8000000 in
set_option maxRecDepth 100000 in
theorem spec_SwitchedGreen (w : World) (lo lo' : Nat) (va vb : Value) (a b : Pln) (f s : Int) (ha : PlanR w lo va a) (hb : PlanR w lo' vb b) :
    Calls Try.prog 37 #[va, vb, .int .i64 f, .int .i64 s] w (OwnRet w (swO a b f s)) := by
  have ha0 := ha
  have hb0 := hb
  obtain ⟨a0, c0, a1, c1, rfl, hac, has⟩ := ha.aggs
  obtain ⟨b0, d0, b1, d1, rfl, hbc, hbs⟩ := hb.aggs
  obtain ⟨w0, hw0, hB0, hz0, K⟩ := two_box w (.slice a0 a.cl.length c0) (.slice a1 a.st.length c1) (.slice b0 b.cl.length d0) (.slice b1 b.st.length d1) 26
  have HK := Lib.hid K
  have HA := Lib.hid (ha0.below hB0 (Nat.le_refl _))
  have HB := Lib.hid (hb0.below hB0 (Nat.le_refl _))
  have HB0 := Lib.hid hB0
  obtain ⟨r1, hr1⟩ : ∃ r, r = sameC a b := ⟨_, rfl⟩
  obtain ⟨r3, hr3⟩ : ∃ r, r = inR f 0 9999 := ⟨_, rfl⟩
  obtain ⟨r2, hr2⟩ : ∃ r, r = inR s 0 9999 := ⟨_, rfl⟩
  have HSO : Hid (swO a b f s = if (r1 && r3) = true ∧ r2 = true then swg a b (swt (cyc a) f) s else []) := by unfold Hid swO swV; rw [hr1, hr2, hr3]
  have HR1 := Lib.hid hr1
  have HR2 := Lib.hid hr2
  have HR3 := Lib.hid hr3
  clear K ha0 hb0 ha hb hac has hbc hbs hB0 hr1 hr2 hr3
  go_enter Try.func37, Try.ntmps37
  go_wp2_with fail
  rw [← hw0]; clear hw0
  refine (spec_sameClear _ lo lo' _ _ a b HA.out HB.out).mono ?_; rintro e w1 ⟨rfl, hB1⟩
  rw [← HR1.out]
  have HT1 := Lib.hid hB1
  clear hB1
  cases r1
  · have HE : Hid (swO a b f s = []) := by unfold Hid; rw [HSO.out, if_neg (by simp)]
    go_wp2_with fail
    go_ret
    exact ⟨_, rfl, by rw [HE.out]; exact Own.nil _ _ _ _, HB0.out.trans (HT1.out.mono HB0.out.size)⟩
  · go_wp2_with fail
    refine (inRange_dec f 0 9999 r3 _ HR3.out.symm).mono ?_; rintro e _ ⟨rfl, rfl⟩
    cases r3
    · have HE : Hid (swO a b f s = []) := by unfold Hid; rw [HSO.out, if_neg (by simp)]
      go_wp2_with fail
      go_ret
      exact ⟨_, rfl, by rw [HE.out]; exact Own.nil _ _ _ _, HB0.out.trans (HT1.out.mono HB0.out.size)⟩
    go_wp2_with fail
    refine (inRange_dec s 0 9999 r2 _ HR2.out.symm).mono ?_; rintro e _ ⟨rfl, rfl⟩
    cases r2
    · have HE : Hid (swO a b f s = []) := by unfold Hid; rw [HSO.out, if_neg (by simp)]
      go_wp2_with fail
      go_ret
      exact ⟨_, rfl, by rw [HE.out]; exact Own.nil _ _ _ _, HB0.out.trans (HT1.out.mono HB0.out.size)⟩
    · have HE : Hid (swO a b f s = swg a b (swt (cyc a) f) s) := by unfold Hid; rw [HSO.out, if_pos (by simp)]
      have hab := HR1.out.symm
      have hf := HR3.out.symm
      have hsb := inR_iff.1 HR2.out.symm
      have HAB := Lib.hid hab
      have HTE := Lib.hid (swT_eq (sameC_iff.1 hab).1 hf)
      have hTb := swt_nums (sameC_iff.1 hab).1 hf
      have KC : Hid (∀ W, Below w1.heap.size w1 W → (W.cell? ⟨w.heap.size, 0, none⟩ = some (.slice a0 a.cl.length c0) ∧ W.cell? ⟨w.heap.size, 1, none⟩ = some (.slice a1 a.st.length c1)) ∧ (W.cell? ⟨w.heap.size + 1, 0, none⟩ = some (.slice b0 b.cl.length d0) ∧ W.cell? ⟨w.heap.size + 1, 1, none⟩ = some (.slice b1 b.st.length d1))) := fun W h => HK.out _ (HT1.out.trans (h.mono HT1.out.size))
      obtain ⟨T, hT⟩ : ∃ T, T = swt (cyc a) f := ⟨_, rfl⟩
      rw [← hT] at hTb
      have HTT := Lib.hid hT
      have HA1 := Lib.hid (HA.out.below HT1.out (Nat.le_refl _))
      have HB1 := Lib.hid (HB.out.below HT1.out (Nat.le_refl _))
      clear hab hf hT
      obtain ⟨⟨u0, u1⟩, u2, u3⟩ := KC.out _ (Below.refl _ _)
      go_wp2_with fail
      go_region_held3 (fun W => (W.cell? ⟨w.heap.size, 0, none⟩ = some (.slice a0 a.cl.length c0) ∧ W.cell? ⟨w.heap.size, 1, none⟩ = some (.slice a1 a.st.length c1)) ∧ (W.cell? ⟨w.heap.size + 1, 0, none⟩ = some (.slice b0 b.cl.length d0) ∧ W.cell? ⟨w.heap.size + 1, 1, none⟩ = some (.slice b1 b.st.length d1)))
        (first | exact KC.out _ hB5 | exact KC.out _ hB4 | exact KC.out _ (Below.refl _ _) | go_keep | assumption)
        ((first
          | (go_at_call 92; refine (spec_switchTime _ lo _ a f (HA1.out.below (Below.drew (Below.refl w1.heap.size w1)) (Nat.le_refl _))).mono ?_; rintro e w4 ⟨rfl, hB4'⟩; rw [HTE.out, ← HTT.out]; have hB4 : Below w1.heap.size w1 w4 := (Below.drew (Below.refl w1.heap.size w1)).trans hB4')
          | (go_at_call 91; refine (spec_switched _ lo lo' _ _ a b T s (HA1.out.below hB4 (Nat.le_refl _)) (HB1.out.below hB4 (Nat.le_refl _)) HAB.out (by omega) hsb).mono ?_; rintro e w5 ⟨v5, rfl, hO5, hB5'⟩; have hB5 : Below w1.heap.size w1 w5 := hB4.trans (hB5'.mono hB4.size))))
      have hTF := HB0.out.trans ((HT1.out.trans (hB5.mono HT1.out.size)).mono HB0.out.size)
      have hTF4 := HB0.out.trans ((HT1.out.trans (hB4.mono HT1.out.size)).mono HB0.out.size)
      have HO5 : Hid (Own w5 w.heap.size 3 1 v5 (swO a b f s).length ((swO a b f s).map (.int .i64))) := by rw [HE.out, ← HTT.out]; exact hO5.mono hTF4.size
      clear hO5 hB5' hB4'
      go_wp2
      go_ret
      exact ⟨_, rfl, HO5.out, hTF⟩

def vspan (first count : Int) : Bool := inR count 0 150 && (decide (count = 0) || (decide (0 ≤ first) && decide (first ≤ 10000 - count)))
theorem impl_validSpan (first count : Int) (v : Bool) (w : World) (h : vspan first count = v) : Calls Try.prog 96 #[.int .i64 first, .int .i64 count] w fun e w' => e = .returned (.bool v) ∧ w = w' := by
  subst h
  obtain ⟨r1, hr1⟩ : ∃ r, r = inR count 0 150 := ⟨_, rfl⟩
  have HR1 := Lib.hid hr1
  have HV : Hid (vspan first count = (r1 && (decide (count = 0) || (decide (0 ≤ first) && decide (first ≤ 10000 - count))))) := by unfold Hid vspan; rw [hr1]
  clear hr1
  go_enter Try.func96, Try.ntmps96
  go_wp2_with fail
  refine (within_dec count 0 150 r1 _ HR1.out.symm).mono ?_; rintro e _ ⟨rfl, rfl⟩
  cases r1
  · go_wp2_with fail
    go_ret
    exact ⟨ret_bool (by rw [HV.out]; rfl), rfl⟩
  · have hc := inR_iff.1 HR1.out.symm
    by_cases h0 : count = 0
    · have HE : Hid (vspan first count = true) := by unfold Hid; rw [HV.out, decide_eq_true h0]; rfl
      have t1 : (count == 0) = true := by simp [h0]
      clear h0
      go_wp2_with fail
      go_ret
      exact ⟨ret_bool HE.out.symm, rfl⟩
    · have t1 : (count == 0) = false := by simp [h0]
      by_cases h1 : 0 ≤ first
      · have HE : Hid (vspan first count = decide (first ≤ 10000 - count)) := by unfold Hid; rw [HV.out, decide_eq_false h0, decide_eq_true h1]; simp
        have t2 : decide (0 ≤ first) = true := decide_eq_true h1
        clear h0
        go_wp2_with fail
        go_ret
        exact ⟨ret_bool HE.out.symm, rfl⟩
      · have HE : Hid (vspan first count = false) := by unfold Hid; rw [HV.out, decide_eq_false h0, decide_eq_false h1]; simp
        have t2 : decide (0 ≤ first) = false := decide_eq_false h1
        clear h0
        go_wp2_with fail
        go_ret
        exact ⟨ret_bool HE.out.symm, rfl⟩

def shT (a b : Pln) (T first : Int) (N : Nat) : List (List Int) := (List.range N).map fun (i : Nat) => swg a b T (first + (i : Int))
theorem shT_len (a b : Pln) (T first : Int) (N : Nat) : (shT a b T first N).length = N := by simp [shT]
theorem shT_get {a b : Pln} {T first : Int} {N i : Nat} (hi : i < N) : (shT a b T first N).getD i [] = swg a b T (first + (i : Int)) := by
  simp [shT, List.getD_eq_getElem?_getD, hi]
theorem shO_vspan (a b : Pln) (f first count : Int) : shO a b f first count = if swV a b f = true ∧ vspan first count = true then shT a b (swt (cyc a) f) first count.toNat else [] := by
  unfold shO
  by_cases h1 : swV a b f = true
  · by_cases h3 : spanB first count = true
    · have h2 : vspan first count = true := by
        unfold spanB at h3
        unfold vspan
        simp only [Bool.and_eq_true, Bool.or_eq_true, decide_eq_true_eq, inR_iff] at h3 ⊢
        omega
      rw [if_pos ⟨h1, h3⟩, if_pos ⟨h1, h2⟩]; rfl
    · rw [if_neg (fun h => h3 h.2)]
      by_cases h2 : vspan first count = true
      · rw [if_pos ⟨h1, h2⟩]
        unfold vspan at h2
        unfold spanB at h3
        simp only [Bool.and_eq_true, Bool.or_eq_true, decide_eq_true_eq, inR_iff] at h2 h3
        have : count = 0 := by omega
        subst this; rfl
      · rw [if_neg (fun h => h2 h.2)]
  · rw [if_neg (fun h => h1 h.1), if_neg (fun h => h1 h.1)]

theorem OwnSS.nil (w : World) (lo : Nat) : OwnSS w lo (.slice none 0 0) [] := ⟨[], Own.nil _ _ _ _, RowsO.nil _ _ _, fun j hj => absurd hj (Nat.not_lt_zero _)⟩

set_option maxHeartbeats 8000000 in
set_option maxRecDepth 100000 in
theorem impl_SwitchHistory (w : World) (lo lo' : Nat) (va vb : Value) (a b : Pln) (f first count : Int) (ha : PlanR w lo va a) (hb : PlanR w lo' vb b) :
    Calls Try.prog 43 #[va, vb, .int .i64 f, .int .i64 first, .int .i64 count] w (SSRet w (shO a b f first count)) := by
  have ha0 := ha
  have hb0 := hb
  obtain ⟨a0, c0, a1, c1, rfl, hac, has⟩ := ha.aggs
  obtain ⟨b0, d0, b1, d1, rfl, hbc, hbs⟩ := hb.aggs
  obtain ⟨w0, hw0, hB0, hz0, K⟩ := two_box w (.slice a0 a.cl.length c0) (.slice a1 a.st.length c1) (.slice b0 b.cl.length d0) (.slice b1 b.st.length d1) 26
  have HK := Lib.hid K
  have HA := Lib.hid (ha0.below hB0 (Nat.le_refl _))
  have HB := Lib.hid (hb0.below hB0 (Nat.le_refl _))
  have HB0 := Lib.hid hB0
  obtain ⟨r1, hr1⟩ : ∃ r, r = swV a b f := ⟨_, rfl⟩
  obtain ⟨r2, hr2⟩ : ∃ r, r = vspan first count := ⟨_, rfl⟩
  have HSO : Hid (shO a b f first count = if r1 = true ∧ r2 = true then shT a b (swt (cyc a) f) first count.toNat else []) := by unfold Hid; rw [shO_vspan, hr1, hr2]
  have HR1 := Lib.hid hr1
  have HR2 := Lib.hid hr2
  clear K ha0 hb0 ha hb hac has hbc hbs hB0 hr1 hr2
  go_enter Try.func43, Try.ntmps43
  go_wp2_with fail
  rw [← hw0]; clear hw0
  refine (impl_validSwitch _ lo lo' _ _ a b f HA.out HB.out).mono ?_; rintro e w1 ⟨rfl, hB1⟩
  rw [← HR1.out]
  have HT1 := Lib.hid hB1
  clear hB1
  cases r1
  · have HE : Hid (shO a b f first count = []) := by unfold Hid; rw [HSO.out, if_neg (by simp)]
    go_wp2_with fail
    go_ret
    exact ⟨_, rfl, by rw [HE.out]; exact OwnSS.nil _ _, HB0.out.trans (HT1.out.mono HB0.out.size)⟩
  · go_wp2_with fail
    refine (impl_validSpan first count r2 _ HR2.out.symm).mono ?_; rintro e _ ⟨rfl, rfl⟩
    cases r2
    · have HE : Hid (shO a b f first count = []) := by unfold Hid; rw [HSO.out, if_neg (by simp)]
      go_wp2_with fail
      go_ret
      exact ⟨_, rfl, by rw [HE.out]; exact OwnSS.nil _ _, HB0.out.trans (HT1.out.mono HB0.out.size)⟩
    · have hsv := HR1.out.symm
      unfold swV at hsv
      rw [Bool.and_eq_true] at hsv
      obtain ⟨hab, hf⟩ := hsv
      have hsp := HR2.out.symm
      unfold vspan at hsp
      simp only [Bool.and_eq_true, Bool.or_eq_true, decide_eq_true_eq, inR_iff] at hsp
      obtain ⟨N, hN⟩ := Int.eq_ofNat_of_zero_le hsp.1.1
      subst hN
      have hN150 : N ≤ 150 := by omega
      have hfk : ∀ k, k < N → 0 ≤ first + (k : Int) ∧ first + (k : Int) ≤ 9999 := fun k hk => by omega
      have HFK := Lib.hid hfk
      have HE : Hid (shO a b f first (N : Int) = shT a b (swt (cyc a) f) first N) := by unfold Hid; rw [HSO.out, if_pos (by simp)]; rfl
      have HAB := Lib.hid hab
      have HTE := Lib.hid (swT_eq (sameC_iff.1 hab).1 hf)
      have hTb := swt_nums (sameC_iff.1 hab).1 hf
      obtain ⟨T, hT⟩ : ∃ T, T = swt (cyc a) f := ⟨_, rfl⟩
      rw [← hT] at hTb
      have HTT := Lib.hid hT
      obtain ⟨⟨u0, u1⟩, u2, u3⟩ := HK.out _ HT1.out
      obtain ⟨i0, hi, hz0', hz1', hz2'⟩ := info_parts info_isl
      clear hab hf hT hsp hfk
      go_wp2_with fail
      refine (impl_switchTime _ lo _ a f (HA.out.below HT1.out (Nat.le_refl _))).mono ?_; rintro e w2 ⟨rfl, hB2⟩
      rw [HTE.out, ← HTT.out]
      have HT2 := Lib.hid (HT1.out.trans (hB2.mono HT1.out.size))
      clear hB2 u0 u1 u2 u3
      go_wp2_with (at_make; refine wpList_make_own _ rfl _ _ 23 rfl w2.heap.size 27 i0 (.slice none 0 0) 1 Try.underlying23 hi hz0' hz1' .i64 .i64 _ N rfl rfl rfl (by rw [hz2']; omega) (by unfold maxLen; omega) (Nat.le_refl _) ?_; intro w3 hown hg3)
      have hO3 : Own w3 w2.heap.size 27 1 (.slice (some ⟨w2.heap.size, 0, none⟩) 0 N) 0 [] := .inl hown
      have HO3 := Lib.hid hO3
      have HT3 := Lib.hid (HT2.out.trans (below_of_grownBy hg3 (B := w0.heap.size) HT2.out.size (fun k hk => by cases hk)))
      have HZ2 := Lib.hid HT2.out.size
      have hzg := hg3.size
      clear hown hg3 hO3
      go_loopw [12, 31] (fun hv iv wo => ∃ k : Nat, ∃ hs, k ≤ N ∧ iv = .int .i64 k ∧ Hid (Own wo w2.heap.size 27 1 hv k hs ∧ RowsO wo w2.heap.size hs (shT a b T first N) k ∧ ∀ j, j < k → Apart hv (hs.getD j .nilFunc)) ∧ Hid (Below w0.heap.size w0 wo ∧ w2.heap.size ≤ wo.heap.size)) (fun _ iv _ => N - (intOf iv).toNat)
      case atStart => exact ⟨0, [], Nat.zero_le _, rfl, ⟨HO3.out, RowsO.nil _ _ _, fun j hj => absurd hj (Nat.not_lt_zero _)⟩, HT3.out, hzg⟩
      case round =>
        clear HO3 HT3 hzg
        obtain ⟨k, hs, hk, rfl, HO, HB3⟩ := hrel
        obtain ⟨⟨u0, u1⟩, u2, u3⟩ := HK.out _ HB3.out.1
        by_cases hlt : k < N
        · have hfkk := HFK.out k hlt
          have wf : IntKind.i64.wrap (first + (k : Int)) = first + (k : Int) := IntWalk.i64_in _ (by omega)
          go_wp2_with fail
          refine (impl_switchedGreenI _ lo lo' _ _ a b T (first + (k : Int)) (HA.out.below HB3.out.1 (Nat.le_refl _)) (HB.out.below HB3.out.1 (Nat.le_refl _)) HAB.out (by omega) hfkk).mono ?_; rintro e w5 ⟨v5, rfl, hO5, hB5⟩
          obtain ⟨a5, k5, rfl, _, _⟩ := hO5.form
          have hOl := HO.out.1.below hB5 (Nat.le_refl _)
          have HO5 := Lib.hid hO5
          have HB5 := Lib.hid hB5
          have hsz5 : w2.heap.size ≤ w5.heap.size := Nat.le_trans HB3.out.2 hB5.size
          obtain ⟨n5, hn5⟩ : ∃ n, n = (swg a b T (first + (k : Int))).length := ⟨_, rfl⟩
          rw [← hn5]
          have HN5 := Lib.hid hn5
          clear hO5 hB5 u0 u1 u2 u3 hn5
          go_wp2_with (at_builtin; refine wpList_append_oneH _ rfl _ _ 23 rfl 27 (.slice none 0 0) 24 Try.underlying23 info_intsl rfl w2.heap.size _ _ _ rfl hOl _ _ w5.heap.size rfl rfl rfl (by omega) (by omega) hsz5 ?_; intro v6 w6 hO6 hg6 hk6)
          have hap := ss_app (w0 := wr) (w1 := w5) (w' := w6) (lo := w2.heap.size) (v := u12) (v' := v6) (u := .slice a5 n5 k5) (hs := hs) (t := shT a b T first N) (k := k) HO.out.1 HO.out.2.1 HO.out.2.2 HB5.out (by rw [shT_get hlt, ← HN5.out]; have := HO5.out; rw [← HN5.out] at this; exact this) HB3.out.2 hg6 hk6
          have HF : Hid (Own w6 w2.heap.size 27 1 v6 (k + 1) (hs ++ [Value.slice a5 n5 k5]) ∧ RowsO w6 w2.heap.size (hs ++ [Value.slice a5 n5 k5]) (shT a b T first N) (k + 1) ∧ ∀ j, j < k + 1 → Apart v6 ((hs ++ [Value.slice a5 n5 k5]).getD j .nilFunc)) := ⟨hO6, hap.1, hap.2⟩
          have HB6 : Hid (Below w0.heap.size w0 w6 ∧ w2.heap.size ≤ w6.heap.size) := by
            have hT5 := HB3.out.1.trans (HB5.out.mono HB3.out.1.size)
            exact ⟨hT5.trans (below_of_grownBy hg6 (B := w0.heap.size) hT5.size (fun q hq => by have := (hOl.wblk hq).1; have := HZ2.out; omega)), Nat.le_trans hsz5 hg6.size⟩
          clear hO6 hg6 hk6 hap hOl
          go_wp2_with fail
          go_roundw
          case rel => exact ⟨k + 1, _, by omega, by go_num, HF, HB6⟩
          case measure => simp [intOf]; omega
        · obtain rfl : k = N := by omega
          have HF : Hid (OwnSS wr w.heap.size u12 (shO a b f first (k : Int))) := by
            rw [HE.out, ← HTT.out]
            refine OwnSS.mono (lo := w2.heap.size) ⟨hs, by rw [shT_len]; exact HO.out.1, by rw [shT_len]; exact HO.out.2.1, fun j hj => HO.out.2.2 j (by rw [shT_len] at hj; exact hj)⟩ (Nat.le_trans HB0.out.size HZ2.out)
          go_wp2_with fail
          go_ret
          exact ⟨_, rfl, HF.out, HB0.out.trans (HB3.out.1.mono HB0.out.size)⟩

set_option maxHeartbeats 16000000 in
set_option maxRecDepth 100000 in
theorem spec_SwitchHistory (w : World) (lo lo' : Nat) (va vb : Value) (a b : Pln) (f first count : Int) (ha : PlanR w lo va a) (hb : PlanR w lo' vb b) :
    Calls Try.prog 45 #[va, vb, .int .i64 f, .int .i64 first, .int .i64 count] w (SSRet w (shO a b f first count)) := by
  have ha0 := ha
  have hb0 := hb
  obtain ⟨a0, c0, a1, c1, rfl, hac, has⟩ := ha.aggs
  obtain ⟨b0, d0, b1, d1, rfl, hbc, hbs⟩ := hb.aggs
  obtain ⟨wp, hwp, hBp, hzp, K⟩ := two_box w (.slice a0 a.cl.length c0) (.slice a1 a.st.length c1) (.slice b0 b.cl.length d0) (.slice b1 b.st.length d1) 26
  have hOp := Own.made wp [] 27 wp.heap.size 1 0 rfl (Nat.le_refl _) (by decide)
  obtain ⟨w0, hw0⟩ : ∃ x, x = wp.alloc (.cells #[] 27) := ⟨_, rfl⟩
  rw [show (wp.alloc (Obj.cells (List.toArray []) 27)) = w0 from hw0.symm] at hOp
  have hsp : wp.heap.size = w.heap.size + 1 + 1 := by rw [hwp]; simp
  have hBpe : Below wp.heap.size wp w0 := by rw [hw0]; exact (Below.refl _ _).alloc (Nat.le_refl _) _
  have hB0 := hBp.trans (hBpe.mono hBp.size)
  have HK : Hid (∀ W, Below w0.heap.size w0 W → (W.cell? ⟨w.heap.size, 0, none⟩ = some (.slice a0 a.cl.length c0) ∧ W.cell? ⟨w.heap.size, 1, none⟩ = some (.slice a1 a.st.length c1)) ∧ (W.cell? ⟨w.heap.size + 1, 0, none⟩ = some (.slice b0 b.cl.length d0) ∧ W.cell? ⟨w.heap.size + 1, 1, none⟩ = some (.slice b1 b.st.length d1))) := fun W h => K W (hBpe.trans (h.mono hBpe.size))
  have hz0 : w.heap.size + 1 + 1 < w0.heap.size := by rw [hw0]; simp [hsp]
  have hOp2 : Own w0 w0.heap.size 27 1 (.slice (some ⟨w.heap.size + 1 + 1, 0, none⟩) 0 0) 0 [] := .inr ⟨rfl, rfl, _, rfl⟩
  have HOP := Lib.hid hOp2
  have HA := Lib.hid (ha0.below hB0 (Nat.le_refl _))
  have HB := Lib.hid (hb0.below hB0 (Nat.le_refl _))
  have HB0 := Lib.hid hB0
  obtain ⟨r1, hr1⟩ : ∃ r, r = sameC a b := ⟨_, rfl⟩
  obtain ⟨r2, hr2⟩ : ∃ r, r = inR f 0 9999 := ⟨_, rfl⟩
  obtain ⟨r3, hr3⟩ : ∃ r, r = inR first 0 9999 := ⟨_, rfl⟩
  obtain ⟨r4, hr4⟩ : ∃ r, r = inR count 0 150 := ⟨_, rfl⟩
  have HSO : Hid (shO a b f first count = if (r1 && r2) = true ∧ (r3 && (r4 && decide (first + count - 1 ≤ 9999))) = true then shT a b (swt (cyc a) f) first count.toNat else []) := by unfold Hid shO swV spanB; rw [hr1, hr2, hr3, hr4]; rfl
  have HR1 := Lib.hid hr1
  have HR2 := Lib.hid hr2
  have HR3 := Lib.hid hr3
  have HR4 := Lib.hid hr4
  clear K ha0 hb0 ha hb hac has hbc hbs hB0 hr1 hr2 hr3 hr4 hOp hOp2 hsp hBpe hBp hzp
  go_enter Try.func45, Try.ntmps45
  go_wp2_with fail
  rw [← hwp, ← hw0]; clear hw0 hwp
  refine (spec_sameClear _ lo lo' _ _ a b HA.out HB.out).mono ?_; rintro e w1 ⟨rfl, hB1⟩
  rw [← HR1.out]
  have HT1 := Lib.hid hB1
  clear hB1
  cases r1
  · have HE : Hid (shO a b f first count = []) := by unfold Hid; rw [HSO.out, if_neg (by simp)]
    go_wp2_with fail
    go_ret
    exact ⟨_, rfl, by rw [HE.out]; exact OwnSS.nil _ _, HB0.out.trans (HT1.out.mono HB0.out.size)⟩
  go_wp2_with fail
  refine (inRange_dec f 0 9999 r2 _ HR2.out.symm).mono ?_; rintro e _ ⟨rfl, rfl⟩
  cases r2
  · have HE : Hid (shO a b f first count = []) := by unfold Hid; rw [HSO.out, if_neg (by simp)]
    go_wp2_with fail
    go_ret
    exact ⟨_, rfl, by rw [HE.out]; exact OwnSS.nil _ _, HB0.out.trans (HT1.out.mono HB0.out.size)⟩
  go_wp2_with fail
  refine (inRange_dec first 0 9999 r3 _ HR3.out.symm).mono ?_; rintro e _ ⟨rfl, rfl⟩
  cases r3
  · have HE : Hid (shO a b f first count = []) := by unfold Hid; rw [HSO.out, if_neg (by simp)]
    go_wp2_with fail
    go_ret
    exact ⟨_, rfl, by rw [HE.out]; exact OwnSS.nil _ _, HB0.out.trans (HT1.out.mono HB0.out.size)⟩
  go_wp2_with fail
  refine (inRange_dec count 0 150 r4 _ HR4.out.symm).mono ?_; rintro e _ ⟨rfl, rfl⟩
  cases r4
  · have HE : Hid (shO a b f first count = []) := by unfold Hid; rw [HSO.out, if_neg (by simp)]
    go_wp2_with fail
    go_ret
    exact ⟨_, rfl, by rw [HE.out]; exact OwnSS.nil _ _, HB0.out.trans (HT1.out.mono HB0.out.size)⟩
  have hb3 := inR_iff.1 HR3.out.symm
  have hb4 := inR_iff.1 HR4.out.symm
  have wq1 : IntKind.i64.wrap (first + count) = first + count := IntWalk.i64_in _ (by omega)
  have wq2 : IntKind.i64.wrap (first + count - 1) = first + count - 1 := IntWalk.i64_in _ (by omega)
  by_cases hsum : first + count - 1 ≤ 9999
  case neg =>
    have t1 : decide (9999 < first + count - 1) = true := decide_eq_true (by omega)
    have HE : Hid (shO a b f first count = []) := by unfold Hid; rw [HSO.out, decide_eq_false hsum, if_neg (by simp)]
    clear hsum
    go_wp2_with fail
    go_ret
    exact ⟨_, rfl, by rw [HE.out]; exact OwnSS.nil _ _, HB0.out.trans (HT1.out.mono HB0.out.size)⟩
  case pos =>
    have t1 : decide (9999 < first + count - 1) = false := decide_eq_false (by omega)
    obtain ⟨N, hN⟩ := Int.eq_ofNat_of_zero_le hb4.1
    subst hN
    have hN150 : N ≤ 150 := by omega
    have hfk : ∀ k, k < N → 0 ≤ first + (k : Int) ∧ first + (k : Int) ≤ 9999 := fun k hk => by omega
    have HFK := Lib.hid hfk
    have hab := HR1.out.symm
    have hf := HR2.out.symm
    have HE : Hid (shO a b f first (N : Int) = shT a b (swt (cyc a) f) first N) := by unfold Hid; rw [HSO.out, decide_eq_true hsum, if_pos (by simp)]; rfl
    have HAB := Lib.hid hab
    have HTE := Lib.hid (swT_eq (sameC_iff.1 hab).1 hf)
    have hTb := swt_nums (sameC_iff.1 hab).1 hf
    obtain ⟨T, hT⟩ : ∃ T, T = swt (cyc a) f := ⟨_, rfl⟩
    rw [← hT] at hTb
    have HTT := Lib.hid hT
    have hfb : -1000 ≤ first ∧ first ≤ 9999 := by omega
    have HO1 := Lib.hid (HOP.out.below HT1.out (Nat.le_refl _))
    clear hab hf hT hfk hsum hb3
    go_wp2_with fail
    clear t1 wq1 wq2
    go_loopw [11, 12] (fun hv iv wo => ∃ k : Nat, ∃ hs, k ≤ N ∧ iv = .int .i64 k ∧ Hid (Own wo w0.heap.size 27 1 hv k hs ∧ RowsO wo w0.heap.size hs (shT a b T first N) k ∧ ∀ j, j < k → Apart hv (hs.getD j .nilFunc)) ∧ Hid (Below w0.heap.size w0 wo)) (fun _ iv _ => N - (intOf iv).toNat)
    case atStart => exact ⟨0, [], Nat.zero_le _, rfl, ⟨HO1.out, RowsO.nil _ _ _, fun j hj => absurd hj (Nat.not_lt_zero _)⟩, HT1.out⟩
    case round =>
      clear HO1
      obtain ⟨k, hs, hk, rfl, HO, HB3⟩ := hrel
      by_cases hlt : k < N
      · have hfkk := HFK.out k hlt
        have wf : IntKind.i64.wrap (first + (k : Int)) = first + (k : Int) := IntWalk.i64_in _ (by omega)
        have hgt := shT_get (a := a) (b := b) (T := T) (first := first) (N := N) hlt
        obtain ⟨n5, hn5⟩ : ∃ n, n = (swg a b T (first + (k : Int))).length := ⟨_, rfl⟩
        have HN5 := Lib.hid hn5
        have HGT := Lib.hid hgt
        have KA : Hid (∀ W, Below wr.heap.size wr W → (W.cell? ⟨w.heap.size, 0, none⟩ = some (.slice a0 a.cl.length c0) ∧ W.cell? ⟨w.heap.size, 1, none⟩ = some (.slice a1 a.st.length c1)) ∧ (W.cell? ⟨w.heap.size + 1, 0, none⟩ = some (.slice b0 b.cl.length d0) ∧ W.cell? ⟨w.heap.size + 1, 1, none⟩ = some (.slice b1 b.st.length d1))) := fun W h => HK.out _ (HB3.out.trans (h.mono HB3.out.size))
        have HAr := Lib.hid (HA.out.below HB3.out (Nat.le_refl _))
        have HBr := Lib.hid (HB.out.below HB3.out (Nat.le_refl _))
        have hsz := HB3.out.size
        clear hgt hn5
        go_wp2_with fail
        go_region_held3 (fun W => (W.cell? ⟨w.heap.size, 0, none⟩ = some (.slice a0 a.cl.length c0) ∧ W.cell? ⟨w.heap.size, 1, none⟩ = some (.slice a1 a.st.length c1)) ∧ (W.cell? ⟨w.heap.size + 1, 0, none⟩ = some (.slice b0 b.cl.length d0) ∧ W.cell? ⟨w.heap.size + 1, 1, none⟩ = some (.slice b1 b.st.length d1)))
          (first | exact HK.out _ hB6 | exact KA.out _ (hB5.alloc hB5.size _) | exact KA.out _ hB5 | exact KA.out _ hB4 | exact KA.out _ (Below.drew (Below.refl wr.heap.size wr)) | go_keep | assumption)
          ((first
            | (go_at_call 92; refine (spec_switchTime _ lo _ a f (HAr.out.below (Below.drew (Below.refl wr.heap.size wr)) (Nat.le_refl _))).mono ?_; rintro e w4 ⟨rfl, hB4'⟩; rw [HTE.out, ← HTT.out]; have hB4 : Below wr.heap.size wr w4 := (Below.drew (Below.refl wr.heap.size wr)).trans hB4')
            | (go_at_call 91; refine (spec_switched _ lo lo' _ _ a b T (first + (k : Int)) (HAr.out.below hB4 (Nat.le_refl _)) (HBr.out.below hB4 (Nat.le_refl _)) HAB.out (by omega) hfkk).mono ?_; rintro e w5 ⟨v5, rfl, hO5, hB5'⟩; obtain ⟨a5, k5, rfl, _, _⟩ := hO5.form; have hB5 : Below wr.heap.size wr w5 := hB4.trans (hB5'.mono hB4.size); have hO5w := HO.out.1.below hB5 (Nat.le_refl _); have hz5 : w0.heap.size ≤ w5.heap.size := Nat.le_trans hsz hB5.size; rw [← HN5.out])
            | (refine step_append_OwnW _ (by rfl) _ _ 23 (by rfl) 27 (.slice none 0 0) 1 24 Try.underlying23 info_intsl rfl (by omega) w0.heap.size _ _ _ (by rfl) hO5w [.slice a5 n5 k5] rfl _ w5.heap.size (by rfl) rfl (by simp; rfl) (by omega) (by omega) hz5 ?_; intro v6 w6 hO6 hg6 hk6; have hB6 : Below w0.heap.size w0 w6 := (HB3.out.trans (hB5.mono HB3.out.size)).trans (below_of_grownBy hg6 hz5 (fun q hq => (hO5w.wblk hq).1)))))
        have hap := ss_app (w0 := wr) (w1 := w5) (w' := w6) (lo := w0.heap.size) (v := u11) (v' := v6) (u := .slice a5 n5 k5) (hs := hs) (t := shT a b T first N) (k := k) HO.out.1 HO.out.2.1 HO.out.2.2 hB5 (by rw [HGT.out, ← HN5.out]; have := hO5.mono (show wr.heap.size ≤ w4.heap.size from hB4.size); rw [← HN5.out] at this; exact this) hsz hg6 hk6
        have HF : Hid (Own w6 w0.heap.size 27 1 v6 (k + 1) (hs ++ [Value.slice a5 n5 k5]) ∧ RowsO w6 w0.heap.size (hs ++ [Value.slice a5 n5 k5]) (shT a b T first N) (k + 1) ∧ ∀ j, j < k + 1 → Apart v6 ((hs ++ [Value.slice a5 n5 k5]).getD j .nilFunc)) := ⟨hO6, hap.1, hap.2⟩
        have HB6 := Lib.hid hB6
        clear hO6 hg6 hk6 hap hO5w hO5 hB6 hB5 hB4 hB5' hB4'
        go_wp2
        go_roundw
        case rel => exact ⟨k + 1, _, by omega, by go_num, HF, HB6⟩
        case measure => simp [intOf]; omega
      · obtain rfl : k = N := by omega
        have HF : Hid (OwnSS wr w.heap.size u11 (shO a b f first (k : Int))) := by
          rw [HE.out, ← HTT.out]
          refine OwnSS.mono (lo := w0.heap.size) ⟨hs, by rw [shT_len]; exact HO.out.1, by rw [shT_len]; exact HO.out.2.1, fun j hj => HO.out.2.2 j (by rw [shT_len] at hj; exact hj)⟩ HB0.out.size
        go_wp2_with fail
        go_ret
        exact ⟨_, rfl, HF.out, HB0.out.trans (HB3.out.mono HB0.out.size)⟩
end Go.Proofs.Ytokpgipbgkiepaa
