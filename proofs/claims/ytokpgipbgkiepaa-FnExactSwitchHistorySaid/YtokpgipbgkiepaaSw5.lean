/- sameClear, bridge, switched, SwitchedGreen: the reference's. -/
import Derived.Test.YtokpgipbgkiepaaSw4
import Derived.Test.YtokpgipbgkiepaaSw2
namespace Go.Proofs.Ytokpgipbgkiepaa
open Go.RowKit
set_option linter.unusedVariables false
set_option linter.unusedSimpArgs false

theorem validCl_row {t : List (List Int)} (h : validCl t = true) {i : Nat} (hi : i < t.length) : (t.getD i []).length = t.length := (rowOk_iff.1 ((validCl_iff.1 h).2.2.1 i hi)).1

set_option maxHeartbeats 8000000 in
set_option maxRecDepth 100000 in
theorem spec_sameClear (w : World) (lo lo' : Nat) (va vb : Value) (a b : Pln) (ha : PlanR w lo va a) (hb : PlanR w lo' vb b) :
    Calls Try.prog 89 #[va, vb] w fun e w' => e = .returned (.bool (sameC a b)) ∧ Below w.heap.size w w' := by
  have ha0 := ha
  have hb0 := hb
  obtain ⟨a0, c0, a1, c1, rfl, hac, has⟩ := ha.aggs
  obtain ⟨b0, d0, b1, d1, rfl, hbc, hbs⟩ := hb.aggs
  obtain ⟨w0, hw0, hB0, hz0, K⟩ := two_box w (.slice a0 a.cl.length c0) (.slice a1 a.st.length c1) (.slice b0 b.cl.length d0) (.slice b1 b.st.length d1) 26
  obtain ⟨_, _, _, hca1, hca2⟩ := hac.form
  obtain ⟨_, _, _, hcb1, hcb2⟩ := hbc.form
  have HK := Lib.hid K
  have HA := Lib.hid (ha0.below hB0 (Nat.le_refl _))
  have HB := Lib.hid (hb0.below hB0 (Nat.le_refl _))
  have HAC := Lib.hid (hac.below hB0 (Nat.le_refl _))
  have HBC := Lib.hid (hbc.below hB0 (Nat.le_refl _))
  have HB0 := Lib.hid hB0
  obtain ⟨r1, hr1⟩ : ∃ r, r = validP a := ⟨_, rfl⟩
  obtain ⟨r2, hr2⟩ : ∃ r, r = validP b := ⟨_, rfl⟩
  have HSO : Hid (sameC a b = (r1 && (r2 && decide (a.cl = b.cl)))) := by unfold Hid sameC; rw [hr1, hr2]
  have HR1 := Lib.hid hr1
  have HR2 := Lib.hid hr2
  clear K ha0 hb0 ha hb hac has hbc hbs hB0 hr1 hr2
  go_enter Try.func89, Try.ntmps89
  go_wp2_with fail
  rw [← hw0]; clear hw0
  refine (spec_validPlan _ lo _ a HA.out).mono ?_; rintro e w1 ⟨rfl, hB1⟩
  rw [← HR1.out]
  have HT1 := Lib.hid hB1
  obtain ⟨⟨u0, u1⟩, u2, u3⟩ := HK.out _ hB1
  clear hB1
  cases r1
  · have HE : Hid (sameC a b = false) := by unfold Hid; rw [HSO.out]; rfl
    go_wp2_with fail
    go_ret
    exact ⟨ret_bool HE.out.symm, HB0.out.trans (HT1.out.mono HB0.out.size)⟩
  · go_wp2_with fail
    refine (spec_validPlan _ lo' _ b (HB.out.below HT1.out (Nat.le_refl _))).mono ?_; rintro e w2 ⟨rfl, hB2⟩
    rw [← HR2.out]
    have HT2 := Lib.hid (HT1.out.trans (hB2.mono HT1.out.size))
    clear hB2 u0 u1 u2 u3
    obtain ⟨⟨u0, u1⟩, u2, u3⟩ := HK.out _ HT2.out
    cases r2
    · have HE : Hid (sameC a b = false) := by unfold Hid; rw [HSO.out]; rfl
      go_wp2_with fail
      go_ret
      exact ⟨ret_bool HE.out.symm, HB0.out.trans (HT2.out.mono HB0.out.size)⟩
    · have HVA := Lib.hid (validP_iff.1 HR1.out.symm).1
      have HVB := Lib.hid (validP_iff.1 HR2.out.symm).1
      by_cases hl : a.cl.length = b.cl.length
      · have t1 : ((a.cl.length : Int) != (b.cl.length : Int)) = false := by rw [hl]; simp
        have t2 : (!((a.cl.length : Int) == (b.cl.length : Int))) = false := by rw [hl]; simp
        have t3 : (a.cl.length == b.cl.length) = true := by rw [hl]; simp
        have HL := Lib.hid hl
        have hl1 : a.cl.length ≤ b.cl.length := by omega
        clear hl
        go_wp2_with fail
        clear u0 u1 u2 u3
        go_loopw [5] (fun iv wo => ∃ i : Nat, i ≤ a.cl.length ∧ iv = .int .i64 i ∧ Hid (∀ j, j < i → a.cl.getD j [] = b.cl.getD j []) ∧ Hid (Below w0.heap.size w0 wo)) (fun iv _ => a.cl.length - (intOf iv).toNat)
        case atStart => exact ⟨0, Nat.zero_le _, rfl, fun j hj => absurd hj (Nat.not_lt_zero _), HT2.out⟩
        case round =>
          obtain ⟨i, hi, rfl, HE, HB3⟩ := hrel
          obtain ⟨⟨u0, u1⟩, u2, u3⟩ := HK.out _ HB3.out
          by_cases hlt : i < a.cl.length
          · go_wp2_with fail
            go_loopw [6] (fun kv wo => ∃ k : Nat, k ≤ a.cl.length ∧ kv = .int .i64 k ∧ Hid (∀ j, j < k → (a.cl.getD i []).getD j 0 = (b.cl.getD i []).getD j 0) ∧ Hid (Below w0.heap.size w0 wo)) (fun kv _ => a.cl.length - (intOf kv).toNat)
            case atStart => exact ⟨0, Nat.zero_le _, rfl, fun j hj => absurd hj (Nat.not_lt_zero _), HB3⟩
            case round =>
              clear u0 u1 u2 u3
              obtain ⟨k, hk, rfl, HE2, HB4⟩ := hrel
              obtain ⟨⟨u0, u1⟩, u2, u3⟩ := HK.out _ HB4.out
              have hra := validCl_row HVA.out hlt
              have hrb : (b.cl.getD i []).length = b.cl.length := validCl_row HVB.out (by omega)
              by_cases hltk : k < a.cl.length
              · obtain ⟨g, o, rfl, _, hg, hc⟩ := (HAC.out.below HB4.out (Nat.le_refl _)).spot (by omega)
                obtain ⟨g2, o2, rfl, _, hg2, hc2⟩ := (HBC.out.below HB4.out (Nat.le_refl _)).spot (by omega)
                obtain ⟨x1, y1, p1, hI1⟩ := hc i hlt
                obtain ⟨x2, y2, p2, hI2⟩ := hc2 i (by omega)
                obtain ⟨h1, o3, rfl, _, _, q1⟩ := hI1.spot 0 (by omega)
                obtain ⟨h2, o4, rfl, _, _, q2⟩ := hI2.spot 0 (by omega)
                have s1 := q1 k (by omega)
                have s2 := q2 k (by omega)
                have ml1 : a.cl.length ≤ y1 ∧ y1 ≤ 9223372036854775807 := by obtain ⟨_, _, e, h3, h4⟩ := Rd.form hI1; cases e; exact ⟨by omega, h4⟩
                have ml2 : a.cl.length ≤ y2 ∧ y2 ≤ 9223372036854775807 := by obtain ⟨_, _, e, h3, h4⟩ := Rd.form hI2; cases e; exact ⟨by omega, h4⟩
                rw [hra] at p1 hI1
                rw [hrb, ← HL.out] at p2 hI2
                obtain ⟨x, hx⟩ : ∃ x, x = (a.cl.getD i []).getD k 0 := ⟨_, rfl⟩
                obtain ⟨y, hy⟩ : ∃ x, x = (b.cl.getD i []).getD k 0 := ⟨_, rfl⟩
                rw [← hx] at s1
                rw [← hy] at s2
                have HX := Lib.hid hx
                have HY := Lib.hid hy
                have i0 : (0 : Int) ≤ (i : Int) := by omega
                have i1 : (i : Int) < (a.cl.length : Int) := by omega
                have i2 : (i : Int) < (b.cl.length : Int) := by omega
                have k0 : (0 : Int) ≤ (k : Int) := by omega
                have k1 : (k : Int) < (a.cl.length : Int) := by omega
                have hltb : k < b.cl.length := by omega
                have hltb2 : i < b.cl.length := by omega
                clear hc hc2 hI1 hI2 q1 q2 hx hy hra hrb
                by_cases he : x = y
                · have te : (x != y) = false := by simp [he]
                  have te2 : (!(x == y)) = false := by simp [he]
                  have HEQ := Lib.hid he
                  clear he
                  go_wp2_with fail
                  go_quiet (fail)
                  go_wp2
                  go_roundw
                  case rel => exact ⟨k + 1, by omega, by go_num, fun j hj => by
                    by_cases h : j = k
                    · subst h; rw [← HX.out, ← HY.out]; exact HEQ.out
                    · exact HE2.out j (by omega), below_drewN HB4.out _⟩
                  case measure => simp [intOf]; omega
                · have te : (x != y) = true := by simp [he]
                  have te2 : (!(x == y)) = true := by simp [he]
                  have HD : Hid (sameC a b = false) := by
                    unfold Hid; rw [HSO.out, decide_eq_false (fun h => he (by rw [HX.out, HY.out, h]))]; rfl
                  clear he
                  go_wp2_with fail
                  go_quiet (fail)
                  go_wp2
                  go_ret
                  exact ⟨ret_bool HD.out.symm, below_drewN (HB0.out.trans (HB4.out.mono HB0.out.size)) _⟩
              · obtain rfl : k = a.cl.length := by omega
                have HEI : Hid (a.cl.getD i [] = b.cl.getD i []) := ints_ext (by rw [hra, hrb, HL.out]) (fun j hj => HE2.out j (by omega))
                clear hra hrb
                go_wp2_with fail
                go_roundw
                case rel => exact ⟨i + 1, by omega, by go_num, fun j hj => by
                  by_cases h : j = i
                  · subst h; exact HEI.out
                  · exact HE.out j (by omega), HB4⟩
                case measure => simp [intOf]; omega
          · obtain rfl : i = a.cl.length := by omega
            have HD : Hid (sameC a b = true) := by unfold Hid; rw [HSO.out, decide_eq_true (ss_ext HL.out HE.out)]; rfl
            go_wp2_with fail
            go_ret
            exact ⟨ret_bool HD.out.symm, HB0.out.trans (HB3.out.mono HB0.out.size)⟩
      · have t1 : ((a.cl.length : Int) != (b.cl.length : Int)) = true := by simp; omega
        have t2 : (!((a.cl.length : Int) == (b.cl.length : Int))) = true := by simp; omega
        have t3 : (a.cl.length == b.cl.length) = false := beq_eq_false_iff_ne.mpr hl
        have HD : Hid (sameC a b = false) := by unfold Hid; rw [HSO.out, decide_eq_false (fun h => hl (by rw [h]))]; rfl
        clear hl
        go_wp2_with fail
        go_ret
        exact ⟨ret_bool HD.out.symm, HB0.out.trans (HT2.out.mono HB0.out.size)⟩

set_option maxHeartbeats 8000000 in
set_option maxRecDepth 100000 in
theorem spec_bridge (w : World) (lo lo' : Nat) (va vb : Value) (a b : Pln) (ha : PlanR w lo va a) (hb : PlanR w lo' vb b) (hab : sameC a b = true) :
    Calls Try.prog 117 #[va, vb] w fun e w' => e = .returned (.int .i64 (br a b)) ∧ Below w.heap.size w w' := by
  obtain ⟨hva, hvb, hcl⟩ := sameC_iff.1 hab
  have ha0 := ha
  have hb0 := hb
  obtain ⟨a0, c0, a1, c1, rfl, hac, has⟩ := ha.aggs
  obtain ⟨b0, d0, b1, d1, rfl, hbc, hbs⟩ := hb.aggs
  obtain ⟨ba, oa, ai, ci, rfl, hba, xa, hIa⟩ := has.first (ph_st hva)
  obtain ⟨bb, ob, bi, di, rfl, hbb, xb, hIb⟩ := hbs.first (ph_st hvb)
  obtain ⟨w0, hw0, hB0, hz0, K⟩ := two_box w (.slice a0 a.cl.length c0) (.slice (some ⟨ba, oa, none⟩) a.st.length c1) (.slice b0 b.cl.length d0) (.slice (some ⟨bb, ob, none⟩) b.st.length d1) 26
  have hbr := br_bd hva hvb hcl
  have hma := (validP_st hva (ph_st hva)).1
  have hmb := (validP_st hvb (ph_st hvb)).1
  rw [← hcl] at hmb
  have hla : 0 < a.st.length := ph_st hva
  have hlb : 0 < b.st.length := ph_st hvb
  have hlen := movesB_len hma (by omega)
  have hcl8 := (validCl_iff.1 (validP_iff.1 hva).1).2.1
  obtain ⟨pa, hpa⟩ : ∃ x, x = (a.st.getD 0 s0).ph := ⟨_, rfl⟩
  obtain ⟨pb, hpb⟩ : ∃ x, x = (b.st.getD 0 s0).ph := ⟨_, rfl⟩
  have hbr2 : br a b = change a.cl pa pb := by rw [hpa, hpb]; rfl
  obtain ⟨r, hr⟩ : ∃ x, x = br a b := ⟨_, rfl⟩
  have hbr3 : r = change a.cl pa pb := by rw [hr, hbr2]
  rw [← hpa] at xa hIa hma hlen
  rw [← hpb] at xb hIb hmb
  rw [← hr] at hbr
  have HK : Hid (∀ W, Below w0.heap.size w0 W → ((W.cell? ⟨w.heap.size, 0, none⟩ = some (.slice a0 a.cl.length c0) ∧ W.cell? ⟨w.heap.size, 1, none⟩ = some (.slice (some ⟨ba, oa, none⟩) a.st.length c1)) ∧ (W.cell? ⟨w.heap.size + 1, 0, none⟩ = some (.slice b0 b.cl.length d0) ∧ W.cell? ⟨w.heap.size + 1, 1, none⟩ = some (.slice (some ⟨bb, ob, none⟩) b.st.length d1))) ∧ W.cell? ⟨ba, oa, none⟩ = some (.slice ai pa.length ci) ∧ W.cell? ⟨bb, ob, none⟩ = some (.slice bi pb.length di)) := fun W h => by
    have hT := hB0.trans (h.mono hB0.size)
    exact ⟨K W h, (hT.cell (p := ⟨ba, oa, none⟩) hba).trans xa, (hT.cell (p := ⟨bb, ob, none⟩) hbb).trans xb⟩
  have HA := Lib.hid (ha0.below hB0 (Nat.le_refl _))
  have HB := Lib.hid (hb0.below hB0 (Nat.le_refl _))
  have HAC := Lib.hid (hac.below hB0 (Nat.le_refl _))
  have HIA : Hid (Ints w0 lo (.slice ai pa.length ci) pa) := Rd.below hIa hB0 (Nat.le_refl _) (by decide)
  have HIB : Hid (Ints w0 lo' (.slice bi pb.length di) pb) := Rd.below hIb hB0 (Nat.le_refl _) (by decide)
  have HB0 := Lib.hid hB0
  have HVA := Lib.hid hva
  have HVB := Lib.hid hvb
  have HMA := Lib.hid hma
  have HMB := Lib.hid hmb
  have HBR := Lib.hid hbr3
  have HRB := Lib.hid hr
  have HAB := Lib.hid hab
  clear K ha0 hb0 ha hb hac has hbc hbs hB0 hva hvb hcl hab hma hmb hlen hcl8 hpa hpb hbr2 hbr3 hr xa xb hIa hIb
  obtain ⟨⟨⟨u0, u1⟩, u2, u3⟩, u4, u5⟩ := HK.out _ (Below.refl _ _)
  go_enter Try.func117, Try.ntmps117
  go_wp2_with fail
  rw [← hw0]; clear hw0
  go_region_held3 (fun W => ((W.cell? ⟨w.heap.size, 0, none⟩ = some (.slice a0 a.cl.length c0) ∧ W.cell? ⟨w.heap.size, 1, none⟩ = some (.slice (some ⟨ba, oa, none⟩) a.st.length c1)) ∧ (W.cell? ⟨w.heap.size + 1, 0, none⟩ = some (.slice b0 b.cl.length d0) ∧ W.cell? ⟨w.heap.size + 1, 1, none⟩ = some (.slice (some ⟨bb, ob, none⟩) b.st.length d1))) ∧ W.cell? ⟨ba, oa, none⟩ = some (.slice ai pa.length ci) ∧ W.cell? ⟨bb, ob, none⟩ = some (.slice bi pb.length di))
    (first | exact HK.out _ hB5 | exact HK.out _ (Below.refl _ _) | go_keep | assumption)
    ((go_at_call 127; refine (spec_change _ lo lo lo' _ _ _ a.cl pa pb (HAC.out.below (Below.drew (Below.refl w0.heap.size w0)) (Nat.le_refl _)) (validP_iff.1 HVA.out).1 (Rd.below HIA.out (Below.drew (Below.refl w0.heap.size w0)) (Nat.le_refl _) (by decide)) (Rd.below HIB.out (Below.drew (Below.refl w0.heap.size w0)) (Nat.le_refl _) (by decide)) HMA.out HMB.out).mono ?_; rintro e w5 ⟨rfl, hB5'⟩; have hB5 : Below w0.heap.size w0 w5 := (Below.drew (Below.refl w0.heap.size w0)).trans hB5'))
  have hT := HB0.out.trans (hB5.mono HB0.out.size)
  go_wp2
  go_ret
  exact ⟨ret_int (by rw [← HRB.out, HBR.out]), hT⟩

set_option maxHeartbeats 8000000 in
set_option maxRecDepth 100000 in
theorem spec_switched (w : World) (lo lo' : Nat) (va vb : Value) (a b : Pln) (T s : Int) (ha : PlanR w lo va a) (hb : PlanR w lo' vb b) (hab : sameC a b = true) (hT : 0 ≤ T ∧ T ≤ 20000) (hs : 0 ≤ s ∧ s ≤ 9999) :
    Calls Try.prog 91 #[va, vb, .int .i64 T, .int .i64 s] w (OwnRet w (swg a b T s)) := by
  obtain ⟨hva, hvb, hcl⟩ := sameC_iff.1 hab
  have ha0 := ha
  have hb0 := hb
  obtain ⟨a0, c0, a1, c1, rfl, hac, has⟩ := ha.aggs
  obtain ⟨b0, d0, b1, d1, rfl, hbc, hbs⟩ := hb.aggs
  obtain ⟨ba, oa, ai, ci, rfl, hba, xa, hIa⟩ := has.first (ph_st hva)
  obtain ⟨bb, ob, bi, di, rfl, hbb, xb, hIb⟩ := hbs.first (ph_st hvb)
  obtain ⟨w0, hw0, hB0, hz0, K⟩ := two_box w (.slice a0 a.cl.length c0) (.slice (some ⟨ba, oa, none⟩) a.st.length c1) (.slice b0 b.cl.length d0) (.slice (some ⟨bb, ob, none⟩) b.st.length d1) 26
  have hbr := br_bd hva hvb hcl
  have hma := (validP_st hva (ph_st hva)).1
  have hmb := (validP_st hvb (ph_st hvb)).1
  rw [← hcl] at hmb
  have hla : 0 < a.st.length := ph_st hva
  have hlb : 0 < b.st.length := ph_st hvb
  have hlen := movesB_len hma (by omega)
  have hcl8 := (validCl_iff.1 (validP_iff.1 hva).1).2.1
  obtain ⟨pa, hpa⟩ : ∃ x, x = (a.st.getD 0 s0).ph := ⟨_, rfl⟩
  obtain ⟨pb, hpb⟩ : ∃ x, x = (b.st.getD 0 s0).ph := ⟨_, rfl⟩
  have hbr2 : br a b = change a.cl pa pb := by rw [hpa, hpb]; rfl
  obtain ⟨r, hr⟩ : ∃ x, x = br a b := ⟨_, rfl⟩
  have hbr3 : r = change a.cl pa pb := by rw [hr, hbr2]
  have hsw : swg a b T s = if s < T then grn a (s % cyc a) else if s < T + 5 then pa else if s < T + 5 + r then [] else grn b ((s - (T + 5 + r)) % cyc b) := by
    unfold swg; rw [hr, hpa]; rfl
  rw [← hpa] at xa hIa hma hlen
  rw [← hpb] at xb hIb hmb
  rw [← hr] at hbr
  have HK : Hid (∀ W, Below w0.heap.size w0 W → ((W.cell? ⟨w.heap.size, 0, none⟩ = some (.slice a0 a.cl.length c0) ∧ W.cell? ⟨w.heap.size, 1, none⟩ = some (.slice (some ⟨ba, oa, none⟩) a.st.length c1)) ∧ (W.cell? ⟨w.heap.size + 1, 0, none⟩ = some (.slice b0 b.cl.length d0) ∧ W.cell? ⟨w.heap.size + 1, 1, none⟩ = some (.slice (some ⟨bb, ob, none⟩) b.st.length d1))) ∧ W.cell? ⟨ba, oa, none⟩ = some (.slice ai pa.length ci) ∧ W.cell? ⟨bb, ob, none⟩ = some (.slice bi pb.length di)) := fun W h => by
    have hT := hB0.trans (h.mono hB0.size)
    exact ⟨K W h, (hT.cell (p := ⟨ba, oa, none⟩) hba).trans xa, (hT.cell (p := ⟨bb, ob, none⟩) hbb).trans xb⟩
  have HA := Lib.hid (ha0.below hB0 (Nat.le_refl _))
  have HB := Lib.hid (hb0.below hB0 (Nat.le_refl _))
  have HAC := Lib.hid (hac.below hB0 (Nat.le_refl _))
  have HIA : Hid (Ints w0 lo (.slice ai pa.length ci) pa) := Rd.below hIa hB0 (Nat.le_refl _) (by decide)
  have HIB : Hid (Ints w0 lo' (.slice bi pb.length di) pb) := Rd.below hIb hB0 (Nat.le_refl _) (by decide)
  have HB0 := Lib.hid hB0
  have HVA := Lib.hid hva
  have HVB := Lib.hid hvb
  have HMA := Lib.hid hma
  have HMB := Lib.hid hmb
  have HBR := Lib.hid hbr3
  have HRB := Lib.hid hr
  have HAB := Lib.hid hab
  have HSW := Lib.hid hsw
  have hca := cyc_bd hva
  have hcb := cyc_bd hvb
  obtain ⟨na, hna⟩ : ∃ x, x = cyc a := ⟨_, rfl⟩
  obtain ⟨nb, hnb⟩ : ∃ x, x = cyc b := ⟨_, rfl⟩
  rw [← hna] at hca
  rw [← hnb] at hcb
  have HNA := Lib.hid hna
  have HNB := Lib.hid hnb
  have wt1 : IntKind.i64.wrap (T + 5) = T + 5 := IntWalk.i64_in _ (by omega)
  have wt2 : IntKind.i64.wrap (T + 5 + r) = T + 5 + r := IntWalk.i64_in _ (by omega)
  have hl8 : pa.length ≤ 8 := by omega
  clear K ha0 hb0 ha hb hac has hbc hbs hB0 hva hvb hcl hab hma hmb hlen hcl8 hpa hpb hbr2 hbr3 hr hsw xa xb hIa hIb hna hnb
  obtain ⟨⟨⟨u0, u1⟩, u2, u3⟩, u4, u5⟩ := HK.out _ (Below.refl _ _)
  by_cases c1' : s < T
  · have t1 : decide (s < T) = true := decide_eq_true c1'
    have HE : Hid (swg a b T s = grn a (s % na)) := by unfold Hid; rw [HSW.out, if_pos c1', HNA.out]
    have m1 : 0 ≤ s % na := Int.emod_nonneg _ (by omega)
    have m2 : s % na < na := Int.emod_lt_of_pos _ (by omega)
    have m3 : s.tmod na = s % na := Int.tmod_eq_emod_of_nonneg hs.1
    have m4 : ¬ na = 0 := by omega
    clear c1'
    go_enter Try.func91, Try.ntmps91
    go_wp2_with fail
    rw [← hw0]; clear hw0
    go_region_held3 (fun W => ((W.cell? ⟨w.heap.size, 0, none⟩ = some (.slice a0 a.cl.length c0) ∧ W.cell? ⟨w.heap.size, 1, none⟩ = some (.slice (some ⟨ba, oa, none⟩) a.st.length c1)) ∧ (W.cell? ⟨w.heap.size + 1, 0, none⟩ = some (.slice b0 b.cl.length d0) ∧ W.cell? ⟨w.heap.size + 1, 1, none⟩ = some (.slice (some ⟨bb, ob, none⟩) b.st.length d1))) ∧ W.cell? ⟨ba, oa, none⟩ = some (.slice ai pa.length ci) ∧ W.cell? ⟨bb, ob, none⟩ = some (.slice bi pb.length di))
      (first | exact HK.out _ hB5 | exact HK.out _ hB4 | exact HK.out _ (Below.refl _ _) | go_keep | assumption)
      ((first
        | (go_at_call 116; refine (spec_cycle _ lo _ a (HA.out.below (Below.drew (Below.refl w0.heap.size w0)) (Nat.le_refl _)) HVA.out).mono ?_; rintro e w4 ⟨rfl, hB4'⟩; rw [← HNA.out]; have hB4 : Below w0.heap.size w0 w4 := (Below.drew (Below.refl w0.heap.size w0)).trans hB4')
        | (go_at_call 115; refine (spec_greenAt _ lo _ a (s % na) (HA.out.below hB4 (Nat.le_refl _)) HVA.out m1 (by rw [← HNA.out]; exact m2)).mono ?_; rintro e w5 ⟨v5, rfl, hO5, hB5'⟩; have hB5 : Below w0.heap.size w0 w5 := hB4.trans (hB5'.mono hB4.size))))
    rw [← HE.out] at hO5
    have HO5 := Lib.hid (hO5.mono (Nat.le_trans HB0.out.size hB4.size))
    have HT5 := Lib.hid (HB0.out.trans (hB5.mono HB0.out.size))
    clear hO5
    go_wp2
    go_ret
    exact ⟨_, rfl, HO5.out, HT5.out⟩
  · have t1 : decide (s < T) = false := decide_eq_false c1'
    go_enter Try.func91, Try.ntmps91
    go_wp2_with fail
    rw [← hw0]; clear hw0
    refine (spec_bridge _ lo lo' _ _ a b HA.out HB.out HAB.out).mono ?_; rintro e w1 ⟨rfl, hB1⟩
    rw [← HRB.out]
    have HT1 := Lib.hid hB1
    clear u0 u1 u2 u3 u4 u5 hB1
    obtain ⟨⟨⟨u0, u1⟩, u2, u3⟩, u4, u5⟩ := HK.out _ HT1.out
    by_cases c2' : s < T + 5
    · have t2 : decide (s < T + 5) = true := decide_eq_true c2'
      have HE : Hid (swg a b T s = pa) := by unfold Hid; rw [HSW.out, if_neg (by omega), if_pos c2']
      clear c1' c2'
      go_wp2_with fail
      refine (copyInts_any _ _ pa (Rd.mono (Rd.below HIA.out HT1.out (Nat.le_refl _) (by decide)) (Nat.zero_le _)) (by omega)).mono ?_; rintro e w2 ⟨v2, rfl, hO, hB⟩
      rw [← HE.out] at hO
      have HO := Lib.hid (hO.mono (Nat.le_trans HB0.out.size HT1.out.size))
      have HT2 := Lib.hid (HB0.out.trans ((HT1.out.trans (hB.mono HT1.out.size)).mono HB0.out.size))
      clear hO hB
      go_wp2_with fail
      go_ret
      exact ⟨_, rfl, HO.out, HT2.out⟩
    · have t2 : decide (s < T + 5) = false := decide_eq_false c2'
      by_cases c3' : s < T + 5 + r
      · have t3 : decide (s < T + 5 + r) = true := decide_eq_true c3'
        have HE : Hid (swg a b T s = []) := by unfold Hid; rw [HSW.out, if_neg (by omega), if_neg (by omega), if_pos c3']
        have HT2 := Lib.hid (HB0.out.trans (HT1.out.mono HB0.out.size))
        clear c1' c2' c3'
        go_wp2_with fail
        go_ret
        exact ⟨_, rfl, by rw [HE.out]; exact .inr ⟨rfl, rfl, _, rfl⟩, HT2.out.alloc HT2.out.size _⟩
      · have t3 : decide (s < T + 5 + r) = false := decide_eq_false c3'
        have HE : Hid (swg a b T s = grn b ((s - (T + 5 + r)) % nb)) := by unfold Hid; rw [HSW.out, if_neg (by omega), if_neg (by omega), if_neg c3', HNB.out]
        have wd : IntKind.i64.wrap (s - (T + 5 + r)) = s - (T + 5 + r) := IntWalk.i64_in _ (by omega)
        have m1 : 0 ≤ (s - (T + 5 + r)) % nb := Int.emod_nonneg _ (by omega)
        have m2 : (s - (T + 5 + r)) % nb < nb := Int.emod_lt_of_pos _ (by omega)
        have m3 : (s - (T + 5 + r)).tmod nb = (s - (T + 5 + r)) % nb := Int.tmod_eq_emod_of_nonneg (by omega)
        have m4 : ¬ nb = 0 := by omega
        have KB : Hid (∀ W, Below w1.heap.size w1 W → ((W.cell? ⟨w.heap.size, 0, none⟩ = some (.slice a0 a.cl.length c0) ∧ W.cell? ⟨w.heap.size, 1, none⟩ = some (.slice (some ⟨ba, oa, none⟩) a.st.length c1)) ∧ (W.cell? ⟨w.heap.size + 1, 0, none⟩ = some (.slice b0 b.cl.length d0) ∧ W.cell? ⟨w.heap.size + 1, 1, none⟩ = some (.slice (some ⟨bb, ob, none⟩) b.st.length d1))) ∧ W.cell? ⟨ba, oa, none⟩ = some (.slice ai pa.length ci) ∧ W.cell? ⟨bb, ob, none⟩ = some (.slice bi pb.length di)) := fun W h => HK.out _ (HT1.out.trans (h.mono HT1.out.size))
        clear c1' c2' c3'
        go_wp2_with fail
        go_region_held3 (fun W => ((W.cell? ⟨w.heap.size, 0, none⟩ = some (.slice a0 a.cl.length c0) ∧ W.cell? ⟨w.heap.size, 1, none⟩ = some (.slice (some ⟨ba, oa, none⟩) a.st.length c1)) ∧ (W.cell? ⟨w.heap.size + 1, 0, none⟩ = some (.slice b0 b.cl.length d0) ∧ W.cell? ⟨w.heap.size + 1, 1, none⟩ = some (.slice (some ⟨bb, ob, none⟩) b.st.length d1))) ∧ W.cell? ⟨ba, oa, none⟩ = some (.slice ai pa.length ci) ∧ W.cell? ⟨bb, ob, none⟩ = some (.slice bi pb.length di))
          (first | exact KB.out _ hB5 | exact KB.out _ hB4 | exact KB.out _ (Below.refl _ _) | go_keep | assumption)
          ((first
            | (go_at_call 116; refine (spec_cycle _ lo' _ b (HB.out.below (HT1.out.trans ((Below.drew (Below.refl w1.heap.size w1)).mono HT1.out.size)) (Nat.le_refl _)) HVB.out).mono ?_; rintro e w4 ⟨rfl, hB4'⟩; rw [← HNB.out]; have hB4 : Below w1.heap.size w1 w4 := (Below.drew (Below.refl w1.heap.size w1)).trans hB4')
            | (go_at_call 115; refine (spec_greenAt _ lo' _ b ((s - (T + 5 + r)) % nb) (HB.out.below (HT1.out.trans (hB4.mono HT1.out.size)) (Nat.le_refl _)) HVB.out m1 (by rw [← HNB.out]; exact m2)).mono ?_; rintro e w5 ⟨v5, rfl, hO5, hB5'⟩; have hB5 : Below w1.heap.size w1 w5 := hB4.trans (hB5'.mono hB4.size))))
        rw [← HE.out] at hO5
        have HO5 := Lib.hid (hO5.mono (Nat.le_trans HB0.out.size (Nat.le_trans HT1.out.size hB4.size)))
        have HT5 := Lib.hid (HB0.out.trans ((HT1.out.trans (hB5.mono HT1.out.size)).mono HB0.out.size))
        clear hO5
        go_wp2
        go_ret
        exact ⟨_, rfl, HO5.out, HT5.out⟩
end Go.Proofs.Ytokpgipbgkiepaa
