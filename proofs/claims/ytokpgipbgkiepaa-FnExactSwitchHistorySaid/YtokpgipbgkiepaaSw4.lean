/- validSwitch, switchedGreen, SwitchedGreen: the program's. -/
import Derived.Test.YtokpgipbgkiepaaSw3
import Derived.Test.YtokpgipbgkiepaaSw1
import Derived.Deep.RegionHeld3
namespace Go.Proofs.Ytokpgipbgkiepaa
open Go.RowKit
set_option linter.unusedVariables false
set_option linter.unusedSimpArgs false

/-- Two boxes of plans, one behind the other. -/
theorem two_box (w : World) (a0 a1 b0 b1 : Value) (T : TypeId) : ∃ w0, w0 = (w.alloc (.cells #[a0, a1] T)).alloc (.cells #[b0, b1] T) ∧ Below w.heap.size w w0 ∧ w.heap.size + 1 < w0.heap.size ∧
    ∀ W, Below w0.heap.size w0 W → (W.cell? ⟨w.heap.size, 0, none⟩ = some a0 ∧ W.cell? ⟨w.heap.size, 1, none⟩ = some a1) ∧ (W.cell? ⟨w.heap.size + 1, 0, none⟩ = some b0 ∧ W.cell? ⟨w.heap.size + 1, 1, none⟩ = some b1) := by
  obtain ⟨w1, hw1⟩ : ∃ x, x = w.alloc (.cells #[a0, a1] T) := ⟨_, rfl⟩
  have s1 : w1.heap.size = w.heap.size + 1 := by rw [hw1]; simp
  have hB1 : Below w.heap.size w w1 := by rw [hw1]; exact (Below.refl _ _).alloc (Nat.le_refl _) _
  have x0 : w1.cell? ⟨w.heap.size, 0, none⟩ = some a0 := by rw [hw1, cell_of_row _ w.heap.size 0 #[a0, a1] T (0, 0) (heap_alloc_new w _)]; simp
  have x1 : w1.cell? ⟨w.heap.size, 1, none⟩ = some a1 := by rw [hw1, cell_of_row _ w.heap.size 1 #[a0, a1] T (0, 0) (heap_alloc_new w _)]; simp
  refine ⟨w1.alloc (.cells #[b0, b1] T), by rw [hw1], hB1.alloc hB1.size _, by simp [s1], fun W h => ?_⟩
  have hB2 : Below w1.heap.size w1 W := ((Below.refl _ _).alloc (Nat.le_refl _) _).trans (h.mono (by simp))
  have y0 : (w1.alloc (.cells #[b0, b1] T)).cell? ⟨w1.heap.size, 0, none⟩ = some b0 := by rw [cell_of_row _ w1.heap.size 0 #[b0, b1] T (0, 0) (heap_alloc_new w1 _)]; simp
  have y1 : (w1.alloc (.cells #[b0, b1] T)).cell? ⟨w1.heap.size, 1, none⟩ = some b1 := by rw [cell_of_row _ w1.heap.size 1 #[b0, b1] T (0, 0) (heap_alloc_new w1 _)]; simp
  have l1 : w.heap.size < w1.heap.size := by omega
  have l2 : w1.heap.size < (w1.alloc (.cells #[b0, b1] T)).heap.size := by simp
  refine ⟨⟨(hB2.cell (p := ⟨w.heap.size, 0, none⟩) l1).trans x0, (hB2.cell (p := ⟨w.heap.size, 1, none⟩) l1).trans x1⟩, ?_, ?_⟩
  · rw [← s1]; exact (h.cell (p := ⟨w1.heap.size, 0, none⟩) l2).trans y0
  · rw [← s1]; exact (h.cell (p := ⟨w1.heap.size, 1, none⟩) l2).trans y1

theorem PlanR.aggs {w : World} {lo : Nat} {v : Value} {p : Pln} (h : PlanR w lo v p) : ∃ a0 c0 a1 c1, v = .agg #[.slice a0 p.cl.length c0, .slice a1 p.st.length c1] ∧ IntSS w lo (.slice a0 p.cl.length c0) p.cl ∧ StgS w lo (.slice a1 p.st.length c1) p.st := by
  obtain ⟨vc, vs, rfl, hc, hs⟩ := h
  obtain ⟨a0, c0, rfl, _, _⟩ := hc.form
  obtain ⟨a1, c1, rfl, _, _⟩ := hs.form
  exact ⟨a0, c0, a1, c1, rfl, hc, hs⟩

set_option maxHeartbeats 4000000 in
theorem impl_validSwitch (w : World) (lo lo' : Nat) (va vb : Value) (a b : Pln) (f : Int) (ha : PlanR w lo va a) (hb : PlanR w lo' vb b) :
    Calls Try.prog 87 #[va, vb, .int .i64 f] w fun e w' => e = .returned (.bool (swV a b f)) ∧ Below w.heap.size w w' := by
  have ha0 := ha
  have hb0 := hb
  obtain ⟨a0, c0, a1, c1, rfl, hac, has⟩ := ha.aggs
  obtain ⟨b0, d0, b1, d1, rfl, hbc, hbs⟩ := hb.aggs
  obtain ⟨w0, hw0, hB0, hz0, K⟩ := two_box w (.slice a0 a.cl.length c0) (.slice a1 a.st.length c1) (.slice b0 b.cl.length d0) (.slice b1 b.st.length d1) 26
  have HK := Lib.hid K
  have HA := Lib.hid ha0
  have HB := Lib.hid hb0
  have HAC := Lib.hid hac
  have HBC := Lib.hid hbc
  have HB0 := Lib.hid hB0
  obtain ⟨r1, hr1⟩ : ∃ r, r = validP a := ⟨_, rfl⟩
  obtain ⟨r2, hr2⟩ : ∃ r, r = validP b := ⟨_, rfl⟩
  obtain ⟨r3, hr3⟩ : ∃ r, r = decide (a.cl = b.cl) := ⟨_, rfl⟩
  obtain ⟨r4, hr4⟩ : ∃ r, r = inR f 0 9999 := ⟨_, rfl⟩
  have HSV : Hid (swV a b f = (r1 && (r2 && r3) && r4)) := by unfold Hid swV sameC; rw [hr1, hr2, hr3, hr4]
  have HR1 := Lib.hid hr1
  have HR2 := Lib.hid hr2
  have HR3 := Lib.hid hr3
  have HR4 := Lib.hid hr4
  rw [HSV.out]
  clear K ha0 hb0 ha hb hac has hbc hbs hB0 hr1 hr2 hr3 hr4 HSV
  go_enter Try.func87, Try.ntmps87
  go_wp2_with fail
  rw [← hw0]; clear hw0
  refine (impl_validPlan _ lo _ a (HA.out.below HB0.out (Nat.le_refl _))).mono ?_; rintro e w1 ⟨rfl, hB1⟩
  rw [← HR1.out]
  have HT1 := Lib.hid hB1
  obtain ⟨⟨u0, u1⟩, u2, u3⟩ := HK.out _ hB1
  clear hB1
  cases r1
  · go_wp2_with fail
    go_ret
    exact ⟨rfl, HB0.out.trans (HT1.out.mono HB0.out.size)⟩
  · go_wp2_with fail
    refine (impl_validPlan _ lo' _ b (HB.out.below (HB0.out.trans (HT1.out.mono HB0.out.size)) (Nat.le_refl _))).mono ?_; rintro e w2 ⟨rfl, hB2⟩
    rw [← HR2.out]
    have HT2 := Lib.hid (HT1.out.trans (hB2.mono HT1.out.size))
    clear hB2 u0 u1 u2 u3
    obtain ⟨⟨u0, u1⟩, u2, u3⟩ := HK.out _ HT2.out
    cases r2
    · go_wp2_with fail
      go_ret
      exact ⟨rfl, HB0.out.trans (HT2.out.mono HB0.out.size)⟩
    · have hTT := HB0.out.trans (HT2.out.mono HB0.out.size)
      have HTT := Lib.hid hTT
      clear hTT
      go_wp2_with fail
      refine (equalFunc_any _ lo lo' _ _ a.cl b.cl (HAC.out.below HTT.out (Nat.le_refl _)) (HBC.out.below HTT.out (Nat.le_refl _))).mono ?_; rintro e w3 ⟨rfl, hB3⟩
      rw [← HR3.out]
      have HT3 := Lib.hid (HTT.out.trans (hB3.mono HTT.out.size))
      clear hB3 u0 u1 u2 u3
      cases r3
      · go_wp2_with fail
        go_ret
        exact ⟨rfl, HT3.out⟩
      · go_wp2_with fail
        refine (within_dec f 0 9999 r4 _ HR4.out.symm).mono ?_; rintro e _ ⟨rfl, rfl⟩
        cases r4
        · go_wp2_with fail
          go_ret
          exact ⟨rfl, HT3.out⟩
        · go_wp2_with fail
          go_ret
          exact ⟨rfl, HT3.out⟩

theorem StgS.first {w : World} {lo : Nat} {t : List Stg} {ao : Option Addr} {len cap : Nat} (h : StgS w lo (.slice ao len cap) t) (hn : 0 < t.length) :
    ∃ b off ai ci, ao = some ⟨b, off, none⟩ ∧ b < w.heap.size ∧ w.cell? ⟨b, off, none⟩ = some (.slice ai (t.getD 0 s0).ph.length ci) ∧ Ints w lo (.slice ai (t.getD 0 s0).ph.length ci) (t.getD 0 s0).ph := by
  obtain ⟨b, off, e, _, h2, h3⟩ := h.spot hn
  obtain ⟨_, ai, ci, h4, h5⟩ := h3 0 hn
  exact ⟨b, off, ai, ci, e, h2, by simpa using h4, h5⟩

set_option maxHeartbeats 8000000 in
set_option maxRecDepth 100000 in
theorem impl_switchedGreenI (w : World) (lo lo' : Nat) (va vb : Value) (a b : Pln) (T s : Int) (ha : PlanR w lo va a) (hb : PlanR w lo' vb b) (hab : sameC a b = true) (hT : 0 ≤ T ∧ T ≤ 20000) (hs : 0 ≤ s ∧ s ≤ 9999) :
    Calls Try.prog 88 #[va, vb, .int .i64 T, .int .i64 s] w (OwnRet w (swg a b T s)) := by
  obtain ⟨hva, hvb, hcl⟩ := sameC_iff.1 hab
  have ha0 := ha
  have hb0 := hb
  obtain ⟨a0, c0, a1, c1, rfl, hac, has⟩ := ha.aggs
  obtain ⟨b0, d0, b1, d1, rfl, hbc, hbs⟩ := hb.aggs
  obtain ⟨ba, oa, ai, ci, rfl, hba, xa, hIa⟩ := has.first (ph_st hva)
  obtain ⟨bb, ob, bi, di, rfl, hbb, xb, hIb⟩ := hbs.first (ph_st hvb)
  obtain ⟨w0, hw0, hB0, hz0, K⟩ := two_box w (.slice a0 a.cl.length c0) (.slice (some ⟨ba, oa, none⟩) a.st.length c1) (.slice b0 b.cl.length d0) (.slice (some ⟨bb, ob, none⟩) b.st.length d1) 26
  have hbr := br_bd hva hvb hcl
  have hma := (validP_st hva (ph_st hva)).1
  have hmb := (validP_st hvb (ph_st hvb)).1
  rw [← hcl] at hmb
  have hla : 0 < a.st.length := ph_st hva
  have hlb : 0 < b.st.length := ph_st hvb
  have hlen := movesB_len hma (by omega)
  have hcl8 := (validCl_iff.1 (validP_iff.1 hva).1).2.1
  obtain ⟨pa, hpa⟩ : ∃ x, x = (a.st.getD 0 s0).ph := ⟨_, rfl⟩
  obtain ⟨pb, hpb⟩ : ∃ x, x = (b.st.getD 0 s0).ph := ⟨_, rfl⟩
  obtain ⟨r, hr⟩ : ∃ x, x = br a b := ⟨_, rfl⟩
  have hbr2 : r = change a.cl pa pb := by rw [hr, hpa, hpb]; rfl
  have hsw : swg a b T s = if s < T then grn a (s % cyc a) else if s < T + 5 then pa else if s < T + 5 + r then [] else grn b ((s - (T + 5 + r)) % cyc b) := by
    unfold swg; rw [hr, hpa]; rfl
  rw [← hpa] at xa hIa hma hlen
  rw [← hpb] at xb hIb hmb
  rw [← hr] at hbr
  have HK : Hid (∀ W, Below w0.heap.size w0 W → ((W.cell? ⟨w.heap.size, 0, none⟩ = some (.slice a0 a.cl.length c0) ∧ W.cell? ⟨w.heap.size, 1, none⟩ = some (.slice (some ⟨ba, oa, none⟩) a.st.length c1)) ∧ (W.cell? ⟨w.heap.size + 1, 0, none⟩ = some (.slice b0 b.cl.length d0) ∧ W.cell? ⟨w.heap.size + 1, 1, none⟩ = some (.slice (some ⟨bb, ob, none⟩) b.st.length d1))) ∧ W.cell? ⟨ba, oa, none⟩ = some (.slice ai pa.length ci) ∧ W.cell? ⟨bb, ob, none⟩ = some (.slice bi pb.length di)) := fun W h => by
    have hT := hB0.trans (h.mono hB0.size)
    exact ⟨K W h, (hT.cell (p := ⟨ba, oa, none⟩) hba).trans xa, (hT.cell (p := ⟨bb, ob, none⟩) hbb).trans xb⟩
  have HA := Lib.hid (ha0.below hB0 (Nat.le_refl _))
  have HB := Lib.hid (hb0.below hB0 (Nat.le_refl _))
  have HAC := Lib.hid (hac.below hB0 (Nat.le_refl _))
  have HIA : Hid (Ints w0 lo (.slice ai pa.length ci) pa) := Rd.below hIa hB0 (Nat.le_refl _) (by decide)
  have HIB : Hid (Ints w0 lo' (.slice bi pb.length di) pb) := Rd.below hIb hB0 (Nat.le_refl _) (by decide)
  have HB0 := Lib.hid hB0
  have HVA := Lib.hid hva
  have HVB := Lib.hid hvb
  have HMA := Lib.hid hma
  have HMB := Lib.hid hmb
  have HSW := Lib.hid hsw
  have HBR := Lib.hid hbr2
  have wt1 : IntKind.i64.wrap (T + 5) = T + 5 := IntWalk.i64_in _ (by omega)
  have wt2 : IntKind.i64.wrap (T + 5 + r) = T + 5 + r := IntWalk.i64_in _ (by omega)
  have hl8 : pa.length ≤ 8 := by omega
  clear K ha0 hb0 ha hb hac has hbc hbs hB0 hva hvb hcl hab hma hmb hlen hcl8 hpa hpb hr hbr2 hsw xb hIa hIb
  have hba1 : ba < w.heap.size + 1 := by omega
  go_enter Try.func88, Try.ntmps88
  go_wp2_with fail
  rw [← hw0]; clear hw0 xa hba1
  obtain ⟨⟨⟨u0, u1⟩, u2, u3⟩, u4, u5⟩ := HK.out _ (Below.refl _ _)
  by_cases c1' : s < T
  · have t1 : decide (s < T) = true := decide_eq_true c1'
    have HE : Hid (swg a b T s = grnO a s) := by unfold Hid grnO; rw [HSW.out, if_pos c1', if_pos ⟨HVA.out, inR_iff.2 hs⟩]
    clear c1'
    go_quiet ((go_at_call 97; exact quiet_eq ((impl_changeOf _ lo lo lo' _ _ _ a.cl pa pb (HAC.out.below (below_drewN (Below.refl _ _) _) (Nat.le_refl _)) (validP_iff.1 HVA.out).1 (Rd.drewN HIA.out _) (Rd.drewN HIB.out _) HMA.out HMB.out).mono (fun e w' h => ⟨h.1.trans (ret_int HBR.out.symm), h.2⟩))))
    go_wp2_with fail
    refine (impl_greenAt _ lo _ a s ((HA.out).below (below_drewN (Below.refl _ _) _) (Nat.le_refl _))).mono ?_; rintro e w2 ⟨v2, rfl, hO, hB⟩
    rw [← HE.out] at hO
    have HO := Lib.hid (hO.mono HB0.out.size)
    have HT2 := Lib.hid (HB0.out.trans (((below_drewN (Below.refl _ _) _).trans hB).mono HB0.out.size))
    clear hO hB
    go_wp2_with fail
    go_ret
    exact ⟨_, rfl, HO.out, HT2.out⟩
  · have t1 : decide (s < T) = false := decide_eq_false c1'
    by_cases c2' : s < T + 5
    · have t2 : decide (s < T + 5) = true := decide_eq_true c2'
      have HE : Hid (swg a b T s = pa) := by unfold Hid; rw [HSW.out, if_neg c1', if_pos c2']
      clear c1' c2'
      go_quiet ((go_at_call 97; exact quiet_eq ((impl_changeOf _ lo lo lo' _ _ _ a.cl pa pb (HAC.out.below (below_drewN (Below.refl _ _) _) (Nat.le_refl _)) (validP_iff.1 HVA.out).1 (Rd.drewN HIA.out _) (Rd.drewN HIB.out _) HMA.out HMB.out).mono (fun e w' h => ⟨h.1.trans (ret_int HBR.out.symm), h.2⟩))))
      go_wp2_with fail
      refine (clone_any _ lo _ pa (Rd.drewN HIA.out _) (by omega)).mono ?_; rintro e w2 ⟨v2, rfl, hO, hB⟩
      rw [← HE.out] at hO
      have HO := Lib.hid (hO.mono HB0.out.size)
      have HT2 := Lib.hid (HB0.out.trans (((below_drewN (Below.refl _ _) _).trans hB).mono HB0.out.size))
      clear hO hB
      go_wp2_with fail
      go_ret
      exact ⟨_, rfl, HO.out, HT2.out⟩
    · have t2 : decide (s < T + 5) = false := decide_eq_false c2'
      by_cases c3' : s < T + 5 + r
      · have t3 : decide (s < T + 5 + r) = true := decide_eq_true c3'
        have HE : Hid (swg a b T s = []) := by unfold Hid; rw [HSW.out, if_neg c1', if_neg c2', if_pos c3']
        clear c1' c2' c3'
        go_quiet ((go_at_call 97; exact quiet_eq ((impl_changeOf _ lo lo lo' _ _ _ a.cl pa pb (HAC.out.below (below_drewN (Below.refl _ _) _) (Nat.le_refl _)) (validP_iff.1 HVA.out).1 (Rd.drewN HIA.out _) (Rd.drewN HIB.out _) HMA.out HMB.out).mono (fun e w' h => ⟨h.1.trans (ret_int HBR.out.symm), h.2⟩))))
        go_wp2_with fail
        go_ret
        exact ⟨_, rfl, by rw [HE.out]; exact Own.nil _ _ _ _, HB0.out.trans ((below_drewN (Below.refl _ _) _).mono HB0.out.size)⟩
      · have t3 : decide (s < T + 5 + r) = false := decide_eq_false c3'
        have HE : Hid (swg a b T s = grnO b (s - (T + 5 + r))) := by unfold Hid grnO; rw [HSW.out, if_neg c1', if_neg c2', if_neg c3', if_pos ⟨HVB.out, inR_iff.2 ⟨by omega, by omega⟩⟩]
        have wd : IntKind.i64.wrap (s - (T + 5 + r)) = s - (T + 5 + r) := IntWalk.i64_in _ (by omega)
        clear c1' c2' c3'
        go_quiet ((go_at_call 97; exact quiet_eq ((impl_changeOf _ lo lo lo' _ _ _ a.cl pa pb (HAC.out.below (below_drewN (Below.refl _ _) _) (Nat.le_refl _)) (validP_iff.1 HVA.out).1 (Rd.drewN HIA.out _) (Rd.drewN HIB.out _) HMA.out HMB.out).mono (fun e w' h => ⟨h.1.trans (ret_int HBR.out.symm), h.2⟩))))
        go_wp2_with fail
        refine (impl_greenAt _ lo' _ b (s - (T + 5 + r)) ((HB.out).below (below_drewN (Below.refl _ _) _) (Nat.le_refl _))).mono ?_; rintro e w2 ⟨v2, rfl, hO, hB⟩
        rw [← HE.out] at hO
        have HO := Lib.hid (hO.mono HB0.out.size)
        have HT2 := Lib.hid (HB0.out.trans (((below_drewN (Below.refl _ _) _).trans hB).mono HB0.out.size))
        clear hO hB
        go_wp2_with fail
        go_ret
        exact ⟨_, rfl, HO.out, HT2.out⟩

theorem swT_eq {a : Pln} {f : Int} (ha : validP a = true) (hf : inR f 0 9999 = true) : swT a f = swt (cyc a) f := by unfold swT; rw [if_pos ⟨ha, hf⟩]

set_option maxHeartbeats 8000000 in
set_option maxRecDepth 100000 in
theorem impl_SwitchedGreen (w : World) (lo lo' : Nat) (va vb : Value) (a b : Pln) (f s : Int) (ha : PlanR w lo va a) (hb : PlanR w lo' vb b) :
    Calls Try.prog 36 #[va, vb, .int .i64 f, .int .i64 s] w (OwnRet w (swO a b f s)) := by
  have ha0 := ha
  have hb0 := hb
  obtain ⟨a0, c0, a1, c1, rfl, hac, has⟩ := ha.aggs
  obtain ⟨b0, d0, b1, d1, rfl, hbc, hbs⟩ := hb.aggs
  obtain ⟨w0, hw0, hB0, hz0, K⟩ := two_box w (.slice a0 a.cl.length c0) (.slice a1 a.st.length c1) (.slice b0 b.cl.length d0) (.slice b1 b.st.length d1) 26
  have HK := Lib.hid K
  have HA := Lib.hid (ha0.below hB0 (Nat.le_refl _))
  have HB := Lib.hid (hb0.below hB0 (Nat.le_refl _))
  have HB0 := Lib.hid hB0
  obtain ⟨r1, hr1⟩ : ∃ r, r = swV a b f := ⟨_, rfl⟩
  obtain ⟨r2, hr2⟩ : ∃ r, r = inR s 0 9999 := ⟨_, rfl⟩
  have HSO : Hid (swO a b f s = if r1 = true ∧ r2 = true then swg a b (swt (cyc a) f) s else []) := by unfold Hid swO; rw [hr1, hr2]
  have HR1 := Lib.hid hr1
  have HR2 := Lib.hid hr2
  clear K ha0 hb0 ha hb hac has hbc hbs hB0 hr1 hr2
  go_enter Try.func36, Try.ntmps36
  go_wp2_with fail
  rw [← hw0]; clear hw0
  refine (impl_validSwitch _ lo lo' _ _ a b f HA.out HB.out).mono ?_; rintro e w1 ⟨rfl, hB1⟩
  rw [← HR1.out]
  have HT1 := Lib.hid hB1
  clear hB1
  cases r1
  · have HE : Hid (swO a b f s = []) := by unfold Hid; rw [HSO.out, if_neg (by simp)]
    go_wp2_with fail
    go_ret
    exact ⟨_, rfl, by rw [HE.out]; exact Own.nil _ _ _ _, HB0.out.trans (HT1.out.mono HB0.out.size)⟩
  · go_wp2_with fail
    refine (within_dec s 0 9999 r2 _ HR2.out.symm).mono ?_; rintro e _ ⟨rfl, rfl⟩
    cases r2
    · have HE : Hid (swO a b f s = []) := by unfold Hid; rw [HSO.out, if_neg (by simp)]
      go_wp2_with fail
      go_ret
      exact ⟨_, rfl, by rw [HE.out]; exact Own.nil _ _ _ _, HB0.out.trans (HT1.out.mono HB0.out.size)⟩
    · have HE : Hid (swO a b f s = swg a b (swt (cyc a) f) s) := by unfold Hid; rw [HSO.out, if_pos (by simp)]
      have hsv := HR1.out.symm
      unfold swV at hsv
      rw [Bool.and_eq_true] at hsv
      obtain ⟨hab, hf⟩ := hsv
      have hsb := inR_iff.1 HR2.out.symm
      have HAB := Lib.hid hab
      have HTE := Lib.hid (swT_eq (sameC_iff.1 hab).1 hf)
      have hTb := swt_nums (sameC_iff.1 hab).1 hf
      have KC : Hid (∀ W, Below w1.heap.size w1 W → (W.cell? ⟨w.heap.size, 0, none⟩ = some (.slice a0 a.cl.length c0) ∧ W.cell? ⟨w.heap.size, 1, none⟩ = some (.slice a1 a.st.length c1)) ∧ (W.cell? ⟨w.heap.size + 1, 0, none⟩ = some (.slice b0 b.cl.length d0) ∧ W.cell? ⟨w.heap.size + 1, 1, none⟩ = some (.slice b1 b.st.length d1))) := fun W h => HK.out _ (HT1.out.trans (h.mono HT1.out.size))
      obtain ⟨T, hT⟩ : ∃ T, T = swt (cyc a) f := ⟨_, rfl⟩
      rw [← hT] at hTb
      have HTT := Lib.hid hT
      have HA1 := Lib.hid (HA.out.below HT1.out (Nat.le_refl _))
      have HB1 := Lib.hid (HB.out.below HT1.out (Nat.le_refl _))
      clear hab hf hT
      obtain ⟨⟨u0, u1⟩, u2, u3⟩ := KC.out _ (Below.refl _ _)
      go_wp2_with fail
      go_region_held3 (fun W => (W.cell? ⟨w.heap.size, 0, none⟩ = some (.slice a0 a.cl.length c0) ∧ W.cell? ⟨w.heap.size, 1, none⟩ = some (.slice a1 a.st.length c1)) ∧ (W.cell? ⟨w.heap.size + 1, 0, none⟩ = some (.slice b0 b.cl.length d0) ∧ W.cell? ⟨w.heap.size + 1, 1, none⟩ = some (.slice b1 b.st.length d1)))
        (first | exact KC.out _ hB5 | exact KC.out _ hB4 | exact KC.out _ (Below.refl _ _) | go_keep | assumption)
        ((first
          | (go_at_call 40; refine (impl_switchTime _ lo _ a f (HA1.out.below (Below.drew (Below.refl w1.heap.size w1)) (Nat.le_refl _))).mono ?_; rintro e w4 ⟨rfl, hB4'⟩; rw [HTE.out, ← HTT.out]; have hB4 : Below w1.heap.size w1 w4 := (Below.drew (Below.refl w1.heap.size w1)).trans hB4')
          | (go_at_call 88; refine (impl_switchedGreenI _ lo lo' _ _ a b T s (HA1.out.below hB4 (Nat.le_refl _)) (HB1.out.below hB4 (Nat.le_refl _)) HAB.out (by omega) hsb).mono ?_; rintro e w5 ⟨v5, rfl, hO5, hB5'⟩; have hB5 : Below w1.heap.size w1 w5 := hB4.trans (hB5'.mono hB4.size))))
      have hTF := HB0.out.trans ((HT1.out.trans (hB5.mono HT1.out.size)).mono HB0.out.size)
      have hTF4 := HB0.out.trans ((HT1.out.trans (hB4.mono HT1.out.size)).mono HB0.out.size)
      have HO5 : Hid (Own w5 w.heap.size 3 1 v5 (swO a b f s).length ((swO a b f s).map (.int .i64))) := by rw [HE.out, ← HTT.out]; exact hO5.mono hTF4.size
      clear hO5 hB5' hB4'
      go_wp2
      go_ret
      exact ⟨_, rfl, HO5.out, hTF⟩
end Go.Proofs.Ytokpgipbgkiepaa
