/- FnSetGreens: the walk. -/
import Derived.Test.YtokpgipbgkiepaaGr5
import Derived.Test.YtokpgipbgkiepaaEqP
import Derived.Test.YtokpgipbgkiepaaDrG
namespace Go.Proofs.Ytokpgipbgkiepaa
open Go.RowKit
set_option linter.unusedVariables false
set_option linter.unusedSimpArgs false

set_option maxHeartbeats 8000000 in
theorem fnSetGreens_walk (w : World) (v : Value) (bs : List UInt8) (hv : Bytes w 0 v bs) :
    Calls Try.prog 3 #[v] w fun e w' => e = .returned (.bool true) ∧ Below w.heap.size w w' := by
  obtain ⟨ao, cap, rfl, hcap, hm⟩ := hv.form
  by_cases hlen : bs.length ≤ 1048576
  · go_enter Try.func3, Try.ntmps3
    go_wp2_with fail
    go_at_call 14
    refine (drawSetGreens _ _ bs hv).mono ?_; rintro e w1 ⟨v1, ug, pl, gs, rfl, hP1, hD1, hG1, hgl, hgt, hB1⟩
    have hP1r := hP1
    obtain ⟨vc, vs, rfl, hc1, hs1⟩ := hP1r
    obtain ⟨b4, d4, rfl, _, _⟩ := hc1.form
    obtain ⟨b5, d5, rfl, _, _⟩ := hs1.form
    obtain ⟨ag, cg, rfl, _, _⟩ := hG1.form
    obtain ⟨w2, hw2, hB2, y0, y1, hz2⟩ := plan_box w1 (.slice b4 pl.cl.length d4) (.slice b5 pl.st.length d5)
    have HP2 := Lib.hid ((hP1.below hB2 (Nat.le_refl _)).mono (Nat.zero_le _))
    have HG2 : Hid (Ints w2 0 (.slice ag gs.length cg) gs) := Rd.mono (Rd.below hG1 hB2 (Nat.le_refl _) (by decide)) (Nat.zero_le _)
    have HB2 := Lib.hid (hB1.trans (hB2.mono hB1.size))
    have HW2 := Lib.hid hw2
    have HKp : Hid (∀ W, Below w2.heap.size w2 W → W.cell? ⟨w1.heap.size, 0, none⟩ = some (.slice b4 pl.cl.length d4) ∧ W.cell? ⟨w1.heap.size, 1, none⟩ = some (.slice b5 pl.st.length d5)) := fun W h => ⟨(h.cell (p := ⟨w1.heap.size, 0, none⟩) hz2).trans y0, (h.cell (p := ⟨w1.heap.size, 1, none⟩) hz2).trans y1⟩
    have HP : Hid (∀ W, Below w2.heap.size w2 W → PlanR W 0 (.agg #[.slice b4 pl.cl.length d4, .slice b5 pl.st.length d5]) pl) := fun W h => HP2.out.below h (Nat.le_refl _)
    have HG : Hid (∀ W, Below w2.heap.size w2 W → Ints W 0 (.slice ag gs.length cg) gs) := fun W h => Rd.below HG2.out h (Nat.le_refl _) (by decide)
    clear hP1 hc1 hs1 hw2 hB2 hB1 hv hD1 hG1 HP2 HG2
    go_wp2_with fail
    rw [← HW2.out]
    clear HW2
    obtain ⟨ok, hok⟩ : ∃ x, x = sgB pl gs := ⟨_, rfl⟩
    obtain ⟨q, hq⟩ : ∃ x, x = sgP pl gs := ⟨_, rfl⟩
    have HOK := Lib.hid hok
    have HQ := Lib.hid hq
    clear hok hq
    refine (impl_setGreens _ 0 0 _ _ pl gs (HP.out _ (Below.refl _ _)) (HG.out _ (Below.refl _ _))).mono ?_; rintro e w3 ⟨v3, rfl, hP3, hB3⟩
    rw [← HQ.out] at hP3
    rw [← HOK.out]
    have hP3r := hP3.planR
    obtain ⟨vc, vs, rfl, hc1, hs1⟩ := hP3r
    obtain ⟨b6, d6, rfl, _, _⟩ := hc1.form
    obtain ⟨b7, d7, rfl, _, _⟩ := hs1.form
    obtain ⟨w4, hw4, hB4', x0, x1, hz4⟩ := plan_box w3 (.slice b6 q.cl.length d6) (.slice b7 q.st.length d7)
    have hB4 := hB3.trans (hB4'.mono hB3.size)
    have HPq : Hid (∀ W, Below w4.heap.size w4 W → PlanR W 0 (.agg #[.slice b6 q.cl.length d6, .slice b7 q.st.length d7]) q) := fun W h => ((hP3.planR.below hB4' (Nat.le_refl _)).mono (Nat.zero_le _)).below h (Nat.le_refl _)
    have HKq : Hid (∀ W, Below w4.heap.size w4 W → W.cell? ⟨w3.heap.size, 0, none⟩ = some (.slice b6 q.cl.length d6) ∧ W.cell? ⟨w3.heap.size, 1, none⟩ = some (.slice b7 q.st.length d7)) := fun W h => ⟨(h.cell (p := ⟨w3.heap.size, 0, none⟩) hz4).trans x0, (h.cell (p := ⟨w3.heap.size, 1, none⟩) hz4).trans x1⟩
    have HB4 := Lib.hid hB4
    have HW4 := Lib.hid hw4
    obtain ⟨z0, z1⟩ := HKp.out _ hB3
    have hzp : w1.heap.size < w3.heap.size := by have := hB3.size; omega
    clear hP3 hc1 hs1 hw4 hB4' y0 y1 x0 x1 hB4 hB3
    go_wp2_with fail
    rw [← HW4.out]
    clear HW4
    refine (spec_setGreens _ 0 0 _ _ pl gs (HP.out _ HB4.out) (HG.out _ HB4.out)).mono ?_; rintro e w5 ⟨v5, rfl, hP5, hB5⟩
    rw [← HQ.out] at hP5
    rw [← HOK.out]
    obtain ⟨vc, vs, rfl, hc1, hs1⟩ := id hP5
    obtain ⟨b8, d8, rfl, _, _⟩ := hc1.form
    obtain ⟨b9, d9, rfl, _, _⟩ := hs1.form
    obtain ⟨w6, hw6, hB6', x0, x1, hz6⟩ := plan_box w5 (.slice b8 q.cl.length d8) (.slice b9 q.st.length d9)
    have hB46 := hB5.trans (hB6'.mono hB5.size)
    have hz5 := hB5.size
    have HPw : Hid (∀ W, Below w6.heap.size w6 W → PlanR W 0 (.agg #[.slice b8 q.cl.length d8, .slice b9 q.st.length d9]) q) := fun W h => (hP5.below hB6' (Nat.le_refl _)).below h (Nat.le_refl _)
    have HKw : Hid (∀ W, Below w6.heap.size w6 W → W.cell? ⟨w5.heap.size, 0, none⟩ = some (.slice b8 q.cl.length d8) ∧ W.cell? ⟨w5.heap.size, 1, none⟩ = some (.slice b9 q.st.length d9)) := fun W h => ⟨(h.cell (p := ⟨w5.heap.size, 0, none⟩) hz6).trans x0, (h.cell (p := ⟨w5.heap.size, 1, none⟩) hz6).trans x1⟩
    have HB6 := Lib.hid hB46
    have HW6 := Lib.hid hw6
    obtain ⟨q0, q1⟩ := HKq.out _ hB5
    have hz35 : w3.heap.size < w5.heap.size := by omega
    have hz15 : w1.heap.size < w5.heap.size := by omega
    have hPq6 := HPq.out _ hB46
    have hPw6 := HPw.out _ (Below.refl _ _)
    have hok1 : (ok != ok) = false := by simp
    have hok2 : (ok == ok) = true := by simp
    clear hP5 hc1 hs1 hw6 hB6' x0 x1 hB5 hB46 z0 z1
    go_wp2_with fail
    rw [← HW6.out]
    clear HW6
    refine (equalPlan_same _ _ _ q hPq6 hPw6).mono ?_; rintro e w7 ⟨rfl, hB7⟩
    obtain ⟨q0', q1'⟩ := HKq.out _ (HB6.out.trans (hB7.mono HB6.out.size))
    obtain ⟨u0', u1'⟩ := HKw.out _ hB7
    clear q0 q1
    have HB7 := Lib.hid (HB6.out.trans (hB7.mono HB6.out.size))
    have HB67 := Lib.hid hB7
    clear hB7 hPq6 hPw6
    cases ok
    · go_wp2_with fail
      refine (equalPlan_same _ _ _ q (HPq.out _ HB7.out) (HPw.out _ HB67.out)).mono ?_; rintro e w8 ⟨rfl, hB8⟩
      have hT4 := HB2.out.trans (HB4.out.mono HB2.out.size)
      have hT7 := hT4.trans (HB7.out.mono hT4.size)
      go_wp2_with fail
      go_ret
      exact ⟨rfl, hT7.trans (hB8.mono hT7.size)⟩
    · have hsg := HOK.out.symm
      have hsg2 := hsg
      unfold sgB at hsg
      simp only [Bool.and_eq_true] at hsg
      obtain ⟨hv, hg⟩ := hsg
      have hgl2 : gs.length = pl.st.length := (okG_iff.1 hg).1
      have hqe : q = wgs pl gs := by rw [HQ.out]; unfold sgP; rw [if_pos hsg2]
      have hql : q.st.length = pl.st.length := by rw [hqe, wgs_len]
      have hB27 := HB4.out.trans (HB7.out.mono HB4.out.size)
      have HB27 := Lib.hid hB27
      have HT7 : Hid (Below w.heap.size w w7) := HB2.out.trans (hB27.mono HB2.out.size)
      have HQE := Lib.hid hqe
      have HV := Lib.hid hv
      have HOG := Lib.hid hg
      have hO7 := Own.made w7 [] 3 w7.heap.size 1 0 rfl (Nat.le_refl _) (by decide)
      have hA7 : Below w7.heap.size w7 (w7.alloc (.cells #[] 3)) := (Below.refl _ _).alloc (Nat.le_refl _) _
      clear hv hg hsg2 hqe hB27 q0' q1' u0' u1'
      go_wp2_with fail
      go_loopw [9, 10] (fun v i wo => ∃ k : Nat, ∃ ys : List Int, k ≤ pl.st.length ∧ i = .int .i64 k ∧ ys.length = k ∧ Hid (ys = (grs pl).take k) ∧ Own wo w7.heap.size 3 1 v ys.length (ys.map (.int .i64)) ∧ Below w7.heap.size w7 wo)
        (fun _ i _ => pl.st.length - (intOf i).toNat)
      case atStart => exact ⟨0, [], Nat.zero_le _, rfl, rfl, by unfold Hid; simp, hO7, hA7⟩
      case round =>
        clear hO7 hA7
        obtain ⟨k, ys, hk, rfl, hyl, HY, hO, hB⟩ := hrel
        obtain ⟨y0, y1⟩ := HKp.out _ (HB27.out.trans (hB.mono HB27.out.size))
        by_cases hlt : k < pl.st.length
        · obtain ⟨_, _, ep, _, hsp⟩ := HP.out _ HB27.out
          cases ep
          obtain ⟨_, _, ep, _, hsq⟩ := HPq.out _ HB7.out
          cases ep
          obtain ⟨bp, op, rfl, _, hbp, hcp⟩ := hsp.spot (by omega)
          obtain ⟨gp, ap, cp, h1p, hIp⟩ := hcp k hlt
          obtain ⟨bq, oq, rfl, _, hbq, hcq⟩ := hsq.spot (by omega)
          obtain ⟨gq, aq, cq, h1q, hIq⟩ := hcq k (by omega)
          obtain ⟨_, hlg, _, _, hcg⟩ := (HG.out _ HB27.out).cell
          obtain ⟨bg, og, rfl, _, hbg, hcg⟩ := hcg (by omega)
          have hgk := hcg k (by omega)
          simp only [List.getElem_map] at hgk
          have eq1 : q.st.getD k s0 = ⟨(pl.st.getD k s0).ph, gs.getD k 0⟩ := by rw [HQE.out]; exact wgs_get hlt
          have eg1 : gs[k] = gs.getD k 0 := by simp [List.getD_eq_getElem?_getD, show k < gs.length by omega]
          have hgr : (grs pl).take (k + 1) = ys ++ [(pl.st.getD k s0).gr] := by rw [List.take_add_one, ← HY.out]; simp [grs, List.getD_eq_getElem?_getD, hlt]
          have HGR := Lib.hid hgr
          rw [eq1] at gq h1q hIq
          rw [eg1] at hgk
          simp only at gq h1q hIq
          obtain ⟨row, hrow⟩ : ∃ row, row = (pl.st.getD k s0).ph := ⟨_, rfl⟩
          obtain ⟨gr, hgr0⟩ : ∃ gr, gr = (pl.st.getD k s0).gr := ⟨_, rfl⟩
          obtain ⟨gk, hgk0⟩ : ∃ gk, gk = gs.getD k 0 := ⟨_, rfl⟩
          rw [← hrow] at h1p hIp h1q hIq
          rw [← hgr0] at gp
          rw [← hgk0] at gq hgk
          have HGR0 := Lib.hid hgr0
          have hne : (gk != gk) = false := by simp
          have KA : Hid (∀ W, Below w7.heap.size w7 W → W.cell? ⟨w1.heap.size, 1, none⟩ = some (.slice (some ⟨bp, op, none⟩) pl.st.length d5) ∧ W.cell? ⟨w3.heap.size, 1, none⟩ = some (.slice (some ⟨bq, oq, none⟩) q.st.length d7) ∧ W.cell? ⟨bp, op + k * 2, none⟩ = some (.slice ap row.length cp) ∧ W.cell? ⟨bq, oq + k * 2, none⟩ = some (.slice aq row.length cq) ∧ W.cell? ⟨bq, oq + k * 2 + 1, none⟩ = some (.int .i64 gk) ∧ W.cell? ⟨bg, og + k, none⟩ = some (.int .i64 gk)) := fun W h =>
            ⟨(HKp.out _ (HB27.out.trans (h.mono HB27.out.size))).2, (HKq.out _ (HB7.out.trans (h.mono HB7.out.size))).2, (h.cell (p := ⟨bp, op + k * 2, none⟩) hbp).trans h1p, (h.cell (p := ⟨bq, oq + k * 2, none⟩) hbq).trans h1q, (h.cell (p := ⟨bq, oq + k * 2 + 1, none⟩) hbq).trans gq, (h.cell (p := ⟨bg, og + k, none⟩) hbg).trans hgk⟩
          have gpr := (hB.cell (p := ⟨bp, op + k * 2 + 1, none⟩) hbp).trans gp
          have HIp : Hid (∀ W, Below w7.heap.size w7 W → Ints W 0 (.slice ap row.length cp) row) := fun W h => Rd.below hIp h (Nat.le_refl _) (by decide)
          have HIq : Hid (∀ W, Below w7.heap.size w7 W → Ints W 0 (.slice aq row.length cq) row) := fun W h => Rd.below hIq h (Nat.le_refl _) (by decide)
          have hk0 : (0 : Int) ≤ (k : Int) := by omega
          have hk1 : (k : Int) < (pl.st.length : Int) := by omega
          have hk2 : (k : Int) < (q.st.length : Int) := by omega
          have hk3 : (k : Int) < (gs.length : Int) := by omega
          have hsz := hB.size
          clear hsp hcp hsq hcq hcg gp h1p hIp gq h1q hIq hgk eq1 eg1 hgr hrow hgr0 hgk0 hlg
          go_wp2_with (at_builtin; refine wpList_append_one _ rfl _ _ 27 rfl 3 (.int .i64 0) 8 Try.underlying27 info_int rfl w7.heap.size _ _ _ rfl hO _ _ rfl rfl (by omega) (by omega) (by omega) ?_; intro v' w8 hO8 hg8 _)
          have hB8 : Below w7.heap.size w7 w8 := hB.trans (below_of_grownBy hg8 (by omega) (fun k hk => (hO.wblk hk).1))
          have hB8d : Below w7.heap.size w7 w8.drew := hB8.trans ((Below.drew (Below.refl w8.heap.size w8)).mono hB8.size)
          have hz8 := hB8.size
          go_region_held3 (fun w' => w'.cell? ⟨w1.heap.size, 1, none⟩ = some (.slice (some ⟨bp, op, none⟩) pl.st.length d5) ∧ w'.cell? ⟨w3.heap.size, 1, none⟩ = some (.slice (some ⟨bq, oq, none⟩) q.st.length d7) ∧ w'.cell? ⟨bp, op + k * 2, none⟩ = some (.slice ap row.length cp) ∧ w'.cell? ⟨bq, oq + k * 2, none⟩ = some (.slice aq row.length cq) ∧ w'.cell? ⟨bq, oq + k * 2 + 1, none⟩ = some (.int .i64 gk) ∧ w'.cell? ⟨bg, og + k, none⟩ = some (.int .i64 gk))
            (first | exact KA.out _ hB5 | exact KA.out _ hB8d | exact KA.out _ hB8 | go_keep | assumption)
            ((go_at_call 18; refine (equalInts_same _ _ _ row (HIq.out _ (hB8.trans ((Below.drew (Below.refl w8.heap.size w8)).mono hB8.size))) (HIp.out _ (hB8.trans ((Below.drew (Below.refl w8.heap.size w8)).mono hB8.size)))).mono ?_; rintro e w9 ⟨rfl, hB9⟩; have hB89 : Below w8.heap.size w8 w9 := (Below.drew (Below.refl w8.heap.size w8)).trans hB9; have hB5 : Below w7.heap.size w7 w9 := hB8.trans (hB89.mono hB8.size)))
          go_wp2
          go_roundw
          case rel => exact ⟨k + 1, ys ++ [gr], by omega, by go_num, by simp; omega, by unfold Hid; rw [HGR.out, HGR0.out], by simpa using hO8.below hB89 (Nat.le_refl _), hB5⟩
          case measure => simp [intOf]; omega
        · obtain rfl : k = pl.st.length := by omega
          have hye : ys = grs pl := by rw [HY.out, ← grs_len pl, List.take_length]
          have hI := (hO.rd.mono (Nat.zero_le _))
          have HPb := HPq.out _ (HB7.out.trans (hB.mono HB7.out.size))
          obtain ⟨q0, q1⟩ := HKq.out _ (HB7.out.trans (hB.mono HB7.out.size))
          have hsb : sgB q (grs pl) = true := by
            unfold sgB; rw [HQE.out, wgs_valid HV.out HOG.out]
            have h := okG_iff.1 (grs_ok HV.out)
            rw [Bool.true_and, okG_iff, wgs_len]; exact h
          have hsp : sgP q (grs pl) = pl := by unfold sgP; rw [if_pos hsb, HQE.out, wgs_wgs, wgs_grs]
          have hvq : validP q = true := by rw [HQE.out]; exact wgs_valid HV.out HOG.out
          obtain ⟨a9, c9, rfl, _, _⟩ := hI.form
          rw [hye] at hI
          rw [hql] at HPb
          go_wp2_with fail
          refine (impl_setGreens _ 0 0 _ _ q (grs pl) HPb hI).mono ?_; rintro e w10 ⟨v10, rfl, hP10, hB10⟩
          rw [hsp] at hP10
          rw [hsb]
          have hP10r := hP10.planR
          obtain ⟨vc, vs, rfl, hc1, hs1⟩ := hP10r
          obtain ⟨b10, d10, rfl, _, _⟩ := hc1.form
          obtain ⟨b11, d11, rfl, _, _⟩ := hs1.form
          have hB70 : Below w7.heap.size w7 w10 := hB.trans (hB10.mono hB.size)
          obtain ⟨y0, y1⟩ := HKp.out _ (HB27.out.trans (hB70.mono HB27.out.size))
          obtain ⟨x0, x1⟩ := HKq.out _ (HB7.out.trans (hB70.mono HB7.out.size))
          obtain ⟨w11, hw11, hB11, k0, k1, hz11⟩ := plan_box w10 (.slice b10 pl.cl.length d10) (.slice b11 pl.st.length d11)
          have hB711 : Below w7.heap.size w7 w11 := hB70.trans (hB11.mono hB70.size)
          have HB711 := Lib.hid hB711
          have hzz := hB70.size
          have hz7 := HB67.out.size
          have hz610 : w3.heap.size < w10.heap.size := by omega
          have hz110 : w1.heap.size < w10.heap.size := by omega
          have HPb11 : Hid (∀ W, Below w11.heap.size w11 W → PlanR W 0 (.agg #[.slice b10 pl.cl.length d10, .slice b11 pl.st.length d11]) pl) := fun W h => ((hP10.planR.below hB11 (Nat.le_refl _)).mono (Nat.zero_le _)).below h (Nat.le_refl _)
          have HW11 := Lib.hid hw11
          have HVQ := Lib.hid hvq
          clear hP10 hc1 hs1 hB10 hB70 hB11 k0 k1 hw11 hI HPb q0 q1 hvq hB711
          go_wp2_with fail
          rw [← HW11.out]
          refine (equalPlan_same _ _ _ pl (HPb11.out _ (Below.refl _ _)) (HP.out _ (HB27.out.trans (HB711.out.mono HB27.out.size)))).mono ?_; rintro e w12 ⟨rfl, hB12⟩
          have hB712 := HB711.out.trans (hB12.mono HB711.out.size)
          obtain ⟨q0, q1⟩ := HKq.out _ (HB7.out.trans (hB712.mono HB7.out.size))
          have hPq12 := HPq.out _ (HB7.out.trans (hB712.mono HB7.out.size))
          rw [hql] at hPq12
          clear x0 x1 y0 y1
          go_wp2_with fail
          refine (impl_validPlan _ 0 _ q hPq12).mono ?_; rintro e w13 ⟨rfl, hB13⟩
          rw [HVQ.out]
          have hT := HT7.out.trans ((hB712.trans (hB13.mono hB712.size)).mono HT7.out.size)
          go_wp2_with fail
          go_ret
          exact ⟨rfl, hT⟩
  · clear hv
    go_enter Try.func3, Try.ntmps3
    go_wp2
    go_ret
    exact ⟨rfl, Below.refl _ _⟩
end Go.Proofs.Ytokpgipbgkiepaa
