/- FnSwitchHistoryEnd: the walk. -/
import Derived.Test.YtokpgipbgkiepaaSwL5
import Derived.Deep.QuietTactic
import Derived.BigQuiet
namespace Go.Proofs.Ytokpgipbgkiepaa
open Go.RowKit
set_option linter.unusedVariables false
set_option linter.unusedSimpArgs false

set_option maxHeartbeats 16000000 in
theorem fnSwitchHistoryEnd_walk (w : World) (v : Value) (bs : List UInt8) (hv : Bytes w 0 v bs) :
    Calls Try.prog 11 #[v] w fun e w' => e = .returned (.bool true) ∧ Below w.heap.size w w' := by
  obtain ⟨ao, cap, rfl, hcap, hm⟩ := hv.form
  by_cases hlen : bs.length ≤ 1048576
  case neg =>
    go_enter Try.func11, Try.ntmps11
    go_wp2
    go_ret
    exact ⟨rfl, Below.refl _ _⟩
  have T_w := Lib.hid (Below.refl w.heap.size w)
  go_enter Try.func11, Try.ntmps11
  go_wp2_with fail
  go_at_call 42
  refine (drawSwitchHistory _ _ bs hv).mono ?_; rintro e w1 ⟨va, vb, a, b, f, first, count, rfl, hPa, hPb, hB⟩
  replace T_w := Lib.hid (T_w.out.trans (hB.mono T_w.out.size))
  clear hB hv
  obtain ⟨aca, cca, asa, csa, rfl, _, _⟩ := hPa.aggs
  obtain ⟨acb, ccb, asb, csb, rfl, _, _⟩ := hPb.aggs
  obtain ⟨w2, hw, hB, hzab, K2⟩ := two_box w1 (.slice aca a.cl.length cca) (.slice asa a.st.length csa) (.slice acb b.cl.length ccb) (.slice asb b.st.length csb) 26
  have Ka : Hid (∀ W, Below w2.heap.size w2 W → W.cell? ⟨w1.heap.size, 0, none⟩ = some (.slice aca a.cl.length cca) ∧ W.cell? ⟨w1.heap.size, 1, none⟩ = some (.slice asa a.st.length csa)) := fun W h => (K2 W h).1
  have KPa : Hid (∀ W, Below w2.heap.size w2 W → PlanR W 0 (.agg #[.slice aca a.cl.length cca, .slice asa a.st.length csa]) a) := fun W h => ((hPa.below hB (Nat.le_refl _)).mono (Nat.zero_le _)).below h (Nat.le_refl _)
  have Kb : Hid (∀ W, Below w2.heap.size w2 W → W.cell? ⟨w1.heap.size + 1, 0, none⟩ = some (.slice acb b.cl.length ccb) ∧ W.cell? ⟨w1.heap.size + 1, 1, none⟩ = some (.slice asb b.st.length csb)) := fun W h => (K2 W h).2
  have KPb : Hid (∀ W, Below w2.heap.size w2 W → PlanR W 0 (.agg #[.slice acb b.cl.length ccb, .slice asb b.st.length csb]) b) := fun W h => ((hPb.below hB (Nat.le_refl _)).mono (Nat.zero_le _)).below h (Nat.le_refl _)
  have HWab := Lib.hid hw
  replace T_w := Lib.hid (T_w.out.trans (hB.mono T_w.out.size))
  clear hw hB K2 hPa hPb
  have T_w2 := Lib.hid (Below.refl w2.heap.size w2)
  obtain ⟨H, hH⟩ : ∃ x, x = shO a b f first count := ⟨_, rfl⟩
  have HHS := Lib.hid hH
  clear hH
  go_wp2_with fail
  rw [← HWab.out]
  clear HWab
  refine (impl_SwitchHistory _ 0 0 _ _ a b f first count (KPa.out _ T_w2.out) (KPb.out _ T_w2.out)).mono ?_; rintro e w3 ⟨v1, rfl, hO, hB⟩
  replace T_w := Lib.hid (T_w.out.trans (hB.mono T_w.out.size))
  replace T_w2 := Lib.hid (T_w2.out.trans (hB.mono T_w2.out.size))
  clear hB
  rw [← HHS.out] at hO
  have Kv1 : Hid (∀ W, Below w3.heap.size w3 W → IntSS W 0 v1 H) := fun W h => (hO.ss.below h (Nat.le_refl _)).mono (Nat.zero_le _)
  obtain ⟨av1, cv1, rfl, _, _⟩ := hO.ss.form
  clear hO
  have T_w3 := Lib.hid (Below.refl w3.heap.size w3)
  obtain ⟨ua0, ua1⟩ := Ka.out _ T_w2.out
  obtain ⟨ub0, ub1⟩ := Kb.out _ T_w2.out
  go_wp2_with fail
  refine (spec_SwitchHistory _ 0 0 _ _ a b f first count (KPa.out _ T_w2.out) (KPb.out _ T_w2.out)).mono ?_; rintro e w4 ⟨v2, rfl, hO, hB⟩
  clear ua0 ua1 ub0 ub1
  replace T_w := Lib.hid (T_w.out.trans (hB.mono T_w.out.size))
  replace T_w2 := Lib.hid (T_w2.out.trans (hB.mono T_w2.out.size))
  replace T_w3 := Lib.hid (T_w3.out.trans (hB.mono T_w3.out.size))
  clear hB
  rw [← HHS.out] at hO
  have Kv2 : Hid (∀ W, Below w4.heap.size w4 W → IntSS W 0 v2 H) := fun W h => (hO.ss.below h (Nat.le_refl _)).mono (Nat.zero_le _)
  obtain ⟨av2, cv2, rfl, _, _⟩ := hO.ss.form
  clear hO
  have T_w4 := Lib.hid (Below.refl w4.heap.size w4)
  go_wp2_with fail
  refine (equalLists_same _ _ _ H (Kv1.out _ T_w3.out) (Kv2.out _ T_w4.out)).mono ?_; rintro e w5 ⟨rfl, hB⟩
  replace T_w := Lib.hid (T_w.out.trans (hB.mono T_w.out.size))
  replace T_w2 := Lib.hid (T_w2.out.trans (hB.mono T_w2.out.size))
  replace T_w3 := Lib.hid (T_w3.out.trans (hB.mono T_w3.out.size))
  replace T_w4 := Lib.hid (T_w4.out.trans (hB.mono T_w4.out.size))
  clear hB
  by_cases hz : H.length = 0
  · have hz1 : ((H.length : Int) == 0) = true := by rw [hz]; rfl
    clear hz
    obtain ⟨ua0, ua1⟩ := Ka.out _ T_w2.out
    obtain ⟨ub0, ub1⟩ := Kb.out _ T_w2.out
    go_wp2_with fail
    refine (spec_SwitchHistory _ 0 0 _ _ a b f first count (KPa.out _ T_w2.out) (KPb.out _ T_w2.out)).mono ?_; rintro e w6 ⟨v3, rfl, hO, hB⟩
    clear ua0 ua1 ub0 ub1
    replace T_w := Lib.hid (T_w.out.trans (hB.mono T_w.out.size))
    replace T_w2 := Lib.hid (T_w2.out.trans (hB.mono T_w2.out.size))
    replace T_w3 := Lib.hid (T_w3.out.trans (hB.mono T_w3.out.size))
    replace T_w4 := Lib.hid (T_w4.out.trans (hB.mono T_w4.out.size))
    clear hB hz1
    rw [← HHS.out] at hO
    have Kv3 : Hid (∀ W, Below w6.heap.size w6 W → IntSS W 0 v3 H) := fun W h => (hO.ss.below h (Nat.le_refl _)).mono (Nat.zero_le _)
    obtain ⟨av3, cv3, rfl, _, _⟩ := hO.ss.form
    clear hO
    have T_w6 := Lib.hid (Below.refl w6.heap.size w6)
    go_wp2_with fail
    refine (equalLists_same _ _ _ H (Kv1.out _ T_w3.out) (Kv3.out _ T_w6.out)).mono ?_; rintro e w7 ⟨rfl, hB⟩
    replace T_w := Lib.hid (T_w.out.trans (hB.mono T_w.out.size))
    replace T_w2 := Lib.hid (T_w2.out.trans (hB.mono T_w2.out.size))
    replace T_w3 := Lib.hid (T_w3.out.trans (hB.mono T_w3.out.size))
    replace T_w4 := Lib.hid (T_w4.out.trans (hB.mono T_w4.out.size))
    replace T_w6 := Lib.hid (T_w6.out.trans (hB.mono T_w6.out.size))
    clear hB
    go_wp2_with fail
    go_ret
    exact ⟨rfl, T_w.out⟩
  have hz1 : ((H.length : Int) == 0) = false := beq_eq_false_iff_ne.mpr (by omega)
  obtain ⟨N, T, hF⟩ := sh_facts HHS.out (by omega)
  have HF := Lib.hid hF
  have hN1 := hF.n1
  have hN2 := hF.n2
  have hT0 := hF.T0
  have hT1 := hF.T1
  have hf0 := hF.f0
  have hf1 := hF.f1
  have HLN := Lib.hid hF.len
  have HCN := Lib.hid hF.hN
  clear hF hz
  have hva := (sameC_iff.1 HF.out.hab).1
  have hvb := (sameC_iff.1 HF.out.hab).2.1
  have hcl := (sameC_iff.1 HF.out.hab).2.2
  obtain ⟨_, _, e, _, hsa⟩ := KPa.out _ (Below.refl _ _)
  cases e
  obtain ⟨_, _, e, _, hsb⟩ := KPb.out _ (Below.refl _ _)
  cases e
  obtain ⟨ba, oa, ai, ci, rfl, hba, xa, hIa⟩ := hsa.first (ph_st hva)
  obtain ⟨bb, ob, bi, di, rfl, hbb, xb, hIb⟩ := hsb.first (ph_st hvb)
  have hla := ph_st hva
  have hlb := ph_st hvb
  have hfa := stOk_fits hva hla
  have hfb := stOk_fits hvb hlb
  rw [← hcl] at hfb
  have hbr := br_bd hva hvb hcl
  obtain ⟨pa, hpa⟩ : ∃ x, x = (a.st.getD 0 s0).ph := ⟨_, rfl⟩
  obtain ⟨pb, hpb⟩ : ∃ x, x = (b.st.getD 0 s0).ph := ⟨_, rfl⟩
  obtain ⟨r, hr⟩ : ∃ x, x = br a b := ⟨_, rfl⟩
  have hchg : change a.cl pa pb = r := by rw [hr, hpa, hpb]; rfl
  rw [← hpa] at xa hIa
  rw [← hpb] at xb hIb
  rw [← hr] at hbr
  have hfa2 : fitsB a.cl pa = true := by rw [hpa]; exact hfa
  have hfb2 : fitsB a.cl pb = true := by rw [hpb]; exact hfb
  have HFA := Lib.hid hfa2
  have HFB := Lib.hid hfb2
  have HCH := Lib.hid hchg
  have HBR := Lib.hid hr
  have HVC := Lib.hid (validP_iff.1 hva).1
  have HST := Lib.hid HF.out.hT2
  have wt1 : IntKind.i64.wrap (T + 5) = T + 5 := IntWalk.i64_in _ (by omega)
  have wt2 : IntKind.i64.wrap (T + 5 + r) = T + 5 + r := IntWalk.i64_in _ (by omega)
  have HXA := Lib.hid xa
  have HXB := Lib.hid xb
  have HIA := Lib.hid hIa
  have HIB := Lib.hid hIb
  clear hva hvb hcl hsa hsb hfa hfb hfa2 hfb2 hchg hpa hpb hr xa xb hIa hIb
  have KC : Hid (∀ W, Below w5.heap.size w5 W → ((W.cell? ⟨w1.heap.size, 0, none⟩ = some (.slice aca a.cl.length cca) ∧ W.cell? ⟨w1.heap.size, 1, none⟩ = some (.slice (some ⟨ba, oa, none⟩) a.st.length csa)) ∧ (W.cell? ⟨w1.heap.size + 1, 0, none⟩ = some (.slice acb b.cl.length ccb) ∧ W.cell? ⟨w1.heap.size + 1, 1, none⟩ = some (.slice (some ⟨bb, ob, none⟩) b.st.length csb))) ∧ W.cell? ⟨ba, oa, none⟩ = some (.slice ai pa.length ci) ∧ W.cell? ⟨bb, ob, none⟩ = some (.slice bi pb.length di)) := fun W h => by
    have hT := T_w2.out.trans (h.mono T_w2.out.size)
    exact ⟨⟨Ka.out _ hT, Kb.out _ hT⟩, (hT.cell (p := ⟨ba, oa, none⟩) hba).trans HXA.out, (hT.cell (p := ⟨bb, ob, none⟩) hbb).trans HXB.out⟩
  have HCa : Hid (∀ W, Below w2.heap.size w2 W → IntSS W 0 (.slice aca a.cl.length cca) a.cl) := fun W h => by obtain ⟨_, _, e, h1, _⟩ := KPa.out W h; cases e; exact h1
  obtain ⟨⟨⟨u0, u1⟩, u2, u3⟩, u4, u5⟩ := KC.out _ (Below.refl _ _)
  go_wp2_with fail
  go_region_held3 (fun W => ((W.cell? ⟨w1.heap.size, 0, none⟩ = some (.slice aca a.cl.length cca) ∧ W.cell? ⟨w1.heap.size, 1, none⟩ = some (.slice (some ⟨ba, oa, none⟩) a.st.length csa)) ∧ (W.cell? ⟨w1.heap.size + 1, 0, none⟩ = some (.slice acb b.cl.length ccb) ∧ W.cell? ⟨w1.heap.size + 1, 1, none⟩ = some (.slice (some ⟨bb, ob, none⟩) b.st.length csb))) ∧ W.cell? ⟨ba, oa, none⟩ = some (.slice ai pa.length ci) ∧ W.cell? ⟨bb, ob, none⟩ = some (.slice bi pb.length di))
    (first | exact KC.out _ hBy1 | exact KC.out _ hBy0 | exact KC.out _ (Below.refl _ _) | exact KC.out _ (Below.drew (Below.refl w5.heap.size w5)) | go_keep | assumption)
    ((first
      | (go_at_call 40; refine (impl_switchTime _ 0 _ a f (KPa.out _ (T_w2.out.trans ((Below.drew (Below.refl w5.heap.size w5)).mono T_w2.out.size)))).mono ?_; rintro e wx ⟨rfl, hBx⟩; rw [HST.out]; have hBy0 : Below w5.heap.size w5 wx := (Below.drew (Below.refl w5.heap.size w5)).trans hBx)
      | (go_at_call 46; refine (impl_changeTime _ 0 0 0 _ _ _ a.cl pa pb (HCa.out _ (T_w2.out.trans (hBy0.mono T_w2.out.size))) HVC.out (Rd.below HIA.out (T_w2.out.trans (hBy0.mono T_w2.out.size)) (Nat.le_refl _) (by decide)) (Rd.below HIB.out (T_w2.out.trans (hBy0.mono T_w2.out.size)) (Nat.le_refl _) (by decide)) HFA.out HFB.out).mono ?_; rintro e wy ⟨rfl, hBx1⟩; rw [HCH.out]; have hBy1 : Below w5.heap.size w5 wy := hBy0.trans (hBx1.mono hBy0.size))))
  have hB := hBy1
  replace T_w := Lib.hid (T_w.out.trans (hB.mono T_w.out.size))
  replace T_w2 := Lib.hid (T_w2.out.trans (hB.mono T_w2.out.size))
  replace T_w3 := Lib.hid (T_w3.out.trans (hB.mono T_w3.out.size))
  replace T_w4 := Lib.hid (T_w4.out.trans (hB.mono T_w4.out.size))
  clear KC hB hBy0 hBy1 hBx hBx1 u0 u1 u2 u3 u4 u5 wt1 wt2
  have KO : Hid (∀ W, Below wy.heap.size wy W → Below w2.heap.size w2 W ∧ Below w3.heap.size w3 W) := fun W h => ⟨T_w2.out.trans (h.mono T_w2.out.size), T_w3.out.trans (h.mono T_w3.out.size)⟩
  have TW := T_w
  go_wp2_with fail
  go_loopw [10] (fun iv W => ∃ i : Nat, i ≤ H.length ∧ iv = .int .i64 i ∧ Hid (Below wy.heap.size wy W)) (fun iv _ => H.length - (intOf iv).toNat)
  case atStart => exact ⟨0, Nat.zero_le _, rfl, Below.refl _ _⟩
  case round =>
    obtain ⟨i, hi, rfl, HB⟩ := hrel
    obtain ⟨o1, o2⟩ := KO.out _ HB.out
    have hln := HLN.out
    by_cases hlt : i < H.length
    · have wf : IntKind.i64.wrap (first + (i : Int)) = first + (i : Int) := IntWalk.i64_in _ (by omega)
      by_cases hge : T + 5 + r ≤ first + (i : Int)
      · obtain ⟨lb, lo, rfl, _, hlb, hrow⟩ := (Kv1.out _ o2).spot (by omega)
        obtain ⟨ra, rc, p1, hI⟩ := hrow i hlt
        obtain ⟨row, hr⟩ : ∃ r, r = H.getD i [] := ⟨_, rfl⟩
        rw [← hr] at p1 hI
        have HI := Lib.hid hI
        have HONE : Hid (grnO b (first + (i : Int) - (T + 5 + r)) = row) := by unfold Hid; rw [hr, HBR.out]; exact HF.out.later (by omega) (by rw [← HBR.out]; exact hge)
        have KA : Hid (∀ W, Below wr.heap.size wr W → (W.cell? ⟨w1.heap.size + 1, 0, none⟩ = some (.slice acb b.cl.length ccb) ∧ W.cell? ⟨w1.heap.size + 1, 1, none⟩ = some (.slice (some ⟨bb, ob, none⟩) b.st.length csb)) ∧ W.cell? ⟨lb, lo + i, none⟩ = some (.slice ra row.length rc)) := fun W h => ⟨Kb.out _ (o1.trans (h.mono o1.size)), (h.cell (p := ⟨lb, lo + i, none⟩) hlb).trans p1⟩
        have HPB := Lib.hid (KPb.out _ o1)
        have wd : IntKind.i64.wrap (first + (i : Int) - (T + 5 + r)) = first + (i : Int) - (T + 5 + r) := IntWalk.i64_in _ (by omega)
        have d1 : decide (T + 5 + r ≤ first + (i : Int)) = true := decide_eq_true hge
        have i0 : (0 : Int) ≤ (i : Int) := by omega
        have i1 : (i : Int) < (H.length : Int) := by omega
        clear hrow hI hr o1 o2 p1 hln hge
        obtain ⟨⟨u0, u1⟩, u4⟩ := KA.out _ (Below.refl _ _)
        go_wp2_with fail
        go_region_held3 (fun W => (W.cell? ⟨w1.heap.size + 1, 0, none⟩ = some (.slice acb b.cl.length ccb) ∧ W.cell? ⟨w1.heap.size + 1, 1, none⟩ = some (.slice (some ⟨bb, ob, none⟩) b.st.length csb)) ∧ W.cell? ⟨lb, lo + i, none⟩ = some (.slice ra row.length rc))
          (first | exact KA.out _ hBy1 | exact KA.out _ hBy0 | exact KA.out _ (Below.refl _ _) | exact KA.out _ (Below.drew (Below.refl wr.heap.size wr)) | go_keep | assumption)
          ((first
            | (go_at_call 41; refine (impl_greenAt _ 0 _ b (first + (i : Int) - (T + 5 + r)) (HPB.out.below (Below.drew (Below.refl wr.heap.size wr)) (Nat.le_refl _))).mono ?_; rintro e wx ⟨vx, rfl, hOx, hBx⟩; rw [HONE.out] at hOx; obtain ⟨ax, cx, rfl, _, _⟩ := hOx.form; have hBy0 : Below wr.heap.size wr wx := (Below.drew (Below.refl wr.heap.size wr)).trans hBx)
            | (go_at_call 18; refine (equalInts_same _ _ _ row (hOx.rd.mono (Nat.zero_le _)) (Rd.below HI.out hBy0 (Nat.le_refl _) (by decide))).mono ?_; rintro e wz ⟨rfl, hBx2⟩; have hBy1 : Below wr.heap.size wr wz := hBy0.trans (hBx2.mono hBy0.size))))
        have HB9 := Lib.hid (HB.out.trans (hBy1.mono HB.out.size))
        clear hBy0 hBy1 hBx hBx2 hOx u0 u1 u4
        go_wp2
        go_roundw
        case rel => exact ⟨i + 1, by omega, by go_num, HB9⟩
        case measure => simp [intOf]; omega
      · have d1 : decide (T + 5 + r ≤ first + (i : Int)) = false := decide_eq_false hge
        clear o1 o2 hln hge
        go_wp2_with fail
        go_quiet (fail)
        go_wp2
        go_roundw
        case rel => exact ⟨i + 1, by omega, by go_num, below_drewN HB.out _⟩
        case measure => simp [intOf]; omega
    · obtain rfl : i = H.length := by omega
      clear hln o1 o2
      go_wp2
      go_ret
      exact ⟨rfl, TW.out.trans (HB.out.mono TW.out.size)⟩
end Go.Proofs.Ytokpgipbgkiepaa
