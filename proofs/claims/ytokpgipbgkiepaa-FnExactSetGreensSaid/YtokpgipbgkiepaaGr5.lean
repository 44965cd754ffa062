/- SetGreens: the reference's. -/
import Derived.Test.YtokpgipbgkiepaaGr4
namespace Go.Proofs.Ytokpgipbgkiepaa
open Go.RowKit
set_option linter.unusedVariables false
set_option linter.unusedSimpArgs false

def SetRetS (w : World) (p : Pln) (gs : List Int) (e : Ending) (w' : World) : Prop := ∃ v', e = .returned (.tuple #[v', .bool (sgB p gs)]) ∧ PlanR w' 0 v' (sgP p gs) ∧ Below w.heap.size w w'
theorem set_noS {w w' : World} {p : Pln} {gs : List Int} (h : sgB p gs = false) (hb : Below w.heap.size w w') : SetRetS w p gs (.returned (.tuple #[.agg #[.slice none 0 0, .slice none 0 0], .bool false])) w' :=
  ⟨_, by rw [h], by unfold sgP; rw [h, if_neg (by decide)]; exact (planO_zero _ 0).planR, hb⟩

set_option maxHeartbeats 8000000 in
set_option maxRecDepth 100000 in
theorem spec_setGreens (w : World) (lo lo' : Nat) (vp vg : Value) (p : Pln) (gs : List Int) (hp : PlanR w lo vp p) (hg : Ints w lo' vg gs) :
    Calls Try.prog 16 #[vp, vg] w (SetRetS w p gs) := by
  have hp0 := hp
  obtain ⟨vc, vs, rfl, hc, hs⟩ := hp
  obtain ⟨ao, cap, rfl, hcap, hm⟩ := hs.form
  obtain ⟨aoc, capc, rfl, hcapc, hmc⟩ := hc.form
  obtain ⟨ag, capg, rfl, hcapg, hmg⟩ := hg.form
  obtain ⟨w1, hw1, hB1, x0, x1, hz1⟩ := plan_box w (.slice aoc p.cl.length capc) (.slice ao p.st.length cap)
  have hs1 : w1.heap.size = w.heap.size + 1 := by rw [hw1]; simp
  have hX2 := Own.made w1 [.slice none 0 0, .slice none 0 0] 26 w.heap.size 2 1 rfl (by omega) (by decide)
  obtain ⟨w2, hw2⟩ : ∃ x, x = w1.alloc (.cells #[.slice none 0 0, .slice none 0 0] 26) := ⟨_, rfl⟩
  have hB2 : Below w1.heap.size w1 w2 := by rw [hw2]; exact (Below.refl _ _).alloc (Nat.le_refl _) _
  have hs2 : w2.heap.size = w.heap.size + 2 := by rw [hw2]; simp [hs1]
  rw [show (w1.alloc (Obj.cells [Value.slice none 0 0, Value.slice none 0 0].toArray 26)) = w2 from hw2.symm, hs1] at hX2
  have y0 := (hB2.cell (p := ⟨w.heap.size, 0, none⟩) hz1).trans x0
  have y1 := (hB2.cell (p := ⟨w.heap.size, 1, none⟩) hz1).trans x1
  have HK : Hid (∀ W, Below w2.heap.size w2 W → W.cell? ⟨w.heap.size, 0, none⟩ = some (.slice aoc p.cl.length capc) ∧ W.cell? ⟨w.heap.size, 1, none⟩ = some (.slice ao p.st.length cap)) := fun W h => ⟨(h.cell (p := ⟨w.heap.size, 0, none⟩) (by show w.heap.size < w2.heap.size; omega)).trans y0, (h.cell (p := ⟨w.heap.size, 1, none⟩) (by show w.heap.size < w2.heap.size; omega)).trans y1⟩
  have HT2 := Lib.hid (hB1.trans (hB2.mono hB1.size))
  have HP0 := Lib.hid hp0
  have HCL := Lib.hid hc
  have HG0 := Lib.hid hg
  have HX2 := Lib.hid hX2
  have HW1 := Lib.hid hw1
  have HW2 := Lib.hid hw2
  have HS2 := Lib.hid hs2
  have HRC : Hid (∀ W, Below w2.heap.size w2 W → W.cell? ⟨w.heap.size + 1, 0, none⟩ = some (.slice none 0 0) ∧ W.cell? ⟨w.heap.size + 1, 1, none⟩ = some (.slice none 0 0) ∧ W.frozen? ⟨w.heap.size + 1, 0, none⟩ = false ∧ W.frozen? ⟨w.heap.size + 1, 1, none⟩ = false) := fun W h => by
    obtain ⟨_, e1, _, _, p9, f9, _⟩ := (HX2.out.below h (Nat.le_refl _)).parts (by omega)
    cases e1
    have r0 := p9 0 (by simp)
    have r1 := p9 1 (by simp)
    simp only [List.getElem_cons_zero, List.getElem_cons_succ] at r0 r1
    exact ⟨r0, r1, f9 0, f9 1⟩
  have hdef : sgB p gs = (validP p && (decide (gs.length = p.st.length) && allB gs 5 40)) := rfl
  have HDEF := Lib.hid hdef
  -- what the stores into the result's cell leave
  have HNO : Hid (∀ W, Below w2.heap.size w2 W → sgB p gs = false → ∀ u1 u2 : Value, SetRetS w p gs (.returned (.tuple #[.agg #[.slice none 0 0, .slice none 0 0], .bool false])) ((W.setCell ⟨w.heap.size + 1, 0, none⟩ u1).setCell ⟨w.heap.size + 1, 1, none⟩ u2)) := fun W h hf u1 u2 =>
    set_noS hf (((HT2.out.trans (h.mono HT2.out.size)).setCell (p := ⟨w.heap.size + 1, 0, none⟩) (by show w.heap.size ≤ w.heap.size + 1; omega) u1).setCell (p := ⟨w.heap.size + 1, 1, none⟩) (by show w.heap.size ≤ w.heap.size + 1; omega) u2)
  clear hp0 hc hs hg hB1 hB2 hs1 hs2 hX2 hw1 hw2 x0 x1 y0 y1 hdef HX2
  cases hval : validP p
  · have HN : Hid (sgB p gs = false) := by unfold Hid; rw [HDEF.out, hval]; rfl
    go_enter Try.func16, Try.ntmps16
    go_wp2_with fail
    rw [← HW1.out, ← HW2.out]
    clear HW1 HW2
    refine (spec_validPlan _ lo _ p (HP0.out.below HT2.out (Nat.le_refl _))).mono ?_; rintro e w3 ⟨rfl, hB3⟩
    rw [hval]
    clear hval
    obtain ⟨u0, u1⟩ := HK.out _ hB3
    obtain ⟨r0, r1, fr0, fr1⟩ := HRC.out _ hB3
    have HEND := Lib.hid (HNO.out _ hB3)
    go_wp2_with fail
    exact bodyPost_ret (v := .tuple #[.agg #[.slice none 0 0, .slice none 0 0], .bool false]) (by simp [results, Try.results16, go_sem, r0, r1, fr0, fr1]) rfl (HEND.out HN.out _ _)
  · have HV := Lib.hid hval
    by_cases hlen : gs.length = p.st.length
    · have l1 : ((gs.length : Int) != (p.st.length : Int)) = false := by simp [hlen]
      have l2 : (gs.length != p.st.length) = false := by simp [hlen]
      have HLEN := Lib.hid hlen
      clear hlen
      cases hal : allB gs 5 40
      · have HAL := Lib.hid hal
        have HN : Hid (sgB p gs = false) := by unfold Hid; rw [HDEF.out, hal]; simp
        clear hal
        go_enter Try.func16, Try.ntmps16
        go_wp2_with fail
        rw [← HW1.out, ← HW2.out]
        clear HW1 HW2
        refine (spec_validPlan _ lo _ p (HP0.out.below HT2.out (Nat.le_refl _))).mono ?_; rintro e w3 ⟨rfl, hB3⟩
        rw [hval]
        clear hval
        obtain ⟨u0, u1⟩ := HK.out _ hB3
        obtain ⟨r0, r1, fr0, fr1⟩ := HRC.out _ hB3
        have HEND := Lib.hid (HNO.out _ hB3)
        have hI3 : Ints w3 lo' _ gs := Rd.below HG0.out (HT2.out.trans (hB3.mono HT2.out.size)) (Nat.le_refl _) (by decide)
        go_wp2_with (go_at_call 58; with_reducible refine (allIn_dec _ lo' _ gs 5 40 false hI3 HAL.out).mono ?_; rintro e' w9 ⟨rfl, rfl⟩)
        exact bodyPost_ret (v := .tuple #[.agg #[.slice none 0 0, .slice none 0 0], .bool false]) (by simp [results, Try.results16, go_sem, r0, r1, fr0, fr1]) rfl (HEND.out HN.out _ _)
      · have HAL := Lib.hid hal
        have HY : Hid (sgB p gs = true) := by unfold Hid; rw [HDEF.out, hal, hval, HLEN.out]; simp
        clear hal
        go_enter Try.func16, Try.ntmps16
        go_wp2_with fail
        rw [← HW1.out, ← HW2.out]
        clear HW1 HW2
        refine (spec_validPlan _ lo _ p (HP0.out.below HT2.out (Nat.le_refl _))).mono ?_; rintro e w3 ⟨rfl, hB3⟩
        rw [hval]
        clear hval
        obtain ⟨u0, u1⟩ := HK.out _ hB3
        obtain ⟨r0, r1, fr0, fr1⟩ := HRC.out _ hB3
        have HEND := Lib.hid (HNO.out _ hB3)
        have hI3 : Ints w3 lo' _ gs := Rd.below HG0.out (HT2.out.trans (hB3.mono HT2.out.size)) (Nat.le_refl _) (by decide)
        have hT3 := HT2.out.trans (hB3.mono HT2.out.size)
        go_wp2_with (go_at_call 58; with_reducible refine (allIn_dec _ lo' _ gs 5 40 true hI3 HAL.out).mono ?_; rintro e' w9 ⟨rfl, rfl⟩)
        obtain ⟨hvc, h1, h5, _⟩ := validP_iff.1 HV.out
        obtain ⟨hn1, hn8, hrow, _⟩ := validCl_iff.1 hvc
        have HROW : Hid (∀ j, j < p.cl.length → (p.cl.getD j []).length ≤ 8) := fun j hj => by rw [(rowOk_iff.1 (hrow j hj)).1]; exact hn8
        clear hvc hrow hI3 hT3 r0 r1 fr0 fr1 HEND HNO
        obtain ⟨w4, hw4⟩ : ∃ x, x = w3.alloc (.cells #[] 27) := ⟨_, rfl⟩
        have hB4 : Below w3.heap.size w3 w4 := by rw [hw4]; exact (Below.refl _ _).alloc (Nat.le_refl _) _
        have HB34 := Lib.hid (hB3.trans (hB4.mono hB3.size))
        have hz3 : w.heap.size + 2 ≤ w3.heap.size := by have := hB3.size; rw [HS2.out] at this; exact this
        try rw [← hw4]
        clear hw4 hB4 hB3 u0 u1
        go_wp2_with fail
        go_loopw [6, 7] (fun sv i wo => ∃ j : Nat, ∃ hs, j ≤ p.cl.length ∧ i = .int .i64 j ∧ Own wo (w.heap.size + 2) 27 1 sv j hs ∧ RowsO wo (w.heap.size + 2) hs p.cl j ∧ (∀ q, q < j → Apart sv (hs.getD q .nilFunc)) ∧ Below w2.heap.size w2 wo) (fun _ i _ => p.cl.length - (intOf i).toNat)
        case atStart => exact ⟨0, [], Nat.zero_le _, rfl, .inr ⟨rfl, rfl, _, rfl⟩, RowsO.nil _ _ _, fun j hj => absurd hj (Nat.not_lt_zero _), HB34.out⟩
        case round =>
          obtain ⟨j, hs, hj, rfl, hO1, hR1, hA1, hB⟩ := hrel
          have hT := HT2.out.trans (hB.mono HT2.out.size)
          obtain ⟨u0, u1⟩ := HK.out _ hB
          have hsz : w.heap.size + 2 ≤ wr.heap.size := by have := hB.size; rw [HS2.out] at this; exact this
          by_cases hlt : j < p.cl.length
          · obtain ⟨bc, offc, rfl, _, hbc, hxc⟩ := HCL.out.spot (by omega)
            obtain ⟨ai, ci, g0, hIj⟩ := hxc j hlt
            have c0 := (hT.cell (p := ⟨bc, offc + j, none⟩) hbc).trans g0
            have hr8 := HROW.out j hlt
            obtain ⟨row, hrw⟩ : ∃ row, row = p.cl.getD j [] := ⟨_, rfl⟩
            rw [← hrw] at c0 hIj hr8
            have HRW := Lib.hid hrw
            have HI := Lib.hid ((Rd.below hIj hT (Nat.le_refl _) (by decide) : Ints wr lo _ row).mono (Nat.zero_le _))
            have HO1 := Lib.hid hO1
            have HR1 := Lib.hid hR1
            have HA1 := Lib.hid hA1
            have HB := Lib.hid hB
            clear g0 hIj hrw hxc hO1 hR1 hA1 hB hT
            go_wp2_with fail
            go_at_call 59
            refine (copyInts_any _ _ row HI.out (by omega)).mono ?_; rintro e w5 ⟨v5, rfl, hO5, hB5⟩
            obtain ⟨a5, c5, rfl, _, _⟩ := hO5.form
            have hO5w := HO1.out.below hB5 (Nat.le_refl _)
            have hz5 : w.heap.size + 2 ≤ w5.heap.size := Nat.le_trans hsz hB5.size
            go_wp2_with (at_builtin; refine wpList_append_one _ rfl _ _ 23 rfl 27 (.slice none 0 0) 24 Try.underlying23 info_intsl rfl (w.heap.size + 2) _ _ _ rfl hO5w _ _ rfl rfl (by omega) (by omega) hz5 ?_; intro v' w6 hO6 hg6 hk6)
            have hA := ss_app (u := .slice a5 row.length c5) HO1.out HR1.out HA1.out hB5 (by rw [← HRW.out]; exact hO5) hsz hg6 hk6
            have hB6 : Below w2.heap.size w2 w6 := (HB.out.trans (hB5.mono HB.out.size)).trans (below_of_grownBy hg6 (by have := HB.out.size; have := hB5.size; omega) (fun k hk => by have := (hO5w.wblk hk).1; have := HS2.out; omega))
            have HA := Lib.hid hA
            clear hA hg6 hk6 hO5w hO5 hB5
            go_roundw
            case rel => exact ⟨j + 1, _, by omega, by go_num, hO6, HA.out.1, HA.out.2, hB6⟩
            case measure => simp [intOf]; omega
          · obtain rfl : j = p.cl.length := by omega
            obtain ⟨av, cv, rfl, _, _⟩ := hO1.form
            have HSS : Hid (OwnSS wr (w.heap.size + 2) (.slice av p.cl.length cv) p.cl) := ⟨hs, hO1, hR1, hA1⟩
            clear hO1 hR1 hA1
            have hIr : Ints wr lo' _ gs := Rd.below HG0.out hT (Nat.le_refl _) (by decide)
            have hPr : PlanR wr lo (.agg #[.slice aoc p.cl.length capc, .slice ao p.st.length cap]) p := HP0.out.below hT (Nat.le_refl _)
            go_wp2_with fail
            refine (spec_withGreens _ lo lo' _ _ _ p gs hPr hIr HV.out HLEN.out).mono ?_; rintro e w5 ⟨vs5, rfl, hO5, hB5⟩
            obtain ⟨a6, c6, rfl, _, _⟩ := hO5.stg.form
            have hT5 := HT2.out.trans ((hB.trans (hB5.mono hB.size)).mono HT2.out.size)
            obtain ⟨q0, q1, fq0, fq1⟩ := HRC.out _ (hB.trans (hB5.mono hB.size))
            have hzq : w.heap.size + 1 < w5.heap.size := by have h1 := hB.size; have h2 := hB5.size; have h3 := HS2.out; omega
            have HAL : Hid (∀ u1 u2 : Value, ∀ o, Below ((w5.setCell ⟨w.heap.size + 1, 0, none⟩ u1).setCell ⟨w.heap.size + 1, 1, none⟩ u2).heap.size ((w5.setCell ⟨w.heap.size + 1, 0, none⟩ u1).setCell ⟨w.heap.size + 1, 1, none⟩ u2) (((w5.setCell ⟨w.heap.size + 1, 0, none⟩ u1).setCell ⟨w.heap.size + 1, 1, none⟩ u2).alloc o)) := fun u1 u2 o => (Below.refl _ _).alloc (Nat.le_refl _) _
            have HF : Hid (∀ (u1 u2 : Value) (o : Obj), SetRetS w p gs (.returned (.tuple #[.agg #[.slice av p.cl.length cv, .slice a6 (wgs p gs).st.length c6], .bool true])) (((w5.setCell ⟨w.heap.size + 1, 0, none⟩ u1).setCell ⟨w.heap.size + 1, 1, none⟩ u2).alloc o)) := by
              intro u1 u2 o
              have one : ∀ (W : World) (o : Nat) (u : Value), (IntSS W (w.heap.size + 2) (.slice av p.cl.length cv) p.cl ∧ StgS W (w.heap.size + 2) (.slice a6 (wgs p gs).st.length c6) (wgs p gs).st ∧ Below w.heap.size w W) → (IntSS (W.setCell ⟨w.heap.size + 1, o, none⟩ u) (w.heap.size + 2) (.slice av p.cl.length cv) p.cl ∧ StgS (W.setCell ⟨w.heap.size + 1, o, none⟩ u) (w.heap.size + 2) (.slice a6 (wgs p gs).st.length c6) (wgs p gs).st ∧ Below w.heap.size w (W.setCell ⟨w.heap.size + 1, o, none⟩ u)) := by
                intro W o u ⟨a, a2, c⟩
                have hg : W.grownBy (W.setCell ⟨w.heap.size + 1, o, none⟩ u) (some (w.heap.size + 1)) := cell_grown (b' := w.heap.size + 1) u o
                exact ⟨a.grown hg (fun q hq => by cases hq; omega), a2.grown hg (fun q hq => by cases hq; omega), c.setCell (by show w.heap.size ≤ w.heap.size + 1; omega) u⟩
              have h2 := one _ 1 u2 (one _ 0 u1 ⟨HSS.out.ss.below hB5 (Nat.le_refl _), hO5.stg.mono hsz, hT5⟩)
              have hA := HAL.out u1 u2 o
              exact ⟨_, by rw [HY.out], by unfold sgP; rw [HY.out, if_pos rfl]; exact ⟨_, _, rfl, (h2.1.below hA (Nat.le_refl _)).mono (Nat.zero_le _), (h2.2.1.below hA (Nat.le_refl _)).mono (Nat.zero_le _)⟩, h2.2.2.trans (hA.mono h2.2.2.size)⟩
            have HR5 : Hid (∀ (u1 u2 : Value) (o : Obj), (((w5.setCell ⟨w.heap.size + 1, 0, none⟩ u1).setCell ⟨w.heap.size + 1, 1, none⟩ u2).alloc o).cell? ⟨w.heap.size + 1, 0, none⟩ = some u1 ∧ (((w5.setCell ⟨w.heap.size + 1, 0, none⟩ u1).setCell ⟨w.heap.size + 1, 1, none⟩ u2).alloc o).cell? ⟨w.heap.size + 1, 1, none⟩ = some u2) := fun u1 u2 o =>
              ⟨((HAL.out u1 u2 o).cell (p := ⟨w.heap.size + 1, 0, none⟩) (by simp; omega)).trans (by simp [go_sem, q0, q1]), ((HAL.out u1 u2 o).cell (p := ⟨w.heap.size + 1, 1, none⟩) (by simp; omega)).trans (by simp [go_sem, q0, q1])⟩
            clear hO5 hB5 hB hIr hPr u0 u1 hT hT5
            go_wp2_with fail
            have hR6 := HR5.out (.slice av p.cl.length cv) (.slice a6 (wgs p gs).st.length c6) (.cells #[.slice aoc p.cl.length capc, .slice a6 (wgs p gs).st.length c6] 26)
            exact bodyPost_ret (v := .tuple #[.agg #[.slice av p.cl.length cv, .slice a6 (wgs p gs).st.length c6], .bool true]) (by simp [results, Try.results16, go_sem, hR6.1, hR6.2]) rfl (HF.out _ _ _)
    · have l1 : ((gs.length : Int) != (p.st.length : Int)) = true := by simp; omega
      have l2 : (gs.length != p.st.length) = true := by simpa using hlen
      have HN : Hid (sgB p gs = false) := by unfold Hid; rw [HDEF.out, decide_eq_false hlen]; simp
      clear hlen
      go_enter Try.func16, Try.ntmps16
      go_wp2_with fail
      rw [← HW1.out, ← HW2.out]
      clear HW1 HW2
      refine (spec_validPlan _ lo _ p (HP0.out.below HT2.out (Nat.le_refl _))).mono ?_; rintro e w3 ⟨rfl, hB3⟩
      rw [hval]
      clear hval
      obtain ⟨u0, u1⟩ := HK.out _ hB3
      obtain ⟨r0, r1, fr0, fr1⟩ := HRC.out _ hB3
      have HEND := Lib.hid (HNO.out _ hB3)
      go_wp2_with fail
      exact bodyPost_ret (v := .tuple #[.agg #[.slice none 0 0, .slice none 0 0], .bool false]) (by simp [results, Try.results16, go_sem, r0, r1, fr0, fr1]) rfl (HEND.out HN.out _ _)
end Go.Proofs.Ytokpgipbgkiepaa

