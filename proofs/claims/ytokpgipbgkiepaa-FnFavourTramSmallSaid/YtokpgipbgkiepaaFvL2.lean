/- FnFavourTram: the walk. -/
import Derived.Test.YtokpgipbgkiepaaFvL1
import Derived.Test.YtokpgipbgkiepaaDrT2
import Derived.Test.YtokpgipbgkiepaaEqP
import Derived.Test.YtokpgipbgkiepaaGr4
namespace Go.Proofs.Ytokpgipbgkiepaa
open Go.RowKit
set_option linter.unusedVariables false
set_option linter.unusedSimpArgs false

theorem drawFavourTram (w : World) (v : Value) (bs : List UInt8) (hv : Bytes w 0 v bs) :
    Calls Try.prog 28 #[v] w (DrawTr w) := by
  obtain ⟨w0, hw0⟩ : ∃ x, x = w.alloc (.cells #[.slice none 0 0, .slice none 0 0] 26) := ⟨_, rfl⟩
  have hX0 := Own.made w [.slice none 0 0, .slice none 0 0] 26 w.heap.size 2 1 rfl (Nat.le_refl _) (by decide)
  have hB0 : Below w.heap.size w w0 := by rw [hw0]; exact (Below.refl _ _).alloc (Nat.le_refl _) _
  rw [show (w.alloc (Obj.cells [Value.slice none 0 0, Value.slice none 0 0].toArray 26)) = w0 from hw0.symm] at hX0
  have HX0 := Lib.hid hX0
  have HW0 := Lib.hid hw0
  have HB0 := Lib.hid hB0
  have HV0 := Lib.hid (Rd.below hv hB0 (Nat.le_refl _) (by decide) : Bytes w0 0 v bs)
  have hs0 : w.heap.size < w0.heap.size := by rw [hw0]; simp
  obtain ⟨ao, cap, rfl, _, _⟩ := hv.form
  clear hX0 hw0 hB0 hv
  go_enter Try.func28, Try.ntmps28
  go_wp2_with fail
  rw [← HW0.out]
  clear HW0
  refine (drawTramWait w0 _ bs HV0.out).mono ?_; rintro e w1 ⟨v1, pl, st, s, rfl, hP, hD, hst, hs, hB1⟩
  obtain ⟨vc, vs, rfl, hc2, hs2⟩ := id hP
  obtain ⟨b4, d4, rfl, _, _⟩ := hc2.form
  obtain ⟨b5, d5, rfl, _, _⟩ := hs2.form
  obtain ⟨_, e1, _, z9, p9, f9, _⟩ := (HX0.out.below hB1 (Nat.le_refl _)).parts (by omega)
  cases e1
  have t0 := p9 0 (by simp)
  have t1 := p9 1 (by simp)
  have ft0 := f9 0
  have ft1 := f9 1
  simp only [List.getElem_cons_zero, List.getElem_cons_succ] at t0 t1
  have HF : Hid (∀ u1 u2 : Value, DrawTr w (.returned (.tuple #[.agg #[.slice b4 pl.cl.length d4, .slice b5 pl.st.length d5], .int .i64 st, .int .i64 s])) ((w1.setCell ⟨w.heap.size, 0, none⟩ u1).setCell ⟨w.heap.size, 1, none⟩ u2)) := by
    intro u1 u2
    have one : ∀ (W : World) (o : Nat) (u : Value), (PlanR W w0.heap.size (.agg #[.slice b4 pl.cl.length d4, .slice b5 pl.st.length d5]) pl ∧ Below w.heap.size w W) → (PlanR (W.setCell ⟨w.heap.size, o, none⟩ u) w0.heap.size (.agg #[.slice b4 pl.cl.length d4, .slice b5 pl.st.length d5]) pl ∧ Below w.heap.size w (W.setCell ⟨w.heap.size, o, none⟩ u)) := by
      intro W o u ⟨a, c⟩
      have hg : W.grownBy (W.setCell ⟨w.heap.size, o, none⟩ u) (some w.heap.size) := cell_grown (b' := w.heap.size) u o
      exact ⟨a.grown hg (fun q hq => by cases hq; omega), c.setCell (Nat.le_refl _) u⟩
    have := one _ 1 u2 (one _ 0 u1 ⟨hP, HB0.out.trans (hB1.mono HB0.out.size)⟩)
    exact ⟨_, pl, st, s, rfl, this.1.mono (by omega), hD, hst, hs, this.2⟩
  clear hP hD hB1 hc2 hs2 p9 f9
  go_wp2
  exact bodyPost_ret (v := .tuple #[.agg #[.slice b4 pl.cl.length d4, .slice b5 pl.st.length d5], .int .i64 st, .int .i64 s]) (by simp [results, Try.results28, go_sem, t0, t1, ft0, ft1]) rfl (HF.out _ _)

theorem fav_facts {p : Pln} {st s : Int} {xs : List Int} (h : xs = favO p st s) (h0 : 0 < xs.length) :
    sgB p xs = true ∧ sgP p xs = wgs p xs ∧ (cycO (wgs p xs) == cycO p) = true ∧ decide (twO (wgs p xs) st s ≤ twO p st s) = true ∧ xs.length = p.st.length ∧ p.st.length ≤ 5 ∧
      (∀ i, i < xs.length → -6 ≤ xs.getD i 0 - (p.st.getD i s0).gr ∧ xs.getD i 0 - (p.st.getD i s0).gr ≤ 6) ∧ ((∀ i, i < xs.length → xs.getD i 0 = (p.st.getD i s0).gr) ∨ 0 < twO p st s) := by
  have hv : vTram p st s = true := by
    cases hh : vTram p st s
    · rw [h, favO_no hh] at h0; simp at h0
    · rfl
  rw [favO_yes hv] at h
  subst h
  have hval : validP p = true := by unfold vTram at hv; simp only [Bool.and_eq_true] at hv; exact hv.1.1
  have hg := f1_good p st.toNat s 6 (Nat.le_refl _)
  have hok : okG p (fav p st.toNat s) = true := hg.ok hval
  have hsg : sgB p (fav p st.toNat s) = true := by unfold sgB; rw [hval, hok]; rfl
  have hl := (okG_iff.1 hok).1
  have hw := wgs_valid hval hok
  have ht : twO p st s = tw p st.toNat s := by unfold twO; rw [if_pos hv]
  refine ⟨hsg, by unfold sgP; rw [if_pos hsg], ?_, ?_, hl, (validP_iff.1 hval).2.2.1, fun i hi => hg.near (by omega), ?_⟩
  · unfold cycO; rw [if_pos hval, if_pos hw]
    exact beq_iff_eq.2 hg.cyc
  · rw [twO_wgs hv hok, ht, ← twG_grs]
    exact decide_eq_true hg.le
  · rcases hg with hg | ⟨n, a, b, _, _, _, _, _, _, hlt⟩
    · left; intro i hi
      show (f1 p st.toNat s 6).getD i 0 = _
      rw [hg]; exact grs_get (by omega)
    · right
      rw [ht, ← twG_grs]
      have hS : st.toNat < p.st.length := by
        unfold vTram at hv; simp only [Bool.and_eq_true] at hv
        have := inR_iff.1 hv.1.2
        omega
      have hs0 : 0 ≤ s := by
        unfold vTram at hv; simp only [Bool.and_eq_true] at hv
        exact (inR_iff.1 hv.2).1
      have := (tw_bd hw (st := st.toNat) (by rw [wgs_len]; exact hS) hs0).1
      exact Int.lt_of_le_of_lt this hlt
set_option maxHeartbeats 16000000 in
theorem fnFavourTram_walk (w : World) (v : Value) (bs : List UInt8) (hv : Bytes w 0 v bs) :
    Calls Try.prog 6 #[v] w fun e w' => e = .returned (.bool true) ∧ Below w.heap.size w w' := by
  obtain ⟨ao, cap, rfl, hcap, hm⟩ := hv.form
  by_cases hlen : bs.length ≤ 1048576
  case neg =>
    go_enter Try.func6, Try.ntmps6
    go_wp2
    go_ret
    exact ⟨rfl, Below.refl _ _⟩
  have T_w := Lib.hid (Below.refl w.heap.size w)
  go_enter Try.func6, Try.ntmps6
  go_wp2_with fail
  go_at_call 28
  refine (drawFavourTram _ _ bs hv).mono ?_; rintro e w1 ⟨v1, pl, st, s, rfl, hR, hD, hst, hs, hB⟩
  replace T_w := Lib.hid (T_w.out.trans (hB.mono T_w.out.size))
  clear hB hv
  obtain ⟨_, _, rfl, hc, hs⟩ := id hR
  obtain ⟨ap, bp, rfl, _, _⟩ := hc.form
  obtain ⟨cp, dp, rfl, _, _⟩ := hs.form
  clear hc hs
  obtain ⟨w2, hw, hB, y0, y1, hzp⟩ := box2 w1 (.slice ap pl.cl.length bp) (.slice cp pl.st.length dp) 26
  have Kp : Hid (∀ W, Below w2.heap.size w2 W → W.cell? ⟨w1.heap.size, 0, none⟩ = some (.slice ap pl.cl.length bp) ∧ W.cell? ⟨w1.heap.size, 1, none⟩ = some (.slice cp pl.st.length dp)) := fun W h => ⟨(h.cell (p := ⟨w1.heap.size, 0, none⟩) hzp).trans y0, (h.cell (p := ⟨w1.heap.size, 1, none⟩) hzp).trans y1⟩
  have HWp := Lib.hid hw
  have TP_w := T_w
  replace T_w := Lib.hid (T_w.out.trans (hB.mono T_w.out.size))
  have KPp : Hid (∀ W, Below w2.heap.size w2 W → PlanR W 0 (.agg #[.slice ap pl.cl.length bp, .slice cp pl.st.length dp]) pl) := fun W h => ((hR.below hB (Nat.le_refl _)).mono (Nat.zero_le _)).below h (Nat.le_refl _)
  clear hw hB hR y0 y1
  have T_w2 := Lib.hid (Below.refl w2.heap.size w2)
  obtain ⟨xs, hxs⟩ : ∃ x, x = favO pl st s := ⟨_, rfl⟩
  have HXS := Lib.hid hxs
  clear hxs
  go_wp2_with fail
  rw [← HWp.out]
  clear HWp
  clear TP_w
  refine (impl_favourTram _ 0 _ pl st s (KPp.out _ T_w2.out)).mono ?_; rintro e w3 ⟨v1, rfl, hO, hB⟩
  replace T_w := Lib.hid (T_w.out.trans (hB.mono T_w.out.size))
  replace T_w2 := Lib.hid (T_w2.out.trans (hB.mono T_w2.out.size))
  clear hB
  rw [← HXS.out] at hO
  have Kv1 : Hid (∀ W, Below w3.heap.size w3 W → Ints W 0 v1 xs) := fun W h => Rd.mono (Rd.below hO.rd h (Nat.le_refl _) (by decide)) (Nat.zero_le _)
  obtain ⟨av1, cv1, rfl, _, _⟩ := hO.form
  clear hO
  have T_w3 := Lib.hid (Below.refl w3.heap.size w3)
  obtain ⟨up0, up1⟩ := Kp.out _ T_w2.out
  go_wp2_with fail
  refine (spec_favourTram _ 0 _ pl st s (KPp.out _ T_w2.out)).mono ?_; rintro e w4 ⟨v2, rfl, hO, hB⟩
  clear up0 up1
  replace T_w := Lib.hid (T_w.out.trans (hB.mono T_w.out.size))
  replace T_w2 := Lib.hid (T_w2.out.trans (hB.mono T_w2.out.size))
  replace T_w3 := Lib.hid (T_w3.out.trans (hB.mono T_w3.out.size))
  clear hB
  rw [← HXS.out] at hO
  have Kv2 : Hid (∀ W, Below w4.heap.size w4 W → Ints W 0 v2 xs) := fun W h => Rd.mono (Rd.below hO.rd h (Nat.le_refl _) (by decide)) (Nat.zero_le _)
  obtain ⟨av2, cv2, rfl, _, _⟩ := hO.form
  clear hO
  have T_w4 := Lib.hid (Below.refl w4.heap.size w4)
  go_wp2_with fail
  refine (equalInts_same _ _ _ xs (Kv1.out _ T_w3.out) (Kv2.out _ T_w4.out)).mono ?_; rintro e w5 ⟨rfl, hB⟩
  replace T_w := Lib.hid (T_w.out.trans (hB.mono T_w.out.size))
  replace T_w2 := Lib.hid (T_w2.out.trans (hB.mono T_w2.out.size))
  replace T_w3 := Lib.hid (T_w3.out.trans (hB.mono T_w3.out.size))
  replace T_w4 := Lib.hid (T_w4.out.trans (hB.mono T_w4.out.size))
  clear hB
  by_cases hz : xs.length = 0
  · have hz1 : ((xs.length : Int) == 0) = true := by rw [hz]; rfl
    clear hz
    obtain ⟨up0, up1⟩ := Kp.out _ T_w2.out
    go_wp2_with fail
    refine (spec_favourTram _ 0 _ pl st s (KPp.out _ T_w2.out)).mono ?_; rintro e w6 ⟨v3, rfl, hO, hB⟩
    clear up0 up1
    replace T_w := Lib.hid (T_w.out.trans (hB.mono T_w.out.size))
    replace T_w2 := Lib.hid (T_w2.out.trans (hB.mono T_w2.out.size))
    replace T_w3 := Lib.hid (T_w3.out.trans (hB.mono T_w3.out.size))
    replace T_w4 := Lib.hid (T_w4.out.trans (hB.mono T_w4.out.size))
    clear hB hz1
    rw [← HXS.out] at hO
    have Kv3 : Hid (∀ W, Below w6.heap.size w6 W → Ints W 0 v3 xs) := fun W h => Rd.mono (Rd.below hO.rd h (Nat.le_refl _) (by decide)) (Nat.zero_le _)
    obtain ⟨av3, cv3, rfl, _, _⟩ := hO.form
    clear hO
    have T_w6 := Lib.hid (Below.refl w6.heap.size w6)
    go_wp2_with fail
    refine (equalInts_same _ _ _ xs (Kv1.out _ T_w3.out) (Kv3.out _ T_w6.out)).mono ?_; rintro e w7 ⟨rfl, hB⟩
    replace T_w := Lib.hid (T_w.out.trans (hB.mono T_w.out.size))
    replace T_w2 := Lib.hid (T_w2.out.trans (hB.mono T_w2.out.size))
    replace T_w3 := Lib.hid (T_w3.out.trans (hB.mono T_w3.out.size))
    replace T_w4 := Lib.hid (T_w4.out.trans (hB.mono T_w4.out.size))
    replace T_w6 := Lib.hid (T_w6.out.trans (hB.mono T_w6.out.size))
    clear hB
    go_wp2_with fail
    go_ret
    exact ⟨rfl, T_w.out⟩
  have hz1 : ((xs.length : Int) == 0) = false := beq_eq_false_iff_ne.mpr (by omega)
  obtain ⟨F1, F2, F3, F4, F5, F6, F7, F8⟩ := fav_facts (p := pl) (st := st) (s := s) (xs := xs) HXS.out (by omega)
  have HF1 := Lib.hid F1
  have HF2 := Lib.hid F2
  have HF3 := Lib.hid F3
  have HF4 := Lib.hid F4
  have HF5 := Lib.hid F5
  have HF7 := Lib.hid F7
  have HF8 := Lib.hid F8
  clear F1 F2 F3 F4 F5 F7 F8 hz
  obtain ⟨up0, up1⟩ := Kp.out _ T_w2.out
  go_wp2_with fail
  refine (impl_setGreens _ 0 0 _ _ pl xs (KPp.out _ T_w2.out) (Kv1.out _ T_w3.out)).mono ?_; rintro e w6 ⟨v3, rfl, hO, hB⟩
  clear up0 up1
  replace T_w := Lib.hid (T_w.out.trans (hB.mono T_w.out.size))
  replace T_w2 := Lib.hid (T_w2.out.trans (hB.mono T_w2.out.size))
  replace T_w3 := Lib.hid (T_w3.out.trans (hB.mono T_w3.out.size))
  replace T_w4 := Lib.hid (T_w4.out.trans (hB.mono T_w4.out.size))
  rw [HF1.out]
  rw [HF2.out] at hO
  have F3 := HF3.out
  have F4 := HF4.out
  have hR := hO.planR
  obtain ⟨q, hq⟩ : ∃ q, q = wgs pl xs := ⟨_, rfl⟩
  rw [← hq] at F3 F4 hR
  clear hB hO hq
  obtain ⟨_, _, rfl, hc, hs⟩ := id hR
  obtain ⟨aq, bq, rfl, _, _⟩ := hc.form
  obtain ⟨cq, dq, rfl, _, _⟩ := hs.form
  clear hc hs
  obtain ⟨w7, hw, hB, y0, y1, hzq⟩ := box2 w6 (.slice aq q.cl.length bq) (.slice cq q.st.length dq) 26
  have Kq : Hid (∀ W, Below w7.heap.size w7 W → W.cell? ⟨w6.heap.size, 0, none⟩ = some (.slice aq q.cl.length bq) ∧ W.cell? ⟨w6.heap.size, 1, none⟩ = some (.slice cq q.st.length dq)) := fun W h => ⟨(h.cell (p := ⟨w6.heap.size, 0, none⟩) hzq).trans y0, (h.cell (p := ⟨w6.heap.size, 1, none⟩) hzq).trans y1⟩
  have HWq := Lib.hid hw
  have TP_w := T_w
  have TP_w2 := T_w2
  have TP_w3 := T_w3
  have TP_w4 := T_w4
  replace T_w := Lib.hid (T_w.out.trans (hB.mono T_w.out.size))
  replace T_w2 := Lib.hid (T_w2.out.trans (hB.mono T_w2.out.size))
  replace T_w3 := Lib.hid (T_w3.out.trans (hB.mono T_w3.out.size))
  replace T_w4 := Lib.hid (T_w4.out.trans (hB.mono T_w4.out.size))
  have KPq : Hid (∀ W, Below w7.heap.size w7 W → PlanR W 0 (.agg #[.slice aq q.cl.length bq, .slice cq q.st.length dq]) q) := fun W h => ((hR.below hB (Nat.le_refl _)).mono (Nat.zero_le _)).below h (Nat.le_refl _)
  clear hw hB hR y0 y1
  have T_w7 := Lib.hid (Below.refl w7.heap.size w7)
  obtain ⟨up0, up1⟩ := Kp.out _ TP_w2.out
  have uzp : w1.heap.size < w6.heap.size := by have := TP_w2.out.size; omega
  have KC : Hid (∀ W, Below w7.heap.size w7 W → (W.cell? ⟨w6.heap.size, 0, none⟩ = some (.slice aq q.cl.length bq) ∧ W.cell? ⟨w6.heap.size, 1, none⟩ = some (.slice cq q.st.length dq)) ∧ (W.cell? ⟨w1.heap.size, 0, none⟩ = some (.slice ap pl.cl.length bp) ∧ W.cell? ⟨w1.heap.size, 1, none⟩ = some (.slice cp pl.st.length dp))) := fun W h => ⟨Kq.out _ (T_w7.out.trans (h.mono T_w7.out.size)), Kp.out _ (T_w2.out.trans (h.mono T_w2.out.size))⟩
  go_wp2_with fail
  rw [← HWq.out]
  clear HWq
  clear TP_w TP_w2 TP_w3 TP_w4
  obtain ⟨⟨x0, x1⟩, x2, x3⟩ := KC.out _ (Below.refl _ _)
  go_region_held3 (fun W => (W.cell? ⟨w6.heap.size, 0, none⟩ = some (.slice aq q.cl.length bq) ∧ W.cell? ⟨w6.heap.size, 1, none⟩ = some (.slice cq q.st.length dq)) ∧ (W.cell? ⟨w1.heap.size, 0, none⟩ = some (.slice ap pl.cl.length bp) ∧ W.cell? ⟨w1.heap.size, 1, none⟩ = some (.slice cp pl.st.length dp)))
    (first | exact KC.out _ hBy3 | exact KC.out _ hBy2 | exact KC.out _ hBy1 | exact KC.out _ hBy0 | exact KC.out _ (Below.refl _ _) | go_keep | assumption)
    ((first
      | (go_at_call 33; (with_reducible refine (impl_cycleOf _ 0 (.agg #[.slice aq q.cl.length bq, .slice cq q.st.length dq]) q (KPq.out _ (T_w7.out.trans ((Below.drew (Below.refl w7.heap.size w7)).mono T_w7.out.size)))).mono ?_); rintro e wr0 ⟨rfl, hBx0⟩; have hBy0 : Below w7.heap.size w7 wr0 := (Below.drew (Below.refl w7.heap.size w7)).trans (hBx0.mono (Below.drew (Below.refl w7.heap.size w7)).size))
      | (go_at_call 33; (with_reducible refine (impl_cycleOf _ 0 (.agg #[.slice ap pl.cl.length bp, .slice cp pl.st.length dp]) pl (KPp.out _ (T_w2.out.trans (hBy0.mono T_w2.out.size)))).mono ?_); rintro e wr1 ⟨rfl, hBx1⟩; have hBy1 : Below w7.heap.size w7 wr1 := hBy0.trans (hBx1.mono hBy0.size))
      | (go_at_call 32; (with_reducible refine (impl_tramWait _ 0 (.agg #[.slice aq q.cl.length bq, .slice cq q.st.length dq]) q st s (KPq.out _ (T_w7.out.trans (hBy1.mono T_w7.out.size)))).mono ?_); rintro e wr2 ⟨rfl, hBx2⟩; have hBy2 : Below w7.heap.size w7 wr2 := hBy1.trans (hBx2.mono hBy1.size))
      | (go_at_call 32; (with_reducible refine (impl_tramWait _ 0 (.agg #[.slice ap pl.cl.length bp, .slice cp pl.st.length dp]) pl st s (KPp.out _ (T_w2.out.trans (hBy2.mono T_w2.out.size)))).mono ?_); rintro e wr3 ⟨rfl, hBx3⟩; have hBy3 : Below w7.heap.size w7 wr3 := hBy2.trans (hBx3.mono hBy2.size))))
  have hB := hBy3
  replace T_w := Lib.hid (T_w.out.trans (hB.mono T_w.out.size))
  replace T_w2 := Lib.hid (T_w2.out.trans (hB.mono T_w2.out.size))
  replace T_w3 := Lib.hid (T_w3.out.trans (hB.mono T_w3.out.size))
  replace T_w4 := Lib.hid (T_w4.out.trans (hB.mono T_w4.out.size))
  replace T_w7 := Lib.hid (T_w7.out.trans (hB.mono T_w7.out.size))
  go_wp2
  go_ret
  exact ⟨rfl, T_w.out⟩
end Go.Proofs.Ytokpgipbgkiepaa
