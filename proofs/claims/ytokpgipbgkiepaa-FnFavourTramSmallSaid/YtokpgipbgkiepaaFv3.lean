/- FavourTram: the reference's. -/
import Derived.Test.YtokpgipbgkiepaaFv2
import Derived.Test.YtokpgipbgkiepaaPlU
namespace Go.Proofs.Ytokpgipbgkiepaa
open Go.RowKit
set_option linter.unusedVariables false
set_option linter.unusedSimpArgs false

theorem twO_wgs {p : Pln} {st s : Int} {g : List Int} (h : vTram p st s = true) (hg : okG p g = true) : twO (wgs p g) st s = twG p st.toNat s g := by
  have h2 : vTram (wgs p g) st s = true := by
    unfold vTram at h ⊢
    simp only [Bool.and_eq_true] at h ⊢
    exact ⟨⟨wgs_valid h.1.1 hg, by rw [wgs_len]; exact h.1.2⟩, h.2⟩
  unfold twO
  rw [if_pos h2]
  rfl
def bst (p : Pln) (st : Nat) (s : Int) (i : Nat) : List Int := ((shL p).take i).foldl (pick1 p st s) (grs p)
theorem bst_zero (p : Pln) (st : Nat) (s : Int) : bst p st s 0 = grs p := rfl
theorem bst_succ (p : Pln) (st : Nat) (s : Int) {i : Nat} (hi : i < (shL p).length) : bst p st s (i + 1) = pick1 p st s (bst p st s i) ((shL p).getD i []) := by
  unfold bst
  rw [List.take_succ_eq_append_getElem hi, List.foldl_append]
  simp [List.getD_eq_getElem?_getD, hi]
theorem bst_all (p : Pln) (st : Nat) (s : Int) : bst p st s (shL p).length = fav p st s := by
  unfold bst
  rw [List.take_length]
  show (l1 p 6).foldl (pick1 p st s) (pick1 p st s (grs p) (grs p)) = _
  have : pick1 p st s (grs p) (grs p) = grs p := by unfold pick1; split <;> rfl
  rw [this, pick_l1]
  rfl
theorem shL_ok {p : Pln} (h : validP p = true) {i : Nat} (hi : i < (shL p).length) : okG p ((shL p).getD i []) = true := by
  cases i with
  | zero => exact grs_ok h
  | succ i =>
    have hi' : i < (l1 p 6).length := by simpa [shL] using hi
    refine l1_ok h 6 _ ?_
    show (l1 p 6).getD i [] ∈ l1 p 6
    simp [List.getD_eq_getElem?_getD, hi']

theorem two_setCell {w : World} {b : Nat} {x y u v : Value} {t : TypeId} (h : w.heap[b]? = some (.cells #[x, y] t (0, 0))) : ((w.setCell ⟨b, 0, none⟩ u).setCell ⟨b, 1, none⟩ v).heap[b]? = some (.cells #[u, v] t (0, 0)) := by
  have hlt := lt_of_block h
  have h' : w.heap[b] = .cells #[x, y] t (0, 0) := by simpa [Array.getElem?_eq_getElem hlt] using h
  have e1 : (w.setCell ⟨b, 0, none⟩ u).heap[b]? = some (.cells #[u, y] t (0, 0)) := by
    show (w.heap.modify b _)[b]? = _
    rw [Array.getElem?_eq_getElem (by simpa using hlt), Array.getElem_modify_self, h']
    rfl
  have hlt1 := lt_of_block e1
  have h1' : (w.setCell ⟨b, 0, none⟩ u).heap[b] = .cells #[u, y] t (0, 0) := by simpa [Array.getElem?_eq_getElem hlt1] using e1
  show ((w.setCell ⟨b, 0, none⟩ u).heap.modify b _)[b]? = _
  rw [Array.getElem?_eq_getElem (by simpa using hlt1), Array.getElem_modify_self, h1']
  rfl

theorem pcs_spot {w : World} {lo n cap : Nat} {ao : Option Addr} {vc : Value} {hs : List Value} (h : Rd w lo (.slice ao n cap) 2 n (pcs vc hs)) (hl : hs.length = n) (h0 : 0 < n) :
    ∃ b off, ao = some ⟨b, off, none⟩ ∧ lo ≤ b ∧ b < w.heap.size ∧ ∀ i, i < n → w.cell? ⟨b, off + i * 2, none⟩ = some vc ∧ w.cell? ⟨b, off + i * 2 + 1, none⟩ = some (hs.getD i .nilFunc) := by
  obtain ⟨h1, ao', cap', e, h3, h4, h5, h6⟩ := h
  cases e
  obtain ⟨b, off, e, hb, hc⟩ := h6 h0
  have key : ∀ i, i < n * 2 → w.cell? ⟨b, off + i, none⟩ = (pcs vc hs)[i]? := fun i hi => by
    rw [hc i (by omega), List.getElem?_eq_getElem (by omega)]
  refine ⟨b, off, e, hb, World.block_lt_of_cell? w ⟨b, off + 0, none⟩ (hc 0 (by omega)), fun i hi => ?_⟩
  have h1 := key (i * 2) (by omega)
  have h2 := key (i * 2 + 1) (by omega)
  obtain ⟨g1, g2⟩ := pcs_get vc hs i (by omega)
  rw [g1] at h1
  rw [g2, ← Nat.add_assoc] at h2
  exact ⟨h1, h2⟩

set_option maxHeartbeats 16000000 in
set_option maxRecDepth 100000 in
theorem spec_favourTram (w : World) (lo : Nat) (vp : Value) (p : Pln) (st s : Int) (hp : PlanR w lo vp p) :
    Calls Try.prog 30 #[vp, .int .i64 st, .int .i64 s] w (OwnRet w (favO p st s)) := by
  have hp0 := hp
  obtain ⟨vc, vs, rfl, hc, hs⟩ := hp
  obtain ⟨aoc, capc, rfl, hcapc, hmc⟩ := hc.form
  obtain ⟨ao, cap, rfl, hcap, hm⟩ := hs.form
  obtain ⟨w0, hw0, hB0, x0, x1, hz0⟩ := plan_box w (.slice aoc p.cl.length capc) (.slice ao p.st.length cap)
  have KC : Hid (∀ W, Below w0.heap.size w0 W → W.cell? ⟨w.heap.size, 0, none⟩ = some (.slice aoc p.cl.length capc) ∧ W.cell? ⟨w.heap.size, 1, none⟩ = some (.slice ao p.st.length cap)) := fun W h => ⟨(h.cell (p := ⟨w.heap.size, 0, none⟩) hz0).trans x0, (h.cell (p := ⟨w.heap.size, 1, none⟩) hz0).trans x1⟩
  have KP : Hid (∀ W, Below w0.heap.size w0 W → PlanR W 0 (.agg #[.slice aoc p.cl.length capc, .slice ao p.st.length cap]) p) := fun W h => ((hp0.below hB0 (Nat.le_refl _)).mono (Nat.zero_le _)).below h (Nat.le_refl _)
  have HB0 := Lib.hid hB0
  obtain ⟨vt, hvt⟩ : ∃ x, x = vTram p st s := ⟨_, rfl⟩
  have HVT := Lib.hid hvt
  clear hp0 hc hs hB0 x0 x1 hvt
  go_enter Try.func30, Try.ntmps30
  go_wp2_with fail
  rw [← hw0]; clear hw0
  refine (spec_validTram _ 0 _ p st s (KP.out _ (Below.refl _ _))).mono ?_; rintro e w1 ⟨rfl, hB1⟩
  rw [← HVT.out]
  cases vt
  · have HE := Lib.hid (favO_no HVT.out.symm)
    go_wp2_with fail
    go_ret
    exact ⟨_, rfl, by rw [HE.out]; exact Own.nil _ _ _ _, HB0.out.trans (hB1.mono HB0.out.size)⟩
  · have hv := HVT.out.symm
    have hvt := hv
    unfold vTram at hv
    simp only [Bool.and_eq_true] at hv
    have hval := hv.1.1
    have HV := Lib.hid hval
    have HVT2 := Lib.hid hvt
    have HE := Lib.hid (favO_yes hvt)
    obtain ⟨w2, hw2, hB2', y0, y1, hz2⟩ := plan_box w1 (.slice aoc p.cl.length capc) (.slice ao p.st.length cap)
    have hb7 : w2.heap[w1.heap.size]? = some (.cells #[.slice aoc p.cl.length capc, .slice ao p.st.length cap] 26 (0, 0)) := by rw [hw2]; exact heap_alloc_new w1 _
    have hB2 := hB1.trans (hB2'.mono hB1.size)
    have HB2 := Lib.hid hB2
    have HW2 := Lib.hid hw2
    obtain ⟨u0, u1⟩ := KC.out _ hB1
    have hz1 : w.heap.size < w1.heap.size := by have := hB1.size; omega
    have hz12 : w0.heap.size ≤ w1.heap.size := hB1.size
    clear hv hvt hval hw2 hB2' hB1 hB2 y0 y1
    go_wp2_with fail
    rw [← HW2.out]
    clear HW2
    refine (spec_shifts _ 0 _ _ p (KP.out _ HB2.out) HV.out).mono ?_; rintro e w3 ⟨v3, rfl, ⟨hs, hRd, hlen, hz, hSt⟩, hB3⟩
    have HB3 := Lib.hid (HB2.out.trans (hB3.mono HB2.out.size))
    obtain ⟨N, hN⟩ : ∃ n, n = (shL p).length := ⟨_, rfl⟩
    have hN1 : 1 ≤ N := by rw [hN]; simp [shL]
    have hb73 : w3.heap[w1.heap.size]? = some (.cells #[.slice aoc p.cl.length capc, .slice ao p.st.length cap] 26 (0, 0)) := by rw [hB3.block _ hz2]; exact hb7
    have KPI : Hid (∀ W, w3.grownBy W (some w1.heap.size) → ∀ i, i < N → PlanR W 0 (.agg #[.slice aoc p.cl.length capc, hs.getD i .nilFunc]) (wgs p ((shL p).getD i []))) := fun W hg i hi => by
      have hT := HB3.out.trans (below_of_grownBy hg (B := w0.heap.size) HB3.out.size (fun k hk => by cases hk; exact hz12))
      by_cases e : i = 0
      · subst e
        have : wgs p ((shL p).getD 0 []) = p := wgs_grs p
        rw [hz, this]; exact KP.out W hT
      · obtain ⟨_, _, e', hcl, _⟩ := KP.out W hT
        cases e'
        exact ⟨_, _, rfl, hcl, ((hSt i (by omega) (by rw [← hN]; exact hi)).grown hg (fun q hq => by cases hq; omega)).mono (Nat.zero_le _)⟩
    rw [← hN] at hRd hlen
    obtain ⟨a3, c3, rfl, hc3, hm3⟩ := hRd.form
    obtain ⟨g, off, rfl, hgl, hgs, hcells⟩ := pcs_spot hRd hlen (by omega)
    have KL : Hid (∀ W, w3.grownBy W (some w1.heap.size) → ∀ i, i < N → W.cell? ⟨g, off + i * 2, none⟩ = some (.slice aoc p.cl.length capc) ∧ W.cell? ⟨g, off + i * 2 + 1, none⟩ = some (hs.getD i .nilFunc)) := fun W hg i hi => by
      have hbk := hg.block g hgs (by intro h; cases h; omega)
      exact ⟨(World.cell?_of_block hbk).trans (hcells i hi).1, (World.cell?_of_block hbk).trans (hcells i hi).2⟩
    have HN := Lib.hid hN
    have HZ := Lib.hid hz
    have Hb7 := Lib.hid hb73
    have hN2 : N ≤ 1000 := by rw [hN]; have := l1_len p (validP_iff.1 HV.out).2.2.1 6; simp [shL]; omega
    clear hRd hlen hSt hz hb7 hb73 hN hcells hB3 u0 u1
    go_wp2_with fail
    go_loopw [9] (fun iv W => ∃ i j : Nat, i ≤ N ∧ j < N ∧ iv = .int .i64 i ∧ Hid (W.heap[w1.heap.size]? = some (.cells #[.slice aoc p.cl.length capc, hs.getD j .nilFunc] 26 (0, 0))) ∧ Hid (bst p st.toNat s i = (shL p).getD j []) ∧ Hid (w3.grownBy W (some w1.heap.size))) (fun iv _ => N - (intOf iv).toNat)
    case atStart => exact ⟨0, 0, by omega, by omega, rfl, by rw [HZ.out]; exact Hb7.out, rfl, grownBy_refl _ _⟩
    case round =>
      obtain ⟨i, j, hi, hj, rfl, HBJ, HS, HG⟩ := hrel
      by_cases hlt : i < N
      · obtain ⟨_, _, ei, _, hsi⟩ := KPI.out _ HG.out i hlt
        cases ei
        obtain ⟨_, _, ej, _, hsj⟩ := KPI.out _ HG.out j hj
        cases ej
        obtain ⟨ai, ci, ei, _, _⟩ := hsi.form
        obtain ⟨aj, cj, ej, _, _⟩ := hsj.form
        obtain ⟨li, hli⟩ : ∃ x, x = (wgs p ((shL p).getD i [])).st.length := ⟨_, rfl⟩
        obtain ⟨lj, hlj⟩ : ∃ x, x = (wgs p ((shL p).getD j [])).st.length := ⟨_, rfl⟩
        rw [← hli] at ei
        rw [← hlj] at ej
        have hPi := KPI.out _ HG.out i hlt
        have hPj := KPI.out _ HG.out j hj
        obtain ⟨l0, l1⟩ := KL.out _ HG.out i hlt
        have hbj := HBJ.out
        rw [ei] at hPi l1
        rw [ej] at hPj hbj
        have q0 : wr.cell? ⟨w1.heap.size, 0, none⟩ = some (.slice aoc p.cl.length capc) := by simp [World.cell?, hbj]
        have q1 : wr.cell? ⟨w1.heap.size, 1, none⟩ = some (.slice aj lj cj) := by simp [World.cell?, hbj]
        have f0 : wr.frozen? ⟨w1.heap.size, 0, none⟩ = false := by simp [World.frozen?, hbj]
        have f1 : wr.frozen? ⟨w1.heap.size, 1, none⟩ = false := by simp [World.frozen?, hbj]
        have hbl := lt_of_block hbj
        have hgl2 := World.block_lt_of_cell? wr ⟨g, off + i * 2, none⟩ l0
        have hi0 : (0 : Int) ≤ (i : Int) := by omega
        have hi1 : (i : Int) < (N : Int) := by omega
        have KA : Hid (∀ W, Below wr.heap.size wr W → (W.cell? ⟨g, off + i * 2, none⟩ = some (.slice aoc p.cl.length capc) ∧ W.cell? ⟨g, off + i * 2 + 1, none⟩ = some (.slice ai li ci)) ∧ W.cell? ⟨w1.heap.size, 0, none⟩ = some (.slice aoc p.cl.length capc) ∧ W.cell? ⟨w1.heap.size, 1, none⟩ = some (.slice aj lj cj)) := fun W h =>
          ⟨⟨(h.cell (p := ⟨g, off + i * 2, none⟩) hgl2).trans l0, (h.cell (p := ⟨g, off + i * 2 + 1, none⟩) hgl2).trans l1⟩, (h.cell (p := ⟨w1.heap.size, 0, none⟩) hbl).trans q0, (h.cell (p := ⟨w1.heap.size, 1, none⟩) hbl).trans q1⟩
        have HPi := Lib.hid hPi
        have HPj := Lib.hid hPj
        have hti : twO (wgs p ((shL p).getD i [])) st s = twG p st.toNat s ((shL p).getD i []) := twO_wgs HVT2.out (shL_ok HV.out (by rw [← HN.out]; exact hlt))
        have htj : twO (wgs p ((shL p).getD j [])) st s = twG p st.toNat s ((shL p).getD j []) := twO_wgs HVT2.out (shL_ok HV.out (by rw [← HN.out]; exact hj))
        obtain ⟨ti, hti'⟩ : ∃ x, x = twG p st.toNat s ((shL p).getD i []) := ⟨_, rfl⟩
        obtain ⟨tj, htj'⟩ : ∃ x, x = twG p st.toNat s ((shL p).getD j []) := ⟨_, rfl⟩
        have HTI := Lib.hid (hti.trans hti'.symm)
        have HTJ := Lib.hid (htj.trans htj'.symm)
        have HTI2 := Lib.hid hti'
        have HTJ2 := Lib.hid htj'
        have HEI := Lib.hid ei
        have HEJ := Lib.hid ej
        have HBW := Lib.hid hbj
        have e2 : off + i * 2 + 1 = off + (i * 2 + 1) := by omega
        clear hsi hsj ei ej hli hlj hPi hPj hbj hti htj hti' htj' e2
        by_cases hlt2 : ti < tj
        · have d1 : decide (ti < tj) = true := decide_eq_true hlt2
          have HLT := Lib.hid hlt2
          clear hlt2
          go_wp2_with fail
          go_region_held3 (fun W => (W.cell? ⟨g, off + i * 2, none⟩ = some (.slice aoc p.cl.length capc) ∧ W.cell? ⟨g, off + i * 2 + 1, none⟩ = some (.slice ai li ci)) ∧ W.cell? ⟨w1.heap.size, 0, none⟩ = some (.slice aoc p.cl.length capc) ∧ W.cell? ⟨w1.heap.size, 1, none⟩ = some (.slice aj lj cj))
            (first | exact KA.out _ hB5 | exact KA.out _ hB4 | exact KA.out _ (Below.refl _ _) | go_keep | assumption)
            ((first
              | (go_at_call 81; (with_reducible refine (spec_tramWait _ 0 (.agg #[.slice aoc p.cl.length capc, .slice ai li ci]) (wgs p ((shL p).getD i [])) st s (HPi.out.below (Below.drew (Below.refl wr.heap.size wr)) (Nat.le_refl _))).mono ?_); rintro e w4 ⟨rfl, hB4'⟩; rw [HTI.out]; have hB4 : Below wr.heap.size wr w4 := (Below.drew (Below.refl wr.heap.size wr)).trans hB4')
              | (go_at_call 81; (with_reducible refine (spec_tramWait _ 0 (.agg #[.slice aoc p.cl.length capc, .slice aj lj cj]) (wgs p ((shL p).getD j [])) st s (HPj.out.below hB4 (Nat.le_refl _))).mono ?_); rintro e w5 ⟨rfl, hB5'⟩; rw [HTJ.out]; have hB5 : Below wr.heap.size wr w5 := hB4.trans (hB5'.mono hB4.size))))
          have hbk5 : w5.heap[w1.heap.size]? = some (.cells #[.slice aoc p.cl.length capc, .slice aj lj cj] 26 (0, 0)) := by rw [hB5.block _ hbl]; exact HBW.out
          have HBK5 := Lib.hid hbk5
          have HG5 : Hid (w3.grownBy w5 (some w1.heap.size)) := grownBy_trans HG.out (grownBy_of_below hB5 (Nat.le_refl _) (some w1.heap.size)) (fun x hx => .inl hx)
          have HBS := Lib.hid (bst_succ p st.toNat s (i := i) (by rw [← HN.out]; exact hlt))
          obtain ⟨⟨l0', l1'⟩, q0', q1'⟩ := KA.out _ hB5
          have f0' : w5.frozen? ⟨w1.heap.size, 0, none⟩ = false := by simp [World.frozen?, hbk5]
          have f1' : w5.frozen? ⟨w1.heap.size, 1, none⟩ = false := by simp [World.frozen?, hbk5]
          clear l0 l1 q0 q1 f0 f1 hB4 hB4' hB5 hB5' hbk5 KA
          go_wp2_with fail
          go_roundw
          case rel => exact ⟨i + 1, i, by omega, hlt, by go_num, by rw [HEI.out]; exact two_setCell HBK5.out, by rw [HBS.out, HS.out]; unfold Hid pick1; rw [if_pos (by rw [← HTI2.out, ← HTJ2.out]; exact HLT.out)],
            grownBy_trans (grownBy_trans HG5.out (cell_grown (b' := 0) _ 0) (fun x hx => .inl hx)) (cell_grown (b' := 0) _ 1) (fun x hx => .inl hx)⟩
          case measure => simp [intOf]; omega
        · have d1 : decide (ti < tj) = false := decide_eq_false hlt2
          have HLT := Lib.hid hlt2
          clear hlt2
          go_wp2_with fail
          go_region_held3 (fun W => (W.cell? ⟨g, off + i * 2, none⟩ = some (.slice aoc p.cl.length capc) ∧ W.cell? ⟨g, off + i * 2 + 1, none⟩ = some (.slice ai li ci)) ∧ W.cell? ⟨w1.heap.size, 0, none⟩ = some (.slice aoc p.cl.length capc) ∧ W.cell? ⟨w1.heap.size, 1, none⟩ = some (.slice aj lj cj))
            (first | exact KA.out _ hB5 | exact KA.out _ hB4 | exact KA.out _ (Below.refl _ _) | go_keep | assumption)
            ((first
              | (go_at_call 81; (with_reducible refine (spec_tramWait _ 0 (.agg #[.slice aoc p.cl.length capc, .slice ai li ci]) (wgs p ((shL p).getD i [])) st s (HPi.out.below (Below.drew (Below.refl wr.heap.size wr)) (Nat.le_refl _))).mono ?_); rintro e w4 ⟨rfl, hB4'⟩; rw [HTI.out]; have hB4 : Below wr.heap.size wr w4 := (Below.drew (Below.refl wr.heap.size wr)).trans hB4')
              | (go_at_call 81; (with_reducible refine (spec_tramWait _ 0 (.agg #[.slice aoc p.cl.length capc, .slice aj lj cj]) (wgs p ((shL p).getD j [])) st s (HPj.out.below hB4 (Nat.le_refl _))).mono ?_); rintro e w5 ⟨rfl, hB5'⟩; rw [HTJ.out]; have hB5 : Below wr.heap.size wr w5 := hB4.trans (hB5'.mono hB4.size))))
          have hbk5 : w5.heap[w1.heap.size]? = some (.cells #[.slice aoc p.cl.length capc, .slice aj lj cj] 26 (0, 0)) := by rw [hB5.block _ hbl]; exact HBW.out
          have HBK5 := Lib.hid hbk5
          have HG5 : Hid (w3.grownBy w5 (some w1.heap.size)) := grownBy_trans HG.out (grownBy_of_below hB5 (Nat.le_refl _) (some w1.heap.size)) (fun x hx => .inl hx)
          have HBS := Lib.hid (bst_succ p st.toNat s (i := i) (by rw [← HN.out]; exact hlt))
          obtain ⟨⟨l0', l1'⟩, q0', q1'⟩ := KA.out _ hB5
          have f0' : w5.frozen? ⟨w1.heap.size, 0, none⟩ = false := by simp [World.frozen?, hbk5]
          have f1' : w5.frozen? ⟨w1.heap.size, 1, none⟩ = false := by simp [World.frozen?, hbk5]
          clear l0 l1 q0 q1 f0 f1 hB4 hB4' hB5 hB5' hbk5 KA
          go_wp2_with fail
          go_roundw
          case rel => exact ⟨i + 1, j, by omega, hj, by go_num, by rw [HEJ.out]; exact HBK5.out, by rw [HBS.out, HS.out]; unfold Hid pick1; rw [if_neg (by rw [← HTI2.out, ← HTJ2.out]; have := HLT.out; omega)], HG5⟩
          case measure => simp [intOf]; omega
      · obtain rfl : i = N := by omega
        have hbs : bst p st.toNat s i = fav p st.toNat s := by rw [HN.out]; exact bst_all p st.toNat s
        have hPj := KPI.out _ HG.out j hj
        have hok := shL_ok HV.out (i := j) (by rw [← HN.out]; exact hj)
        have hgr : grs (wgs p ((shL p).getD j [])) = favO p st s := by rw [grs_wgs (okG_iff.1 hok).1, HE.out, ← hbs, HS.out]
        obtain ⟨_, _, ej, _, hsj⟩ := KPI.out _ HG.out j hj
        cases ej
        obtain ⟨aj, cj, ej, _, _⟩ := hsj.form
        have hbj := HBJ.out
        rw [ej] at hPj hbj
        have q0 : wr.cell? ⟨w1.heap.size, 0, none⟩ = some (.slice aoc p.cl.length capc) := by simp [World.cell?, hbj]
        have q1 : wr.cell? ⟨w1.heap.size, 1, none⟩ = some (.slice aj (wgs p ((shL p).getD j [])).st.length cj) := by simp [World.cell?, hbj]
        have HPj := Lib.hid hPj
        have HGR := Lib.hid hgr
        have HLj : Hid ((wgs p ((shL p).getD j [])).st.length ≤ 5) := by unfold Hid; rw [wgs_len]; exact (validP_iff.1 HV.out).2.2.1
        have HGW := Lib.hid (HB0.out.trans ((HB3.out.trans (below_of_grownBy HG.out (B := w0.heap.size) HB3.out.size (fun k hk => by cases hk; exact hz12))).mono HB0.out.size))
        clear hbs hPj hok hgr hsj ej hbj
        go_wp2_with fail
        refine (spec_greensOf _ 0 _ _ HPj.out HLj.out).mono ?_; rintro e w6 ⟨v6, rfl, hO6, hB6⟩
        rw [HGR.out] at hO6
        have HO6 := Lib.hid (hO6.mono HGW.out.size)
        have HB6 := Lib.hid (HGW.out.trans (hB6.mono HGW.out.size))
        clear hO6 hB6 q0 q1
        go_wp2_with fail
        go_ret
        exact ⟨_, rfl, HO6.out, HB6.out⟩
end Go.Proofs.Ytokpgipbgkiepaa
