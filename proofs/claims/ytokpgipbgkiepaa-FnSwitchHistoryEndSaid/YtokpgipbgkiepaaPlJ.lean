/- (Plan).beginOf: the program's. -/
import Derived.Test.YtokpgipbgkiepaaPlI
import Derived.Deep.RegionHeld3
namespace Go.Proofs.Ytokpgipbgkiepaa
open Go.RowKit
set_option linter.unusedVariables false
set_option linter.unusedSimpArgs false

theorem validP_st {p : Pln} (h : validP p = true) {i : Nat} (hi : i < p.st.length) : movesB (p.st.getD i s0).ph p.cl.length = true ∧ 5 ≤ (p.st.getD i s0).gr ∧ (p.st.getD i s0).gr ≤ 40 := by
  have := (validP_iff.1 h).2.2.2 i hi
  unfold stOk at this
  rw [Bool.and_eq_true, fitsB_iff, inR_iff] at this
  exact ⟨this.1.1, this.2⟩
theorem gapA_bd {p : Pln} (h : validP p = true) {i : Nat} (hi : i < p.st.length) : 0 ≤ gapA p i ∧ gapA p i ≤ 5 := by
  obtain ⟨hv, h1, h5, _⟩ := validP_iff.1 h
  unfold gapA change
  exact chg_bd hv (validP_st h hi).1 (validP_st h (Nat.mod_lt _ (by omega))).1 _ (Nat.le_refl _)
theorem beg_bd {p : Pln} (h : validP p = true) : ∀ i, i ≤ p.st.length → 0 ≤ beg p i ∧ beg p i ≤ 45 * i := by
  intro i
  induction i with
  | zero => intro _; simp [beg]
  | succ i ih =>
    intro hi
    have := ih (by omega)
    have a := validP_st h (i := i) (by omega)
    have b := gapA_bd h (i := i) (by omega)
    simp only [beg]; push_cast; omega

set_option maxHeartbeats 8000000 in
theorem plan_beginOf (w : World) (lo : Nat) (vp : Value) (p : Pln) (k : Nat) (hp : PlanR w lo vp p) (hval : validP p = true) (hk : k ≤ p.st.length) :
    Calls Try.prog 111 #[vp, .int .i64 k] w fun e w' => e = .returned (.int .i64 (beg p k)) ∧ Below w.heap.size w w' := by
  have hp0 := hp
  obtain ⟨vc, vs, rfl, hc, hs⟩ := hp
  obtain ⟨hvc, h1, h5, _⟩ := validP_iff.1 hval
  obtain ⟨ao, cap, rfl, hcap, hm⟩ := hs.form
  obtain ⟨b, off, rfl, _, hb, hx⟩ := hs.spot (by omega)
  obtain ⟨aoc, capc, rfl, hcapc, hmc⟩ := hc.form
  have HX := Lib.hid hx
  have HP0 := Lib.hid hp0
  have HCL := Lib.hid hc
  have HV := Lib.hid hval
  have HVC := Lib.hid hvc
  have hB0 : Below w.heap.size w (w.alloc (.cells #[.slice aoc p.cl.length capc, .slice (some ⟨b, off, none⟩) p.st.length cap] 26)) := (Below.refl _ _).alloc (Nat.le_refl _) _
  have x0 : (w.alloc (.cells #[.slice aoc p.cl.length capc, .slice (some ⟨b, off, none⟩) p.st.length cap] 26)).cell? ⟨w.heap.size, 0, none⟩ = some (.slice aoc p.cl.length capc) := by rw [cell_of_row _ w.heap.size 0 #[.slice aoc p.cl.length capc, .slice (some ⟨b, off, none⟩) p.st.length cap] 26 (0, 0) (heap_alloc_new w _)]; simp
  have x1 : (w.alloc (.cells #[.slice aoc p.cl.length capc, .slice (some ⟨b, off, none⟩) p.st.length cap] 26)).cell? ⟨w.heap.size, 1, none⟩ = some (.slice (some ⟨b, off, none⟩) p.st.length cap) := by rw [cell_of_row _ w.heap.size 1 #[.slice aoc p.cl.length capc, .slice (some ⟨b, off, none⟩) p.st.length cap] 26 (0, 0) (heap_alloc_new w _)]; simp
  have hz0 : w.heap.size < (w.alloc (.cells #[.slice aoc p.cl.length capc, .slice (some ⟨b, off, none⟩) p.st.length cap] 26)).heap.size := by simp
  have hkc : (k : Int) ≤ (cap : Int) := by omega
  have hk0 : (0 : Int) ≤ (k : Int) := by omega
  clear hx hp0 hc hs hval hvc
  go_enter Try.func111, Try.ntmps111
  obtain ⟨w0, hw0⟩ : ∃ w0, w0 = w.alloc (.cells #[.slice aoc p.cl.length capc, .slice (some ⟨b, off, none⟩) p.st.length cap] 26) := ⟨_, rfl⟩
  go_wp2_with fail
  rw [← hw0] at hB0 x0 x1 hz0
  go_loopw [5, 13] (fun sv i wo => ∃ j : Nat, j ≤ k ∧ i = .int .i64 j ∧ sv = .int .i64 (beg p j) ∧ Below w0.heap.size w0 wo) (fun _ i _ => k - (intOf i).toNat)
  case atStart => exact ⟨0, Nat.zero_le _, rfl, rfl, by rw [hw0]; exact Below.refl _ _⟩
  case round =>
    obtain ⟨j, hj, rfl, rfl, hB⟩ := hrel
    have hT := hB0.trans (hB.mono hB0.size)
    by_cases hlt : j < k
    · obtain ⟨g1, ai, ci, g0, hI⟩ := HX.out j (by omega)
      have hst := validP_st HV.out (i := j) (by omega)
      have hgb := gapA_bd HV.out (i := j) (by omega)
      have hbb := beg_bd HV.out j (by omega)
      have hsu : beg p (j + 1) = beg p j + (p.st.getD j s0).gr + gapA p j := rfl
      have hnm := (validP_st HV.out (i := (j + 1) % p.st.length) (Nat.mod_lt _ (by omega))).1
      have hgp : gapA p j = change p.cl (p.st.getD j s0).ph (p.st.getD ((j + 1) % p.st.length) s0).ph := rfl
      have c0 := (hT.cell (p := ⟨b, off + j * 2, none⟩) hb).trans g0
      have c1 := (hT.cell (p := ⟨b, off + j * 2 + 1, none⟩) hb).trans g1
      have y0 := (hB.cell (p := ⟨w.heap.size, 0, none⟩) hz0).trans x0
      have y1 := (hB.cell (p := ⟨w.heap.size, 1, none⟩) hz0).trans x1
      obtain ⟨ph, hph⟩ : ∃ ph, ph = (p.st.getD j s0).ph := ⟨_, rfl⟩
      obtain ⟨gr, hgr⟩ : ∃ gr, gr = (p.st.getD j s0).gr := ⟨_, rfl⟩
      obtain ⟨nph, hnph⟩ : ∃ q, q = (p.st.getD ((j + 1) % p.st.length) s0).ph := ⟨_, rfl⟩
      have HNPH := Lib.hid hnph
      rw [← hph] at c0 hI hst hgp
      rw [← hgr] at c1 hst hsu
      rw [← hnph] at hnm hgp
      obtain ⟨gp, hgp2⟩ : ∃ g, g = gapA p j := ⟨_, rfl⟩
      obtain ⟨bg, hbg⟩ : ∃ g, g = beg p j := ⟨_, rfl⟩
      rw [← hgp2] at hgp hgb hsu
      rw [← hbg] at hsu hbb ⊢
      have HGP := Lib.hid hgp
      have HSU := Lib.hid hsu
      have HI := Lib.hid hI
      have hst1 := hst.1
      have HS1 := Lib.hid hst1
      have HNM := Lib.hid hnm
      obtain ⟨hg5, hg40⟩ := hst.2
      have wr1 : IntKind.i64.wrap (gr + gp) = gr + gp := IntWalk.i64_in _ (by omega)
      have wr2 : IntKind.i64.wrap (bg + (gr + gp)) = bg + (gr + gp) := IntWalk.i64_in _ (by omega)
      have hwr : w.heap.size < wr.heap.size := Nat.lt_of_lt_of_le hz0 hB.size
      clear hph hgr hnph hgp2 hbg hgp hsu hI hst hnm g0 g1 hst1
      go_wp2_with fail
      obtain ⟨w4, hw4⟩ : ∃ w4, w4 = wr.alloc (.cells #[.slice ai ph.length ci, .int .i64 gr] 34) := ⟨_, rfl⟩
      have hB4 : Below wr.heap.size wr w4 := by rw [hw4]; exact (Below.refl _ _).alloc (Nat.le_refl _) _
      have z0 : w4.cell? ⟨wr.heap.size, 0, none⟩ = some (.slice ai ph.length ci) := by rw [hw4, cell_of_row _ wr.heap.size 0 #[.slice ai ph.length ci, .int .i64 gr] 34 (0, 0) (heap_alloc_new wr _)]; simp
      have z1 : w4.cell? ⟨wr.heap.size, 1, none⟩ = some (.int .i64 gr) := by rw [hw4, cell_of_row _ wr.heap.size 1 #[.slice ai ph.length ci, .int .i64 gr] 34 (0, 0) (heap_alloc_new wr _)]; simp
      have hz4 : wr.heap.size < w4.heap.size := by rw [hw4]; simp
      rw [← hw4]
      clear hw4
      have hT4 : Below w.heap.size w w4 := hT.trans (hB4.mono hT.size)
      have hB04 : Below w0.heap.size w0 w4 := hB.trans (hB4.mono hB.size)
      have u0 := (hB4.cell (p := ⟨w.heap.size, 0, none⟩) hwr).trans y0
      have u1 := (hB4.cell (p := ⟨w.heap.size, 1, none⟩) hwr).trans y1
      have hwr4 : w.heap.size < w4.heap.size := Nat.lt_of_lt_of_le hwr hB4.size
      have keepA : ∀ W, Below w4.heap.size w4 W → (W.cell? ⟨w.heap.size, 0, none⟩ = some (.slice aoc p.cl.length capc) ∧ W.cell? ⟨w.heap.size, 1, none⟩ = some (.slice (some ⟨b, off, none⟩) p.st.length cap) ∧ W.cell? ⟨wr.heap.size, 0, none⟩ = some (.slice ai ph.length ci) ∧ W.cell? ⟨wr.heap.size, 1, none⟩ = some (.int .i64 gr)) := fun W h => ⟨(h.cell (p := ⟨w.heap.size, 0, none⟩) hwr4).trans u0, (h.cell (p := ⟨w.heap.size, 1, none⟩) hwr4).trans u1, (h.cell (p := ⟨wr.heap.size, 0, none⟩) hz4).trans z0, (h.cell (p := ⟨wr.heap.size, 1, none⟩) hz4).trans z1⟩
      have KA := Lib.hid keepA
      clear keepA x0 x1 y0 y1 c0 c1
      go_region_held3 (fun w' => w'.cell? ⟨w.heap.size, 0, none⟩ = some (.slice aoc p.cl.length capc) ∧ w'.cell? ⟨w.heap.size, 1, none⟩ = some (.slice (some ⟨b, off, none⟩) p.st.length cap) ∧ w'.cell? ⟨wr.heap.size, 0, none⟩ = some (.slice ai ph.length ci) ∧ w'.cell? ⟨wr.heap.size, 1, none⟩ = some (.int .i64 gr))
        (first | exact KA.out _ hB5 | exact KA.out _ (Below.refl _ _) | go_keep | assumption)
        ((first
          | (go_at_call 119; refine (plan_next _ lo _ p j (HP0.out.below (hT4.trans ((Below.drew (Below.refl w4.heap.size w4)).mono hT4.size)) (Nat.le_refl _)) (by omega) h5).mono ?_; rintro e w5 ⟨v5, rfl, hI5, hB5'⟩; rw [← HNPH.out] at hI5; have hB5 : Below w4.heap.size w4 w5 := (Below.drew (Below.refl w4.heap.size w4)).trans hB5'; have hT5 : Below w.heap.size w w5 := hT4.trans (hB5.mono hT4.size))
          | (go_at_call 97; refine (impl_changeOf _ lo lo lo _ _ _ p.cl ph nph (HCL.out.below hT5 (Nat.le_refl _)) HVC.out (Rd.below HI.out hT5 (Nat.le_refl _) (by decide)) hI5 HS1.out HNM.out).mono ?_; rintro e w7 ⟨rfl, rfl⟩; rw [← HGP.out])))
      go_wp2
      go_roundw
      case rel => exact ⟨j + 1, by omega, by go_num, by rw [HSU.out, Int.add_assoc], hB04.trans (hB5.mono hB04.size)⟩
      case measure => simp [intOf]; omega
    · have hjk : j = k := by omega
      subst hjk
      go_wp2_with fail
      go_ret
      exact ⟨rfl, hT⟩
end Go.Proofs.Ytokpgipbgkiepaa
