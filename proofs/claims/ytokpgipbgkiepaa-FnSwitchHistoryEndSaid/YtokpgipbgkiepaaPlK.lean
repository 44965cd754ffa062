/- (Plan).cycle: the program's. -/
import Derived.Test.YtokpgipbgkiepaaPlJ
namespace Go.Proofs.Ytokpgipbgkiepaa
open Go.RowKit
set_option linter.unusedVariables false
set_option linter.unusedSimpArgs false

theorem cyc_bd {p : Pln} (h : validP p = true) : 5 ≤ cyc p ∧ cyc p ≤ 225 := by
  obtain ⟨hv, h1, h5, _⟩ := validP_iff.1 h
  have a := beg_bd h p.st.length (Nat.le_refl _)
  obtain ⟨n, hn⟩ : ∃ n, p.st.length = n + 1 := ⟨p.st.length - 1, by omega⟩
  have b := beg_bd h n (by omega)
  have c := validP_st h (i := n) (by omega)
  have d := gapA_bd h (i := n) (by omega)
  unfold cyc
  rw [hn] at a ⊢
  have e : beg p (n + 1) = beg p n + (p.st.getD n s0).gr + gapA p n := rfl
  push_cast at a
  omega

set_option maxHeartbeats 4000000 in
theorem plan_cycle (w : World) (lo : Nat) (vp : Value) (p : Pln) (hp : PlanR w lo vp p) (hval : validP p = true) :
    Calls Try.prog 83 #[vp] w fun e w' => e = .returned (.int .i64 (cyc p)) ∧ Below w.heap.size w w' := by
  have hp0 := hp
  obtain ⟨vc, vs, rfl, hc, hs⟩ := hp
  obtain ⟨hvc, h1, h5, _⟩ := validP_iff.1 hval
  obtain ⟨ao, cap, rfl, hcap, hm⟩ := hs.form
  obtain ⟨b, off, rfl, _, hb, hx⟩ := hs.spot (by omega)
  obtain ⟨aoc, capc, rfl, hcapc, hmc⟩ := hc.form
  have HP0 := Lib.hid hp0
  have HV := Lib.hid hval
  have hB0 : Below w.heap.size w (w.alloc (.cells #[.slice aoc p.cl.length capc, .slice (some ⟨b, off, none⟩) p.st.length cap] 26)) := (Below.refl _ _).alloc (Nat.le_refl _) _
  have x0 : (w.alloc (.cells #[.slice aoc p.cl.length capc, .slice (some ⟨b, off, none⟩) p.st.length cap] 26)).cell? ⟨w.heap.size, 0, none⟩ = some (.slice aoc p.cl.length capc) := by rw [cell_of_row _ w.heap.size 0 #[.slice aoc p.cl.length capc, .slice (some ⟨b, off, none⟩) p.st.length cap] 26 (0, 0) (heap_alloc_new w _)]; simp
  have x1 : (w.alloc (.cells #[.slice aoc p.cl.length capc, .slice (some ⟨b, off, none⟩) p.st.length cap] 26)).cell? ⟨w.heap.size, 1, none⟩ = some (.slice (some ⟨b, off, none⟩) p.st.length cap) := by rw [cell_of_row _ w.heap.size 1 #[.slice aoc p.cl.length capc, .slice (some ⟨b, off, none⟩) p.st.length cap] 26 (0, 0) (heap_alloc_new w _)]; simp
  have hz0 : w.heap.size < (w.alloc (.cells #[.slice aoc p.cl.length capc, .slice (some ⟨b, off, none⟩) p.st.length cap] 26)).heap.size := by simp
  clear hx hp0 hc hs hval hvc
  go_enter Try.func83, Try.ntmps83
  obtain ⟨w0, hw0⟩ : ∃ w0, w0 = w.alloc (.cells #[.slice aoc p.cl.length capc, .slice (some ⟨b, off, none⟩) p.st.length cap] 26) := ⟨_, rfl⟩
  go_wp2_with fail
  rw [← hw0] at hB0 ⊢
  refine (plan_beginOf _ lo _ p p.st.length (HP0.out.below hB0 (Nat.le_refl _)) HV.out (Nat.le_refl _)).mono ?_
  rintro e w5 ⟨rfl, hB5⟩
  go_wp2
  go_ret
  exact ⟨rfl, hB0.trans (hB5.mono hB0.size)⟩
end Go.Proofs.Ytokpgipbgkiepaa
