/- (Plan).next: the program's. -/
import Derived.Test.YtokpgipbgkiepaaPlH
import Derived.Deep.QuietTactic
import Derived.BigQuiet
import Derived.IntWalk
namespace Go.Proofs.Ytokpgipbgkiepaa
open Go.RowKit
set_option linter.unusedVariables false
set_option linter.unusedSimpArgs false

def NextRet (w : World) (lo : Nat) (ph : List Int) (e : Ending) (w' : World) : Prop := ∃ v', e = .returned v' ∧ Ints w' lo v' ph ∧ Below w.heap.size w w'

set_option maxHeartbeats 4000000 in
theorem plan_next (w : World) (lo : Nat) (vp : Value) (p : Pln) (i : Nat) (hp : PlanR w lo vp p) (hi : i < p.st.length) (h5 : p.st.length ≤ 5) :
    Calls Try.prog 119 #[vp, .int .i64 i] w (NextRet w lo (p.st.getD ((i + 1) % p.st.length) s0).ph) := by
  obtain ⟨vc, vs, rfl, hc, hs⟩ := hp
  obtain ⟨ao, cap, rfl, hcap, hm⟩ := hs.form
  obtain ⟨b, off, rfl, _, hb, hx⟩ := hs.spot (by omega)
  obtain ⟨q, hq⟩ : ∃ q, q = (i + 1) % p.st.length := ⟨_, rfl⟩
  have hq1 : q < p.st.length := by rw [hq]; exact Nat.mod_lt _ (by omega)
  obtain ⟨_, ai, ci, h1, hI⟩ := hx q hq1
  rw [← hq]
  obtain ⟨ph, hph⟩ : ∃ ph, ph = (p.st.getD q s0).ph := ⟨_, rfl⟩
  rw [← hph] at h1 hI ⊢
  obtain ⟨aoc, capc, rfl, _, _⟩ := hc.form
  have wr1 : IntKind.i64.wrap ((i : Int) + 1) = (i : Int) + 1 := IntWalk.i64_in _ (by omega)
  have e1 : (((i : Int) + 1) % (p.st.length : Int)).toNat = q := by rw [hq, show ((i : Int) + 1) = ((i + 1 : Nat) : Int) by omega, ← Int.natCast_emod, Int.toNat_natCast]
  have m1 : 0 ≤ ((i : Int) + 1) % (p.st.length : Int) := Int.emod_nonneg _ (by omega)
  have m2 : ((i : Int) + 1) % (p.st.length : Int) < (p.st.length : Int) := Int.emod_lt_of_pos _ (by omega)
  have m3 : ((i : Int) + 1).tmod (p.st.length : Int) = ((i : Int) + 1) % (p.st.length : Int) := Int.tmod_eq_emod_of_nonneg (by omega)
  have m4 : ¬ (p.st.length : Int) = 0 := by omega
  have m5 : 0 ≤ (i : Int) + 1 := by omega
  have HI := Lib.hid hI
  have hbw : Hid (b < w.heap.size) := hb
  clear hx hq hph hI hs hc
  go_enter Try.func119, Try.ntmps119
  go_wp2_with fail
  go_quiet (fail)
  go_wp2
  go_ret
  exact ⟨_, rfl, Rd.below (Rd.below HI.out ((Below.refl _ _).alloc (Nat.le_refl _) _) (Nat.le_refl _) (by decide)) (below_drewN (Below.refl _ _) _) (Nat.le_refl _) (by decide), below_drewN ((Below.refl _ _).alloc (Nat.le_refl _) _) _⟩
end Go.Proofs.Ytokpgipbgkiepaa
