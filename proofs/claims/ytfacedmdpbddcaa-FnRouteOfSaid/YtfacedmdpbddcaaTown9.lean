/- Laws of travel times, in plain Lean. -/
import Derived.Test.YtfacedmdpbddcaaTown8
namespace Go.Proofs.Ytfacedmdpbddcaa
set_option linter.unusedVariables false
set_option linter.unusedSimpArgs false

theorem tt_dist {N S : Nat} {rs : List Rod} (hval : validR N rs = true) (hS : S < N) {v : Nat} (hv : v < N) : Dist rs S v ((times N rs S).getD v 0) := by
  have := dist_of hval (s := (S : Int)) (v := (v : Int)) (by omega) (by omega) (by omega) (by omega)
  simpa using this
theorem tt_road {N S : Nat} {rs : List Rod} (hval : validR N rs = true) (hS : S < N) {r : Rod} (hr : r ∈ rs) {F T : Nat} (hf : r.f = F) (ht : r.t = T) (h0 : 0 ≤ (times N rs S).getD F 0) :
    0 ≤ (times N rs S).getD T 0 ∧ (times N rs S).getD T 0 ≤ (times N rs S).getD F 0 + r.c := by
  have ok := okR_iff.1 (validR_mem hval hr)
  have dF := tt_dist hval hS (v := F) (by omega)
  have dT := tt_dist hval hS (v := T) (by omega)
  have := dT.2.2 _ (ht ▸ Way.snoc r (dF.2.1 h0) hr hf)
  exact this
theorem tt_self {N S : Nat} {rs : List Rod} (hval : validR N rs = true) (hS : S < N) : (times N rs S).getD S 0 = 0 := by
  have d := tt_dist hval hS (v := S) hS
  have := d.2.2 0 (.nil _)
  omega

def dbl (r : Rod) : Rod := ⟨r.f, r.t, 2 * r.c⟩
def dblx (x : Int) : Int := if x < 0 then -1 else 2 * x
theorem Way.dbl {rs : List Rod} {a b c : Int} (h : Way rs a b c) : Way (rs.map dbl) a b (2 * c) := by
  induction h with
  | nil => exact .nil _
  | @snoc b c r _ hr hf ih =>
    have := Way.snoc (Ytfacedmdpbddcaa.dbl r) ih (List.mem_map.2 ⟨r, hr, rfl⟩) hf
    rw [show 2 * c + (Ytfacedmdpbddcaa.dbl r).c = 2 * (c + r.c) by simp only [Ytfacedmdpbddcaa.dbl]; omega] at this
    exact this
theorem Way.undbl {rs : List Rod} {a b c : Int} (h : Way (rs.map Ytfacedmdpbddcaa.dbl) a b c) : ∃ d, c = 2 * d ∧ Way rs a b d := by
  induction h with
  | nil => exact ⟨0, by omega, .nil _⟩
  | snoc q _ hq hf ih =>
    obtain ⟨r, hr, rfl⟩ := List.mem_map.1 hq
    obtain ⟨d, hd, hw⟩ := ih
    exact ⟨d + r.c, by simp only [Ytfacedmdpbddcaa.dbl]; omega, Way.snoc r hw hr hf⟩
theorem Dist.dbl {rs : List Rod} {s v x : Int} (h : Dist rs s v x) : Dist (rs.map Ytfacedmdpbddcaa.dbl) s v (dblx x) := by
  unfold dblx
  refine ⟨by split <;> omega, fun h0 => ?_, fun c hc => ?_⟩
  · split at h0
    · omega
    · rw [if_neg (by assumption)]; exact (h.2.1 (by omega)).dbl
  · obtain ⟨d, hd, hw⟩ := hc.undbl
    have := h.2.2 d hw
    rw [if_neg (by omega)]; omega
theorem dbl_valid {N : Nat} {rs : List Rod} (hval : validR N rs = true) (h : ∀ r ∈ rs, 2 * r.c ≤ 60) : validR N (rs.map dbl) = true := by
  obtain ⟨a1, a2, a3, a4⟩ := validR_iff.1 hval
  refine validR_of a1 a2 (by simpa using a3) (fun q hq => ?_)
  obtain ⟨r, hr, rfl⟩ := List.mem_map.1 hq
  have ok := okR_iff.1 (validR_mem hval hr)
  have := h r hr
  rw [okR_iff]; simp only [dbl]; omega
theorem tt_dbl {N S : Nat} {rs : List Rod} (hval : validR N rs = true) (h : ∀ r ∈ rs, 2 * r.c ≤ 60) (hS : S < N) {v : Nat} (hv : v < N) :
    (times N (rs.map dbl) S).getD v 0 = dblx ((times N rs S).getD v 0) :=
  (tt_dist (dbl_valid hval h) hS hv).uniq (tt_dist hval hS hv).dbl

theorem less_valid {n : Int} {rs : List Rod} (hval : validR n rs = true) (k : Nat) : validR n (rs.take k) = true := by
  obtain ⟨a1, a2, a3, a4⟩ := validR_iff.1 hval
  exact validR_of a1 a2 (by rw [List.length_take]; omega) (fun r hr => validR_mem hval (List.mem_of_mem_take hr))
theorem tt_less {N S k : Nat} {rs : List Rod} (hval : validR N rs = true) (hS : S < N) {v : Nat} (hv : v < N) (h0 : 0 ≤ (times N (rs.take k) S).getD v 0) :
    0 ≤ (times N rs S).getD v 0 ∧ (times N rs S).getD v 0 ≤ (times N (rs.take k) S).getD v 0 :=
  (tt_dist hval hS hv).2.2 _ (((tt_dist (less_valid hval k) hS hv).2.1 h0).mono (fun r hr => List.mem_of_mem_take hr))
theorem tt_bd {N S : Nat} {rs : List Rod} (hval : validR N rs = true) (hS : S < N) {v : Nat} (hv : v < N) : -1 ≤ (times N rs S).getD v 0 ∧ (times N rs S).getD v 0 ≤ 20000 := by
  obtain ⟨a1, a2, a3, a4⟩ := validR_iff.1 hval
  exact times_bnd (fun r hr => validR_mem hval hr) a3 hS (by omega) v (by rw [times_len]; exact hv)

theorem ttL_pos {n : Int} {rs : List Rod} {s : Int} (h : (ttL n rs s).length ≠ 0) : ∃ N S : Nat, n = N ∧ s = S ∧ S < N ∧ N ≤ 8 ∧ validR N rs = true ∧ ttL n rs s = times N rs S := by
  unfold ttL at h ⊢
  by_cases ha : askT n rs s = true
  · obtain ⟨h1, h2, h3⟩ := askT_iff.1 ha
    obtain ⟨a1, a2, _, _⟩ := validR_iff.1 h1
    refine ⟨n.toNat, s.toNat, by omega, by omega, by omega, by omega, ?_, if_pos ha⟩
    rw [show ((n.toNat : Nat) : Int) = n by omega]; exact h1
  · rw [if_neg ha] at h; simp at h
end Go.Proofs.Ytfacedmdpbddcaa
