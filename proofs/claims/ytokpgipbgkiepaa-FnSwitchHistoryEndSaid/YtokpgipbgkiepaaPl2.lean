/- Plain functions on plans: the stage at a second, the movements with green, the tram's wait; no program. -/
import Derived.Test.YtokpgipbgkiepaaPlK
namespace Go.Proofs.Ytokpgipbgkiepaa
set_option linter.unusedVariables false
set_option linter.unusedSimpArgs false

theorem beg_succ (p : Pln) (i : Nat) : beg p (i + 1) = beg p i + (p.st.getD i s0).gr + gapA p i := rfl
theorem beg_step {p : Pln} (h : validP p = true) {i : Nat} (hi : i < p.st.length) : beg p i + 5 ≤ beg p i + (p.st.getD i s0).gr ∧ beg p i + (p.st.getD i s0).gr ≤ beg p (i + 1) := by
  have a := validP_st h hi
  have b := gapA_bd h hi
  rw [beg_succ]; omega
theorem beg_mono {p : Pln} (h : validP p = true) {i j : Nat} (hij : i ≤ j) (hj : j ≤ p.st.length) : beg p i ≤ beg p j := by
  induction j with
  | zero => obtain rfl : i = 0 := by omega
            exact Int.le_refl _
  | succ j ih =>
    by_cases e : i = j + 1
    · subst e; exact Int.le_refl _
    · have := ih (by omega) (by omega)
      have := beg_step h (i := j) (by omega)
      omega

/-- The stage at a second of the cycle. -/
def stgAt (p : Pln) (s : Int) : Nat := ((List.range p.st.length).find? fun i => decide (s < beg p (i + 1))).getD 0
theorem stgAt_eq {p : Pln} (h : validP p = true) {i : Nat} (hi : i < p.st.length) {s : Int} (h1 : beg p i ≤ s) (h2 : s < beg p (i + 1)) : stgAt p s = i := by
  unfold stgAt
  rw [List.find?_range_eq_some.2 ⟨by simpa using h2, List.mem_range.2 hi, fun j hj => by
    have := beg_mono h (i := j + 1) (j := i) (by omega) (by omega)
    simp; omega⟩]
  rfl
theorem stg_ex {p : Pln} {s : Int} (h0 : 0 ≤ s) : ∀ k, s < beg p k → ∃ i, i < k ∧ beg p i ≤ s ∧ s < beg p (i + 1) := by
  intro k
  induction k with
  | zero => intro h; simp [beg] at h; omega
  | succ k ih =>
    intro h
    by_cases e : s < beg p k
    · obtain ⟨i, hi, h'⟩ := ih e; exact ⟨i, by omega, h'⟩
    · exact ⟨k, by omega, by omega, h⟩
theorem stgAt_spec {p : Pln} (h : validP p = true) {s : Int} (h0 : 0 ≤ s) (h1 : s < cyc p) : stgAt p s < p.st.length ∧ beg p (stgAt p s) ≤ s ∧ s < beg p (stgAt p s + 1) := by
  obtain ⟨i, hi, a, b⟩ := stg_ex h0 p.st.length h1
  rw [stgAt_eq h hi a b]
  exact ⟨hi, a, b⟩

/-- The phase of a stage, and of the next one. -/
def phA (p : Pln) (i : Nat) : List Int := (p.st.getD i s0).ph
def nxA (p : Pln) (i : Nat) : List Int := (p.st.getD ((i + 1) % p.st.length) s0).ph
/-- The movements with green. -/
def grn (p : Pln) (s : Int) : List Int := if s - beg p (stgAt p s) < (p.st.getD (stgAt p s) s0).gr then phA p (stgAt p s) else (phA p (stgAt p s)).filter fun m => hasB (nxA p (stgAt p s)) m

/-- Two ascending lists with the same members are the same. -/
theorem asc_ext : ∀ (l m : List Int), l.Pairwise (· < ·) → m.Pairwise (· < ·) → (∀ x, x ∈ l ↔ x ∈ m) → l = m := by
  intro l
  induction l with
  | nil =>
    intro m _ _ h
    cases m with
    | nil => rfl
    | cons b m => exact absurd ((h b).2 (by simp)) (by simp)
  | cons a l ih =>
    intro m hl hm h
    cases m with
    | nil => exact absurd ((h a).1 (by simp)) (by simp)
    | cons b m =>
      rw [List.pairwise_cons] at hl hm
      have hab : a = b := by
        have h1 := (h a).1 (by simp)
        have h2 := (h b).2 (by simp)
        rcases List.mem_cons.1 h1 with e | h1
        · exact e
        · rcases List.mem_cons.1 h2 with e | h2
          · exact e.symm
          · have := hm.1 a h1; have := hl.1 b h2; omega
      subst hab
      rw [ih m hl.2 hm.2 (fun x => ⟨fun hx => by
        rcases List.mem_cons.1 ((h x).1 (List.mem_cons_of_mem _ hx)) with e | h'
        · subst e; have := hl.1 x hx; omega
        · exact h', fun hx => by
        rcases List.mem_cons.1 ((h x).2 (List.mem_cons_of_mem _ hx)) with e | h'
        · subst e; have := hm.1 x hx; omega
        · exact h'⟩)]
theorem asc_pair {xs : List Int} (h : ascB xs = true) : xs.Pairwise (· < ·) := by
  have h' := ascB_iff.1 h
  have key : ∀ j, j < xs.length → ∀ i, i < j → xs.getD i 0 < xs.getD j 0 := by
    intro j
    induction j with
    | zero => intro _ i hi; omega
    | succ j ih =>
      intro hj i hi
      have a : xs.getD j 0 < xs.getD (j + 1) 0 := by
        rcases h' (j + 1) hj with e | e
        · omega
        · simpa using e
      by_cases e : i = j
      · subst e; exact a
      · have := ih (by omega) i (by omega); omega
  rw [List.pairwise_iff_getElem]
  intro i j hi hj hij
  have := key j hj i hij
  simpa [hi, hj] using this
/-- 0, 1, .. n-1. -/
def upto (n : Nat) : List Int := (List.range n).map fun (i : Nat) => (i : Int)
theorem upto_succ (n : Nat) : upto (n + 1) = upto n ++ [(n : Int)] := by unfold upto; rw [List.range_succ, List.map_append]; rfl
theorem upto_mem {n : Nat} {x : Int} : x ∈ upto n ↔ 0 ≤ x ∧ x < n := by
  simp only [upto, List.mem_map, List.mem_range]
  constructor
  · rintro ⟨a, h, rfl⟩; omega
  · rintro ⟨h1, h2⟩; exact ⟨x.toNat, by omega, by omega⟩
theorem upto_asc (n : Nat) : (upto n).Pairwise (· < ·) := by
  induction n with
  | zero => simp [upto]
  | succ n ih =>
    rw [upto_succ, List.pairwise_append]
    exact ⟨ih, by simp, fun a ha b hb => by have := (upto_mem.1 ha).2; simp at hb; omega⟩
/-- The movements of a phase that keep their green, in the reference's order. -/
theorem upto_filter {ph nx : List Int} {n : Nat} (h : movesB ph n = true) : ((upto n).filter fun m => hasB ph m && hasB nx m) = ph.filter fun m => hasB nx m := by
  have hh := h
  unfold movesB at hh
  rw [Bool.and_eq_true] at hh
  refine asc_ext _ _ ((upto_asc n).filter _) ((asc_pair hh.2).filter _) (fun x => ?_)
  have hin := allB_iff.1 hh.1
  simp only [List.mem_filter, Bool.and_eq_true, hasB_mem, upto_mem]
  constructor
  · rintro ⟨_, h1, h2⟩; exact ⟨h1, h2⟩
  · rintro ⟨h1, h2⟩; have := hin x h1; exact ⟨⟨by omega, by omega⟩, h1, h2⟩

/-! The tram. -/
def tw (p : Pln) (st : Nat) (s : Int) : Int :=
  if (s % cyc p - beg p st + cyc p) % cyc p < (p.st.getD st s0).gr then 0 else cyc p - (s % cyc p - beg p st + cyc p) % cyc p
def tgr (p : Pln) (st : Nat) (s : Int) : Bool := decide (beg p st ≤ s % cyc p) && decide (s % cyc p < beg p st + (p.st.getD st s0).gr)
theorem emod_two {x c : Int} (hc : 0 < c) (h0 : 0 ≤ x) (h1 : x < 2 * c) : x % c = if x < c then x else x - c := by
  split
  · exact Int.emod_eq_of_lt h0 (by assumption)
  · rw [show x = (x - c) + c by omega, Int.add_emod_right]
    rw [Int.emod_eq_of_lt (by omega) (by omega)]; omega
theorem tw_core {c b g s n : Int} (hc : 0 < c) (hb : 0 ≤ b) (hg : 0 < g) (hbg : b + g ≤ c) (hs : 0 ≤ s) (hn0 : 0 ≤ n) (hn : n ≤ c) :
    (s + n) % c = (if s % c + n < c then s % c + n else s % c + n - c) ∨ n = c ∧ (s + n) % c = s % c := by
  have hm := Int.emod_nonneg s (show c ≠ 0 by omega)
  have hm2 := Int.emod_lt_of_pos s hc
  left
  rw [← Int.emod_add_emod, emod_two hc (by omega) (by omega)]
/-- The numbers of a stage of a valid plan. -/
theorem st_nums {p : Pln} (h : validP p = true) {st : Nat} (hst : st < p.st.length) : 5 ≤ cyc p ∧ cyc p ≤ 225 ∧ 0 ≤ beg p st ∧ 5 ≤ (p.st.getD st s0).gr ∧ (p.st.getD st s0).gr ≤ 40 ∧ beg p st + (p.st.getD st s0).gr ≤ cyc p := by
  have a := cyc_bd h
  have b := beg_bd h st (by omega)
  have c := validP_st h hst
  have d := beg_step h hst
  have e := beg_mono h (i := st + 1) (j := p.st.length) (by omega) (Nat.le_refl _)
  have f : cyc p = beg p p.st.length := rfl
  omega
theorem tw_at {p : Pln} (h : validP p = true) {st : Nat} (hst : st < p.st.length) {s : Int} (hs : 0 ≤ s) {n : Int} (hn0 : 0 ≤ n) (hn : n ≤ tw p st s) :
    tgr p st (s + n) = decide (n = tw p st s) := by
  obtain ⟨h1, h2, h3, h4, h5, h6⟩ := st_nums h hst
  unfold tw at hn ⊢
  unfold tgr
  generalize cyc p = c at *
  generalize beg p st = b at *
  generalize (p.st.getD st s0).gr = g at *
  have hm := Int.emod_nonneg s (show c ≠ 0 by omega)
  have hm2 := Int.emod_lt_of_pos s (show 0 < c by omega)
  have hpa := emod_two (x := s % c - b + c) (c := c) (by omega) (by omega) (by omega)
  have hnc : n ≤ c := by rw [hpa] at hn; split at hn <;> split at hn <;> omega
  have hx : (s + n) % c = if s % c + n < c then s % c + n else s % c + n - c := by
    rw [← Int.emod_add_emod, emod_two (by omega) (by omega) (by omega)]
  rw [hx]
  rw [hpa] at hn ⊢
  generalize s % c = m at *
  rw [Bool.eq_iff_iff]
  simp only [Bool.and_eq_true, decide_eq_true_eq]
  clear hpa hx
  constructor
  · rintro ⟨q1, q2⟩
    split at q1 <;> split at hn <;> split at hn <;> (try split) <;> (try split) <;> omega
  · intro q
    split at q <;> split at q <;> split <;> omega
theorem tw_bd {p : Pln} (h : validP p = true) {st : Nat} (hst : st < p.st.length) {s : Int} (hs : 0 ≤ s) : 0 ≤ tw p st s ∧ tw p st s < cyc p := by
  obtain ⟨h1, h2, h3, h4, h5, h6⟩ := st_nums h hst
  unfold tw
  have := Int.emod_nonneg (s % cyc p - beg p st + cyc p) (show cyc p ≠ 0 by omega)
  have := Int.emod_lt_of_pos (s % cyc p - beg p st + cyc p) (show 0 < cyc p by omega)
  split <;> omega
theorem tw_zero {p : Pln} (h : validP p = true) {st : Nat} (hst : st < p.st.length) {s : Int} (hs : 0 ≤ s) : tw p st s = 0 ↔ tgr p st s = true := by
  have b := tw_bd h hst hs
  have := tw_at h hst hs (n := 0) (by omega) b.1
  rw [Int.add_zero] at this
  rw [this, decide_eq_true_eq]; exact ⟨fun e => e.symm, fun e => e.symm⟩
theorem tw_cyc (p : Pln) (st : Nat) (s : Int) : tw p st (s + cyc p) = tw p st s := by
  have e : (s + cyc p) % cyc p = s % cyc p := Int.add_emod_right ..
  unfold tw; rw [e]
theorem tw_start {p : Pln} (h : validP p = true) : tw p 0 0 = 0 := by
  obtain ⟨_, h1, _⟩ := validP_iff.1 h
  obtain ⟨q1, q2, q3, q4, q5, q6⟩ := st_nums h (st := 0) (by omega)
  have hb : beg p 0 = 0 := rfl
  unfold tw
  rw [hb, if_pos]
  rw [Int.zero_emod, show (0 : Int) - 0 + cyc p = cyc p by omega, Int.emod_self]; omega
theorem tw_reach {p : Pln} (h : validP p = true) {st : Nat} (hst : st < p.st.length) {s : Int} (hs : 0 ≤ s) : tw p st (s + tw p st s) = 0 := by
  have b := tw_bd h hst hs
  rw [tw_zero h hst (by omega), tw_at h hst hs b.1 (Int.le_refl _)]
  simp
theorem tw_before {p : Pln} (h : validP p = true) {st : Nat} (hst : st < p.st.length) {s : Int} (hs : 0 ≤ s) (h0 : tw p st s ≠ 0) : tw p st (s + tw p st s - 1) = 1 := by
  have b := tw_bd h hst hs
  have g1 := tw_at h hst hs (n := tw p st s - 1) (by omega) (by omega)
  have g2 := tw_at h hst hs (n := tw p st s) (by omega) (by omega)
  obtain ⟨x, hx⟩ : ∃ x, x = s + tw p st s - 1 := ⟨_, rfl⟩
  rw [show s + (tw p st s - 1) = x by omega, decide_eq_false (by omega)] at g1
  rw [show s + tw p st s = x + 1 by omega, decide_eq_true rfl] at g2
  rw [← hx]
  have hx0 : 0 ≤ x := by omega
  have bx := tw_bd h hst hx0
  have n0 : tw p st x ≠ 0 := fun e => by rw [(tw_zero h hst hx0).1 e] at g1; cases g1
  have := tw_at h hst hx0 (n := 1) (by omega) (by omega)
  rw [g2] at this
  have := of_decide_eq_true this.symm
  omega
/-- The reference's test. -/
theorem tgr_stg {p : Pln} (h : validP p = true) {st : Nat} (hst : st < p.st.length) {s : Int} (hs : 0 ≤ s) :
    (decide (stgAt p (s % cyc p) = st) && decide (s % cyc p - beg p (stgAt p (s % cyc p)) < (p.st.getD (stgAt p (s % cyc p)) s0).gr)) = tgr p st s := by
  obtain ⟨h1, h2, h3, h4, h5, h6⟩ := st_nums h hst
  have hm := Int.emod_nonneg s (show cyc p ≠ 0 by omega)
  have hm2 := Int.emod_lt_of_pos s (show 0 < cyc p by omega)
  obtain ⟨q1, q2, q3⟩ := stgAt_spec h hm hm2
  unfold tgr
  rw [Bool.eq_iff_iff]
  simp only [Bool.and_eq_true, decide_eq_true_eq]
  constructor
  · rintro ⟨rfl, q⟩; omega
  · rintro ⟨a, b⟩
    have hs2 := beg_step h hst
    have e := stgAt_eq h hst a (by omega)
    rw [e]; omega
/-- While the tram's stage has green, its phase has. -/
theorem grn_tram {p : Pln} (h : validP p = true) {st : Nat} (hst : st < p.st.length) {s : Int} (hs : 0 ≤ s) (hg : tgr p st s = true) : grn p (s % cyc p) = phA p st := by
  rw [← tgr_stg h hst hs, Bool.and_eq_true, decide_eq_true_eq, decide_eq_true_eq] at hg
  unfold grn
  rw [if_pos hg.2, hg.1]

/-! The time of the switch. -/
def swt (c from_ : Int) : Int := (from_ + c - 1) / c * c
theorem swt_bd {c f : Int} (hc : 5 ≤ c) (hf : 0 ≤ f) : f ≤ swt c f ∧ swt c f < f + c ∧ swt c f % c = 0 := by
  unfold swt
  have h1 := Int.emod_add_mul_ediv (f + c - 1) c
  have h2 := Int.emod_nonneg (f + c - 1) (show c ≠ 0 by omega)
  have h3 := Int.emod_lt_of_pos (f + c - 1) (show 0 < c by omega)
  rw [Int.mul_comm] at h1
  refine ⟨by omega, by omega, ?_⟩
  rw [Int.mul_emod_left]
end Go.Proofs.Ytokpgipbgkiepaa
