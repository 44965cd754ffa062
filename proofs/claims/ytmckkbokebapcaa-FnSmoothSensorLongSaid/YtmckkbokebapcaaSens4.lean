/- Smoothing, as a plain function, and its laws; no program. -/
import Derived.Test.YtmckkbokebapcaaSens3
namespace Go.Proofs.Ytmckkbokebapcaa

/-- State and number of differing readings behind k readings. -/
def smS (xs : List Bool) (h : Nat) : Nat → Bool × Nat
  | 0 => (false, 0)
  | k + 1 => if xs.getD k false = (smS xs h k).1 then ((smS xs h k).1, 0) else if (smS xs h k).2 + 1 = h then (xs.getD k false, 0) else ((smS xs h k).1, (smS xs h k).2 + 1)

def smOut (xs : List Bool) (h k : Nat) : List Bool := (List.range k).map fun i => (smS xs h (i + 1)).1

theorem smS_lt (xs : List Bool) {h : Nat} (hh : 1 ≤ h) (k : Nat) : (smS xs h k).2 < h := by
  induction k with
  | zero => simp [smS]; omega
  | succ k ih => simp only [smS]; split <;> (try split) <;> simp <;> omega

theorem smOut_len (xs : List Bool) (h k : Nat) : (smOut xs h k).length = k := by simp [smOut]
theorem smOut_succ (xs : List Bool) (h k : Nat) : smOut xs h (k + 1) = smOut xs h k ++ [(smS xs h (k + 1)).1] := by
  simp [smOut, List.range_succ]
theorem smOut_getD (xs : List Bool) (h k i : Nat) (hi : i < k) : (smOut xs h k).getD i false = (smS xs h (i + 1)).1 := by
  simp [smOut, hi]

theorem sm_change (xs : List Bool) (h k : Nat) (hne : (smS xs h (k + 1)).1 ≠ (smS xs h k).1) : (smS xs h (k + 1)).1 = xs.getD k false := by
  simp only [smS] at hne ⊢
  split at hne
  · simp at hne
  · split at hne
    · rename_i a b; rw [if_neg a, if_pos b]
    · simp at hne

theorem sm_one (xs : List Bool) (k : Nat) : smS xs 1 (k + 1) = (xs.getD k false, 0) := by
  have := smS_lt xs (h := 1) (by omega) k
  simp only [smS]
  split
  · rename_i a; rw [a]
  · split
    · rfl
    · omega

theorem smOut_one (xs : List Bool) : smOut xs 1 xs.length = xs := by
  apply List.ext_getElem (by simp [smOut])
  intro i h1 h2
  simp only [smOut, List.getElem_map, List.getElem_range]
  rw [sm_one]
  simp [h2]

theorem prevB_out (xs : List Bool) (h n k : Nat) (hk : k ≤ n) : prevB (smOut xs h n) k = (smS xs h k).1 := by
  cases k with
  | zero => simp [prevB, smS]
  | succ k =>
    simp only [prevB, Nat.add_eq_zero_iff, Nat.one_ne_zero, and_false, if_false, Nat.add_sub_cancel]
    exact smOut_getD xs h n k (by omega)

theorem prevB_succ (xs : List Bool) (k : Nat) : prevB xs (k + 1) = xs.getD k false := by simp [prevB]

theorem sm_rises (xs : List Bool) (h n k : Nat) (hk : k ≤ n) :
    riseN (smOut xs h n) k ≤ riseN xs k ∧ ((smS xs h k).1 = false → prevB xs k = true → riseN (smOut xs h n) k + 1 ≤ riseN xs k) := by
  induction k with
  | zero => simp [riseN, prevB]
  | succ k ih =>
    obtain ⟨i1, i2⟩ := ih (by omega)
    have hc := sm_change xs h k
    rw [prevB_succ]
    simp only [riseN]
    rw [smOut_getD xs h n k (by omega), prevB_out xs h n k (by omega)]
    cases hs : (smS xs h (k + 1)).1 <;> cases hs' : (smS xs h k).1 <;> cases hx : xs.getD k false <;> cases hp : prevB xs k <;> simp_all <;> omega

theorem sm_law (xs : List Bool) (h : Nat) (hl : xs.length ≤ 150) : rises (smOut xs h xs.length) ≤ rises xs := by
  have := (sm_rises xs h xs.length xs.length (Nat.le_refl _)).1
  unfold rises
  rw [smOut_len, if_pos hl, if_pos hl]
  omega

theorem sm_calm_aux (xs : List Bool) (h : Nat) (c : Bool) (a j : Nat) (hx : ∀ i, i < j → xs.getD (a + i) false = c) :
    (smS xs h (a + j)).1 = c ∨ j ≤ (smS xs h (a + j)).2 := by
  induction j with
  | zero => right; omega
  | succ j ih =>
    have hj := hx j (by omega)
    have := ih (fun i hi => hx i (by omega))
    rw [show a + (j + 1) = a + j + 1 by omega]
    simp only [smS, hj]
    split
    · rename_i e; left; simp [e]
    · split
      · left; rfl
      · rename_i e _
        rcases this with h1 | h1
        · exact absurd h1.symm e
        · right; simp; omega

theorem sm_calm (xs : List Bool) (h : Nat) (hh : 1 ≤ h) (hs : stuck xs h = true) : (smS xs h xs.length).1 = xs.getD (xs.length - 1) false := by
  obtain ⟨h1, h2, h3, h4⟩ := stuck_iff.1 hs
  have := sm_calm_aux xs h (xs.getD (xs.length - 1) false) (xs.length - h) h (fun i hi => by have := h4 i (by simpa using hi); simpa using this)
  rw [show xs.length - h + h = xs.length by omega] at this
  rcases this with h5 | h5
  · exact h5
  · have := smS_lt xs hh xs.length; omega

/-- Each of the first m readings h times. -/
def long (xs : List Bool) (h m : Nat) : List Bool := (List.range (m * h)).map fun i => xs.getD (i / h) false
theorem long_len (xs : List Bool) (h m : Nat) : (long xs h m).length = m * h := by simp [long]
theorem long_getD (xs : List Bool) {h m k j : Nat} (hj : j < h) (hk : k < m) : (long xs h m).getD (k * h + j) false = xs.getD k false := by
  have hlt : k * h + j < m * h := by
    have : (k + 1) * h ≤ m * h := Nat.mul_le_mul_right _ hk
    rw [Nat.add_mul] at this; omega
  have hdiv : (k * h + j) / h = k := by
    rw [Nat.add_comm, Nat.add_mul_div_right _ _ (by omega : 0 < h), Nat.div_eq_of_lt hj]; omega
  simp [long, hlt, hdiv]

theorem long_block (xs : List Bool) (h m k : Nat) (hk : k < m) (s : Bool) (hS : smS (long xs h m) h (k * h) = (s, 0)) (_hp : prevB (long xs h m) (k * h) = s)
    (j : Nat) (hj : j ≤ h) :
    (smS (long xs h m) h (k * h + j) = if xs.getD k false = s then (s, 0) else if j = h then (xs.getD k false, 0) else (s, j)) ∨ (j = 0) := by
  induction j with
  | zero => exact .inr rfl
  | succ j ih =>
    left
    have hx := long_getD xs (h := h) (m := m) (k := k) (j := j) (by omega) hk
    have ih := ih (by omega)
    have hprev : smS (long xs h m) h (k * h + j) = if xs.getD k false = s then (s, 0) else (s, j) := by
      rcases ih with e | e
      · rw [e]; split
        · rfl
        · rw [if_neg (by omega)]
      · subst e; rw [Nat.add_zero, hS]; split <;> rfl
    rw [show k * h + (j + 1) = k * h + j + 1 by omega]
    simp only [smS, hx]
    rw [hprev]
    by_cases e : xs.getD k false = s
    · rw [if_pos e, if_pos e]
      simp only [e, if_true]
    · rw [if_neg e, if_neg e]

theorem long_rises (xs : List Bool) (h m N : Nat) (hh : 1 ≤ h) (hN : m * h ≤ N) (k : Nat) (hk : k ≤ m) :
    smS (long xs h m) h (k * h) = (prevB (long xs h m) (k * h), 0) ∧ riseN (smOut (long xs h m) h N) (k * h) = riseN (long xs h m) (k * h) := by
  induction k with
  | zero => simp [smS, prevB, riseN]
  | succ k ih =>
    obtain ⟨i1, i2⟩ := ih (by omega)
    have hkm : (k + 1) * h ≤ m * h := Nat.mul_le_mul_right _ hk
    have hk1 : (k + 1) * h = k * h + h := by rw [Nat.add_mul]; omega
    have B := fun j hj => long_block xs h m k (by omega) (prevB (long xs h m) (k * h)) i1 rfl j hj
    have hp : prevB (long xs h m) ((k + 1) * h) = xs.getD k false := by
      rw [hk1, show k * h + h = k * h + (h - 1) + 1 by omega, prevB_succ]
      exact long_getD xs (by omega) (by omega)
    have hS : smS (long xs h m) h ((k + 1) * h) = (xs.getD k false, 0) := by
      rw [hk1]
      rcases B h (Nat.le_refl _) with e | e
      · rw [e]; split
        · rename_i e'; rw [e']
        · simp
      · omega
    refine ⟨by rw [hp]; exact hS, ?_⟩
    -- the rises inside the block
    have R : ∀ j, j ≤ h → riseN (long xs h m) (k * h + j) = riseN (long xs h m) (k * h) + (if 0 < j ∧ xs.getD k false = true ∧ prevB (long xs h m) (k * h) = false then 1 else 0) ∧
        riseN (smOut (long xs h m) h N) (k * h + j) = riseN (smOut (long xs h m) h N) (k * h) + (if j = h ∧ xs.getD k false = true ∧ prevB (long xs h m) (k * h) = false then 1 else 0) := by
      intro j hj
      induction j with
      | zero => 
        have : ¬ (0 = h) := by omega
        simp [this]
      | succ j ihj =>
        obtain ⟨r1, r2⟩ := ihj (by omega)
        have hx := long_getD xs (h := h) (m := m) (k := k) (j := j) (by omega) (by omega)
        rw [show k * h + (j + 1) = k * h + j + 1 by omega]
        simp only [riseN]
        rw [hx, smOut_getD _ _ _ _ (by omega), prevB_out _ _ _ _ (by omega), r1, r2]
        have b1 := B (j + 1) (by omega)
        rw [show k * h + (j + 1) = k * h + j + 1 by omega] at b1
        have b1 : smS (long xs h m) h (k * h + j + 1) = _ := b1.resolve_right (by omega)
        rw [b1]
        by_cases h0 : j = 0
        · subst h0
          simp only [Nat.add_zero, i1]
          cases hx0 : xs.getD k false <;> cases hp0 : prevB (long xs h m) (k * h) <;> by_cases h1 : 1 = h <;> simp_all
          all_goals omega
        · have b0 := (B j (by omega)).resolve_right h0
          have hpj : prevB (long xs h m) (k * h + j) = xs.getD k false := by
            rw [show k * h + j = k * h + (j - 1) + 1 by omega, prevB_succ]
            exact long_getD xs (by omega) (by omega)
          rw [b0, hpj]
          have hj0 : 0 < j := by omega
          have hjh : j ≠ h := by omega
          cases hx0 : xs.getD k false <;> cases hp0 : prevB (long xs h m) (k * h) <;> by_cases h1 : j + 1 = h <;> simp_all
          all_goals omega
    have := R h (Nat.le_refl _)
    rw [hk1, this.1, this.2, i2]
    have h0 : 0 < h := by omega
    simp [h0]

theorem long_law (xs : List Bool) (h m : Nat) (hh : 1 ≤ h) : rises (smOut (long xs h m) h (m * h)) = rises (long xs h m) := by
  have := (long_rises xs h m (m * h) hh (Nat.le_refl _) m (Nat.le_refl _)).2
  unfold rises
  rw [smOut_len, long_len, this]

def sm0 (xs : List Bool) (h : Nat) : List Bool := smOut xs h xs.length
theorem long_succ (xs : List Bool) (h m : Nat) : long xs h (m + 1) = long xs h m ++ List.replicate h (xs.getD m false) := by
  apply List.ext_getElem (by simp [long_len, Nat.add_mul])
  intro i h1 h2
  rw [long_len] at h1
  have hm : (m + 1) * h = m * h + h := by rw [Nat.add_mul]; omega
  by_cases hi : i < m * h
  · rw [List.getElem_append_left (by rw [long_len]; exact hi)]
    simp [long]
  · rw [List.getElem_append_right (by rw [long_len]; omega)]
    have h0 : 0 < h := by omega
    have : i / h = m := by
      rw [show i = (i - m * h) + m * h by omega, Nat.add_mul_div_right _ _ h0, Nat.div_eq_of_lt (by omega)]; omega
    simp [long, this]

theorem sm_long (xs : List Bool) (h m : Nat) (h1 : 1 ≤ h) (h9 : h ≤ 9) (hm : m * h ≤ 150) : rises (sm0 (long xs h m) h) = rises (long xs h m) := by
  have := long_law xs h m h1
  unfold sm0
  rw [long_len]
  exact this

theorem sm_alt (xs : List Bool) (h k : Nat) (hk : k < xs.length) : (smOut xs h xs.length).getD k false = prevB (smOut xs h xs.length) k ∨ (smOut xs h xs.length).getD k false = xs.getD k false := by
  rw [smOut_getD _ _ _ _ hk, prevB_out _ _ _ _ (by omega)]
  by_cases h' : (smS xs h (k + 1)).1 = (smS xs h k).1
  · exact .inl h'
  · exact .inr (sm_change xs h k h')
end Go.Proofs.Ytmckkbokebapcaa
