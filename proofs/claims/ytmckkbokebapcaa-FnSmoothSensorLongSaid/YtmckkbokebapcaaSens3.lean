/- Plain facts on readings, no program. -/
import Derived.Test.YtmckkbokebapcaaSens1
namespace Go.Proofs.Ytmckkbokebapcaa

theorem stuck_iff {xs : List Bool} {n : Int} : stuck xs n = true ↔ xs.length ≤ 150 ∧ 1 ≤ n ∧ n ≤ xs.length ∧ ∀ j, j < n.toNat → xs.getD (xs.length - n.toNat + j) false = xs.getD (xs.length - 1) false := by
  unfold stuck
  simp only [Bool.and_eq_true, decide_eq_true_eq, List.all_eq_true, List.mem_range, beq_iff_eq]
  constructor
  · rintro ⟨⟨⟨h1, h2⟩, h3⟩, h⟩; exact ⟨h1, h2, h3, h⟩
  · rintro ⟨h1, h2, h3, h⟩; exact ⟨⟨⟨h1, h2⟩, h3⟩, h⟩

theorem stuck_less {xs : List Bool} {n : Int} (h : stuck xs n = true) (hn : n ≠ 1) : stuck xs (n - 1) = true := by
  rw [stuck_iff] at h ⊢
  obtain ⟨h1, h2, h3, h⟩ := h
  refine ⟨h1, by omega, by omega, fun j hj => ?_⟩
  have := h (j + 1) (by omega)
  rw [← this]
  congr 1
  omega

theorem stuck_one {xs : List Bool} (h1 : xs.length ≤ 150) (h0 : xs.length ≠ 0) : stuck xs 1 = true := by
  rw [stuck_iff]
  refine ⟨h1, by omega, by omega, fun j hj => ?_⟩
  congr 1
  have : (1 : Int).toNat = 1 := rfl
  omega

/-- The inverted readings. -/
def inv (xs : List Bool) : List Bool := xs.map (!·)
theorem inv_getD {xs : List Bool} {k : Nat} (h : k < xs.length) : (inv xs).getD k false = !xs.getD k false := by
  simp [inv, h]

theorem busy_inv (xs : List Bool) (k : Nat) (hk : k ≤ xs.length) : busyN xs k + busyN (inv xs) k = k := by
  induction k with
  | zero => rfl
  | succ k ih =>
    have := ih (by omega)
    simp only [busyN]
    rw [inv_getD (by omega)]
    cases xs.getD k false <;> simp <;> omega

theorem rise_inv (xs : List Bool) (k : Nat) (hk : k ≤ xs.length) :
    (prevB xs k = true → riseN xs k ≤ riseN (inv xs) k + 1 ∧ riseN (inv xs) k ≤ riseN xs k ∧ 2 * riseN xs k ≤ k + 1) ∧
    (prevB xs k = false → (0 < k → riseN (inv xs) k ≤ riseN xs k + 1 ∧ riseN xs k ≤ riseN (inv xs) k) ∧ (k = 0 → riseN xs k = riseN (inv xs) k) ∧ 2 * riseN xs k ≤ k) := by
  induction k with
  | zero => simp [prevB, riseN]
  | succ k ih =>
    obtain ⟨ih1, ih2⟩ := ih (by omega)
    have hp : prevB xs (k + 1) = xs.getD k false := by simp [prevB]
    have hq : 0 < k → prevB (inv xs) k = !prevB xs k := by
      intro h0
      obtain ⟨m, rfl⟩ : ∃ m, k = m + 1 := ⟨k - 1, by omega⟩
      simp only [prevB, Nat.add_eq_zero_iff, Nat.one_ne_zero, and_false, if_false, Nat.add_sub_cancel]
      exact inv_getD (by omega)
    have hq0 : k = 0 → prevB (inv xs) k = false ∧ prevB xs k = false := by
      intro h; subst h; simp [prevB]
    rw [hp]
    simp only [riseN]
    rw [inv_getD (by omega)]
    by_cases h0 : k = 0
    · obtain ⟨a, b⟩ := hq0 h0
      rw [a, b]
      have := (ih2 b).2.1 h0
      have h2 := (ih2 b).2.2
      cases xs.getD k false <;> simp <;> omega
    · rw [hq (by omega)]
      cases hb : prevB xs k
      · have := (ih2 hb).1 (by omega)
        have h2 := (ih2 hb).2.2
        cases xs.getD k false <;> simp <;> omega
      · have := ih1 hb
        cases xs.getD k false <;> simp <;> omega

theorem rise_law {xs : List Bool} (h : xs.length ≤ 150) : (-1 ≤ rises (inv xs) - rises xs ∧ rises (inv xs) - rises xs ≤ 1) ∧ 2 * rises xs ≤ xs.length + 1 := by
  have hl : (inv xs).length = xs.length := by simp [inv]
  unfold rises
  rw [if_pos h, if_pos (by omega), hl]
  obtain ⟨h1, h2⟩ := rise_inv xs xs.length (Nat.le_refl _)
  cases hb : prevB xs xs.length
  · have := h2 hb
    by_cases h0 : xs.length = 0
    · have := this.2.1 h0; omega
    · have := this.1 (by omega); omega
  · have := h1 hb; omega

theorem rises_bd (xs : List Bool) : -1 ≤ rises xs ∧ rises xs ≤ 150 ∧ (xs.length ≤ 150 → 0 ≤ rises xs) ∧ (¬ xs.length ≤ 150 → rises xs = -1) := by
  have := riseN_le xs xs.length
  unfold rises
  split <;> omega

theorem busy_bd (xs : List Bool) : -1 ≤ busy xs ∧ busy xs ≤ 1000 ∧ (xs.length ≤ 150 → 0 ≤ busy xs) ∧ (¬ xs.length ≤ 150 → busy xs = -1) := by
  have h := busyN_le xs xs.length
  unfold busy
  split
  · split
    · omega
    · have h1 : 0 ≤ (1000 * (busyN xs xs.length : Int)) / (xs.length : Int) := Int.ediv_nonneg (by omega) (by omega)
      have h2 : (1000 * (busyN xs xs.length : Int)) / (xs.length : Int) ≤ 1000 := by
        have : (1000 * (busyN xs xs.length : Int)) / (xs.length : Int) < 1001 := Int.ediv_lt_of_lt_mul (by omega) (by omega)
        omega
      omega
  · omega

theorem busy_law {xs : List Bool} (h : xs.length ≤ 150) : (xs.length = 0 → busy xs + busy (inv xs) = 0) ∧ (xs.length ≠ 0 → busy xs + busy (inv xs) = 1000 ∨ busy xs + busy (inv xs) = 999) := by
  have hl : (inv xs).length = xs.length := by simp [inv]
  have hs := busy_inv xs xs.length (Nat.le_refl _)
  unfold busy
  rw [if_pos h, hl, if_pos h]
  refine ⟨fun h0 => by rw [if_pos h0, if_pos h0]; rfl, fun h0 => ?_⟩
  rw [if_neg h0, if_neg h0]
  have hp : (0 : Int) < (xs.length : Int) := by omega
  have a1 := Int.emod_add_mul_ediv (1000 * (busyN xs xs.length : Int)) (xs.length : Int)
  have a2 := Int.emod_nonneg (1000 * (busyN xs xs.length : Int)) (by omega : (xs.length : Int) ≠ 0)
  have a3 := Int.emod_lt_of_pos (1000 * (busyN xs xs.length : Int)) hp
  have b1 := Int.emod_add_mul_ediv (1000 * (busyN (inv xs) xs.length : Int)) (xs.length : Int)
  have b2 := Int.emod_nonneg (1000 * (busyN (inv xs) xs.length : Int)) (by omega : (xs.length : Int) ≠ 0)
  have b3 := Int.emod_lt_of_pos (1000 * (busyN (inv xs) xs.length : Int)) hp
  generalize (1000 * (busyN xs xs.length : Int)) / (xs.length : Int) = A at *
  generalize (1000 * (busyN (inv xs) xs.length : Int)) / (xs.length : Int) = B at *
  have e : (xs.length : Int) * (A + B) = xs.length * A + xs.length * B := Int.mul_add _ _ _
  have h1 : (xs.length : Int) * (A + B) ≤ xs.length * 1000 := by omega
  have h2 : (xs.length : Int) * 998 < xs.length * (A + B) := by omega
  have h3 := Int.le_of_mul_le_mul_left h1 hp
  have h4 := Int.lt_of_mul_lt_mul_left h2 (by omega)
  omega

theorem inv_take {xs : List Bool} {k : Nat} (h : k < xs.length) : (inv xs).take (k + 1) = (inv xs).take k ++ [!xs.getD k false] := by
  rw [List.take_succ_eq_append_getElem (by simpa [inv] using h)]
  simp [inv, h]
theorem inv_bools {w : World} {lo e : Nat} {v : Value} {k : Nat} {xs : List Bool} (hO : Own w lo e 1 v k (((inv xs).take k).map .bool)) (hk : xs.length ≤ k) (hk' : k ≤ xs.length) : Bools w 0 v (inv xs) := by
  have e : (inv xs).take k = inv xs := List.take_of_length_le (by simp [inv]; omega)
  have e2 : (inv xs).length = k := by simp [inv]; omega
  unfold Bools; rw [e2]; rw [e] at hO; exact hO.rd.mono (Nat.zero_le _)
end Go.Proofs.Ytmckkbokebapcaa
