/- Plain functions on waits and their laws; no program. -/
import Derived.Test.YtiiaccigoilddaaAll
namespace Go.Proofs.Ytiiaccigoilddaa

def validW (xs : List Int) : Bool := decide ((xs.length : Int) ≤ 60) && allB xs 0 999

def maxN (xs : List Int) : Nat → Int
  | 0 => 0
  | k + 1 => max (maxN xs k) (xs.getD k 0)
def longest (xs : List Int) : Int := if validW xs then maxN xs xs.length else -1

def cntN (xs : List Int) (l : Int) : Nat → Nat
  | 0 => 0
  | k + 1 => cntN xs l k + (if xs.getD k 0 ≤ l then 1 else 0)
def share (xs : List Int) (l : Int) : Int := if validW xs then (if xs.length = 0 then 1000 else (1000 * (cntN xs l xs.length : Int)) / (xs.length : Int)) else -1

def rkN (xs : List Int) (p : Int) : Nat → Int
  | 0 => -1
  | k + 1 => if p ≤ share xs (xs.getD k 0) ∧ (rkN xs p k < 0 ∨ xs.getD k 0 < rkN xs p k) then xs.getD k 0 else rkN xs p k
def rankW (xs : List Int) (p : Int) : Int := if xs.length = 0 ∨ validW xs = false ∨ ¬ (0 ≤ p ∧ p ≤ 1000) then -1 else rkN xs p xs.length

theorem validW_iff {xs : List Int} : validW xs = true ↔ xs.length ≤ 60 ∧ ∀ x ∈ xs, 0 ≤ x ∧ x ≤ 999 := by
  unfold validW
  rw [Bool.and_eq_true, allB_iff, decide_eq_true_eq]
  constructor <;> rintro ⟨h1, h2⟩ <;> exact ⟨by omega, h2⟩

theorem getD_mem {xs : List Int} {k : Nat} (h : k < xs.length) : xs.getD k 0 ∈ xs := by simp [h]

theorem maxN_le {xs : List Int} {k j : Nat} (h : j < k) : xs.getD j 0 ≤ maxN xs k := by
  induction k with
  | zero => omega
  | succ k ih =>
    simp only [maxN]
    by_cases hj : j = k
    · subst hj; omega
    · have := ih (by omega); omega
theorem maxN_bd {xs : List Int} (hv : validW xs = true) (k : Nat) (hk : k ≤ xs.length) : 0 ≤ maxN xs k ∧ maxN xs k ≤ 999 := by
  induction k with
  | zero => simp [maxN]
  | succ k ih =>
    have := ih (by omega)
    have := (validW_iff.1 hv).2 _ (getD_mem (xs := xs) (k := k) (by omega))
    simp only [maxN]; omega
theorem maxN_mem {xs : List Int} (hv : validW xs = true) (k : Nat) (hk : k ≤ xs.length) : (k = 0 ∧ maxN xs k = 0) ∨ ∃ j, j < k ∧ maxN xs k = xs.getD j 0 := by
  induction k with
  | zero => exact .inl ⟨rfl, rfl⟩
  | succ k ih =>
    right
    have hb := (validW_iff.1 hv).2 _ (getD_mem (xs := xs) (k := k) (by omega))
    simp only [maxN]
    rcases ih (by omega) with ⟨rfl, h⟩ | ⟨j, hj, h⟩
    · exact ⟨0, by omega, by rw [h]; omega⟩
    · by_cases hm : maxN xs k ≤ xs.getD k 0
      · exact ⟨k, by omega, by omega⟩
      · exact ⟨j, by omega, by omega⟩

theorem cntN_le (xs : List Int) (l : Int) (k : Nat) : cntN xs l k ≤ k := by
  induction k with
  | zero => simp [cntN]
  | succ k ih => simp only [cntN]; split <;> omega
theorem cntN_mono (xs : List Int) {l l' : Int} (h : l ≤ l') (k : Nat) : cntN xs l k ≤ cntN xs l' k := by
  induction k with
  | zero => simp [cntN]
  | succ k ih => simp only [cntN]; split <;> split <;> omega
theorem cntN_all (xs : List Int) {l : Int} {k : Nat} (h : ∀ j, j < k → xs.getD j 0 ≤ l) : cntN xs l k = k := by
  induction k with
  | zero => rfl
  | succ k ih => simp only [cntN]; rw [if_pos (h k (by omega)), ih (fun j hj => h j (by omega))]
theorem cntN_eq (xs : List Int) {l l' : Int} {k : Nat} (h : ∀ j, j < k → (xs.getD j 0 ≤ l ↔ xs.getD j 0 ≤ l')) : cntN xs l k = cntN xs l' k := by
  induction k with
  | zero => rfl
  | succ k ih => simp only [cntN, ih (fun j hj => h j (by omega)), h k (by omega)]

theorem share_mono (xs : List Int) {l l' : Int} (h : l ≤ l') : share xs l ≤ share xs l' := by
  unfold share
  split
  · split
    · omega
    · have := cntN_mono xs h xs.length
      exact Int.ediv_le_ediv (by omega) (by omega)
  · omega
theorem share_bd (xs : List Int) (l : Int) : -1 ≤ share xs l ∧ share xs l ≤ 1000 ∧ (validW xs = true → 0 ≤ share xs l) ∧ (validW xs = false → share xs l = -1) := by
  have h := cntN_le xs l xs.length
  unfold share
  split
  · rename_i hv
    split
    · simp [hv]
    · have h1 : 0 ≤ (1000 * (cntN xs l xs.length : Int)) / (xs.length : Int) := Int.ediv_nonneg (by omega) (by omega)
      have h2 : (1000 * (cntN xs l xs.length : Int)) / (xs.length : Int) < 1001 := Int.ediv_lt_of_lt_mul (by omega) (by omega)
      simp [hv]; omega
  · rename_i hv
    simp at hv; simp [hv]
theorem share_full {xs : List Int} (hv : validW xs = true) : share xs (maxN xs xs.length) = 1000 := by
  unfold share
  rw [if_pos hv]
  split
  · rfl
  · rw [cntN_all xs (fun j hj => maxN_le hj)]
    exact Int.mul_ediv_cancel _ (by omega)

theorem share_parts {xs : List Int} (hv : validW xs = true) (h0 : xs.length ≠ 0) (l : Int) :
    share xs l * xs.length ≤ 1000 * (cntN xs l xs.length : Int) ∧ 1000 * (cntN xs l xs.length : Int) < (share xs l + 1) * xs.length := by
  unfold share
  rw [if_pos hv, if_neg h0]
  exact ⟨Int.ediv_mul_le _ (by omega), Int.lt_ediv_add_one_mul_self _ (by omega)⟩

theorem longest_bd (xs : List Int) : -1 ≤ longest xs ∧ longest xs ≤ 999 ∧ (validW xs = true → 0 ≤ longest xs) ∧ (validW xs = false → longest xs = -1) := by
  unfold longest
  split
  · rename_i hv
    have := maxN_bd hv xs.length (Nat.le_refl _)
    simp [hv]; omega
  · rename_i hv
    simp at hv; simp [hv]

theorem rkN_bd {xs : List Int} (hv : validW xs = true) (p : Int) (k : Nat) (hk : k ≤ xs.length) : -1 ≤ rkN xs p k ∧ rkN xs p k ≤ 999 := by
  induction k with
  | zero => simp [rkN]
  | succ k ih =>
    have := ih (by omega)
    have := (validW_iff.1 hv).2 _ (getD_mem (xs := xs) (k := k) (by omega))
    simp only [rkN]; split <;> omega

/-- The program's way: from the longest wait down. -/
def rkI (xs : List Int) (p : Int) : Nat → Int
  | 0 => maxN xs xs.length
  | k + 1 => if xs.getD k 0 < rkI xs p k ∧ p ≤ share xs (xs.getD k 0) then xs.getD k 0 else rkI xs p k
theorem rkI_eq {xs : List Int} (hv : validW xs = true) (p : Int) (k : Nat) (hk : k ≤ xs.length) : rkI xs p k = if rkN xs p k < 0 then maxN xs xs.length else rkN xs p k := by
  induction k with
  | zero => simp [rkI, rkN]
  | succ k ih =>
    have ih := ih (by omega)
    have hx := (validW_iff.1 hv).2 _ (getD_mem (xs := xs) (k := k) (by omega))
    have hm := maxN_le (xs := xs) (k := xs.length) (j := k) (by omega)
    have e1 : rkI xs p (k + 1) = if xs.getD k 0 < rkI xs p k ∧ p ≤ share xs (xs.getD k 0) then xs.getD k 0 else rkI xs p k := rfl
    have e2 : rkN xs p (k + 1) = if p ≤ share xs (xs.getD k 0) ∧ (rkN xs p k < 0 ∨ xs.getD k 0 < rkN xs p k) then xs.getD k 0 else rkN xs p k := rfl
    rw [e1, e2, ih]
    clear e1 e2 ih
    generalize share xs (xs.getD k 0) = S at *
    generalize xs.getD k 0 = x at *
    generalize rkN xs p k = r at *
    generalize maxN xs xs.length = M at *
    by_cases h1 : r < 0 <;> by_cases h2 : p ≤ S <;> by_cases h3 : x < r <;> by_cases h4 : x < M <;> simp [h1, h2, h3, h4] <;> omega

theorem rkI_bd {xs : List Int} (hv : validW xs = true) (p : Int) (k : Nat) (hk : k ≤ xs.length) : 0 ≤ rkI xs p k ∧ rkI xs p k ≤ 999 := by
  rw [rkI_eq hv p k hk]
  have := maxN_bd hv xs.length (Nat.le_refl _)
  have := rkN_bd hv p k hk
  split <;> omega

theorem rkN_neg {xs : List Int} (hv : validW xs = true) (p : Int) (k : Nat) (hk : k ≤ xs.length) (h : rkN xs p k < 0) : ∀ j, j < k → ¬ p ≤ share xs (xs.getD j 0) := by
  induction k with
  | zero => intro j hj; omega
  | succ k ih =>
    have hx := (validW_iff.1 hv).2 _ (getD_mem (xs := xs) (k := k) (by omega))
    simp only [rkN] at h
    by_cases h1 : p ≤ share xs (xs.getD k 0) ∧ (rkN xs p k < 0 ∨ xs.getD k 0 < rkN xs p k)
    · rw [if_pos h1] at h; omega
    · rw [if_neg h1] at h
      intro j hj
      by_cases hjk : j = k
      · subst hjk; intro h2; exact h1 ⟨h2, .inl h⟩
      · exact ih (by omega) h j (by omega)

theorem rkN_spec {xs : List Int} (hv : validW xs = true) (p : Int) (k : Nat) (hk : k ≤ xs.length) (h : 0 ≤ rkN xs p k) :
    (∃ j, j < k ∧ rkN xs p k = xs.getD j 0 ∧ p ≤ share xs (xs.getD j 0)) ∧ ∀ j, j < k → p ≤ share xs (xs.getD j 0) → rkN xs p k ≤ xs.getD j 0 := by
  induction k with
  | zero => simp [rkN] at h
  | succ k ih =>
    have hx := (validW_iff.1 hv).2 _ (getD_mem (xs := xs) (k := k) (by omega))
    simp only [rkN] at h ⊢
    by_cases h1 : p ≤ share xs (xs.getD k 0) ∧ (rkN xs p k < 0 ∨ xs.getD k 0 < rkN xs p k)
    · rw [if_pos h1]
      refine ⟨⟨k, by omega, rfl, h1.1⟩, fun j hj hs => ?_⟩
      by_cases hjk : j = k
      · subst hjk; omega
      · by_cases h0 : rkN xs p k < 0
        · exact absurd hs (rkN_neg hv p k (by omega) h0 j (by omega))
        · have := (ih (by omega) (by omega)).2 j (by omega) hs
          rcases h1.2 with h2 | h2 <;> omega
    · rw [if_neg h1] at h ⊢
      obtain ⟨⟨j, hj, e1, e2⟩, hmin⟩ := ih (by omega) h
      refine ⟨⟨j, by omega, e1, e2⟩, fun i hi hs => ?_⟩
      by_cases hik : i = k
      · subst hik
        by_cases h3 : xs.getD i 0 < rkN xs p i
        · exact absurd ⟨hs, .inr h3⟩ h1
        · omega
      · exact hmin i (by omega) hs

theorem rk_pos {xs : List Int} (hv : validW xs = true) (h0 : xs.length ≠ 0) {p : Int} (hp : p ≤ 1000) : 0 ≤ rkN xs p xs.length := by
  rcases Int.lt_or_le (rkN xs p xs.length) 0 with h | h
  · exfalso
    rcases maxN_mem hv xs.length (Nat.le_refl _) with ⟨h1, _⟩ | ⟨j, hj, e⟩
    · exact h0 h1
    · have := rkN_neg hv p xs.length (Nat.le_refl _) h j hj
      rw [← e, share_full hv] at this
      omega
  · exact h

theorem rank_eq {xs : List Int} (hv : validW xs = true) (h0 : xs.length ≠ 0) {p : Int} (h1 : 0 ≤ p) (h2 : p ≤ 1000) : rankW xs p = rkI xs p xs.length ∧ rankW xs p = rkN xs p xs.length := by
  have hp := rk_pos hv h0 h2
  have e : rankW xs p = rkN xs p xs.length := by unfold rankW; rw [if_neg (by simp [hv, h1, h2]; intro h; simp [h] at h0)]
  exact ⟨by rw [e, rkI_eq hv p _ (Nat.le_refl _), if_neg (by omega)], e⟩
theorem rank_no {xs : List Int} {p : Int} (h : xs.length = 0 ∨ validW xs = false ∨ ¬ (0 ≤ p ∧ p ≤ 1000)) : rankW xs p = -1 := by
  unfold rankW; rw [if_pos h]
theorem rank_bd (xs : List Int) (p : Int) : -1 ≤ rankW xs p ∧ rankW xs p ≤ 999 := by
  unfold rankW
  split
  · omega
  · rename_i h
    have hv : validW xs = true := by
      cases hv : validW xs
      · exact absurd (.inr (.inl hv)) h
      · rfl
    exact rkN_bd hv p _ (Nat.le_refl _)

def minN (xs : List Int) : Nat → Int
  | 0 => xs.getD 0 0
  | k + 1 => min (minN xs k) (xs.getD k 0)
theorem minN_le {xs : List Int} {k j : Nat} (h : j < k) : minN xs k ≤ xs.getD j 0 := by
  induction k with
  | zero => omega
  | succ k ih =>
    simp only [minN]
    by_cases hj : j = k
    · subst hj; omega
    · have := ih (by omega); omega
theorem minN_mem {xs : List Int} (k : Nat) : minN xs k = xs.getD 0 0 ∨ ∃ j, j < k ∧ minN xs k = xs.getD j 0 := by
  induction k with
  | zero => exact .inl rfl
  | succ k ih =>
    simp only [minN]
    rcases Int.le_total (minN xs k) (xs.getD k 0) with h | h
    · rw [Int.min_eq_left h]
      rcases ih with e | ⟨j, hj, e⟩
      · exact .inl e
      · exact .inr ⟨j, by omega, e⟩
    · rw [Int.min_eq_right h]; exact .inr ⟨k, by omega, rfl⟩

/-- The law of ranks. -/
theorem rank_law {xs : List Int} (hv : validW xs = true) (h0 : xs.length ≠ 0) {p : Int} (h1 : 0 ≤ p) (h2 : p ≤ 1000) :
    (∃ j, j < xs.length ∧ xs.getD j 0 = rankW xs p) ∧ p ≤ share xs (rankW xs p) ∧ (rankW xs p = minN xs xs.length ∨ share xs (rankW xs p - 1) < p) := by
  rw [(rank_eq hv h0 h1 h2).2]
  have hpos := rk_pos hv h0 h2
  obtain ⟨⟨j, hj, e1, e2⟩, hmin⟩ := rkN_spec hv p xs.length (Nat.le_refl _) hpos
  refine ⟨⟨j, hj, e1.symm⟩, by rw [e1]; exact e2, ?_⟩
  by_cases hm : rkN xs p xs.length = minN xs xs.length
  · exact .inl hm
  · right
    -- the greatest wait below the rank has the same share as the rank less one
    rcases Int.lt_or_le (share xs (rkN xs p xs.length - 1)) p with h | h
    · exact h
    · exfalso
      -- some wait is below the rank
      have hlt : ∃ i, i < xs.length ∧ xs.getD i 0 < rkN xs p xs.length := by
        have h3 := minN_le (xs := xs) (k := xs.length) hj
        rcases minN_mem (xs := xs) xs.length with e | ⟨i, hi, e⟩
        · exact ⟨0, by omega, by omega⟩
        · exact ⟨i, hi, by omega⟩
      -- the greatest of these
      have hmax : ∃ i, i < xs.length ∧ xs.getD i 0 < rkN xs p xs.length ∧ ∀ j, j < xs.length → xs.getD j 0 < rkN xs p xs.length → xs.getD j 0 ≤ xs.getD i 0 := by
        have key : ∀ n, n ≤ xs.length → (∃ i, i < n ∧ xs.getD i 0 < rkN xs p xs.length) → ∃ i, i < n ∧ xs.getD i 0 < rkN xs p xs.length ∧ ∀ j, j < n → xs.getD j 0 < rkN xs p xs.length → xs.getD j 0 ≤ xs.getD i 0 := by
          intro n
          induction n with
          | zero => rintro _ ⟨i, hi, _⟩; omega
          | succ n ih =>
            rintro hn ⟨i, hi, hir⟩
            by_cases hex : ∃ i, i < n ∧ xs.getD i 0 < rkN xs p xs.length
            · obtain ⟨m, hm1, hm2, hm3⟩ := ih (by omega) hex
              by_cases hc : xs.getD n 0 < rkN xs p xs.length ∧ xs.getD m 0 < xs.getD n 0
              · refine ⟨n, by omega, hc.1, fun j hj hjr => ?_⟩
                by_cases hjn : j = n
                · subst hjn; omega
                · have := hm3 j (by omega) hjr; omega
              · refine ⟨m, by omega, hm2, fun j hj hjr => ?_⟩
                by_cases hjn : j = n
                · subst hjn; omega
                · exact hm3 j (by omega) hjr
            · have hin : i = n := by
                by_cases h : i = n
                · exact h
                · exact absurd ⟨i, by omega, hir⟩ hex
              subst hin
              refine ⟨i, by omega, hir, fun j hj hjr => ?_⟩
              by_cases hjn : j = i
              · subst hjn; omega
              · exact absurd ⟨j, by omega, hjr⟩ hex
        exact key xs.length (Nat.le_refl _) hlt
      obtain ⟨i, hi, hir, himax⟩ := hmax
      have heq : share xs (rkN xs p xs.length - 1) = share xs (xs.getD i 0) := by
        unfold share
        rw [cntN_eq xs (l' := xs.getD i 0) (fun j hj => ⟨fun h => himax j hj (by omega), fun h => by omega⟩)]
      have := hmin i hi (by omega)
      omega
theorem rank_full {xs : List Int} (hv : validW xs = true) (h0 : xs.length ≠ 0) : rankW xs 1000 = longest xs := by
  rw [(rank_eq hv h0 (by omega) (by omega)).2]
  have hpos := rk_pos hv h0 (p := 1000) (by omega)
  obtain ⟨⟨j, hj, e1, e2⟩, _⟩ := rkN_spec hv 1000 xs.length (Nat.le_refl _) hpos
  have hl : longest xs = maxN xs xs.length := by unfold longest; rw [if_pos hv]
  rw [hl, e1]
  have hle := maxN_le (xs := xs) hj
  -- all waits are at most this one
  have hcnt : cntN xs (xs.getD j 0) xs.length = xs.length := by
    have h3 := cntN_le xs (xs.getD j 0) xs.length
    have h4 := (share_parts hv h0 (xs.getD j 0)).1
    have h5 := (share_bd xs (xs.getD j 0)).2.1
    have : share xs (xs.getD j 0) = 1000 := by omega
    rw [this] at h4
    omega
  have hall : ∀ n, n ≤ xs.length → cntN xs (xs.getD j 0) n = n → ∀ i, i < n → xs.getD i 0 ≤ xs.getD j 0 := by
    intro n
    induction n with
    | zero => intro _ _ i hi; omega
    | succ n ih =>
      intro hn hc i hi
      have := cntN_le xs (xs.getD j 0) n
      simp only [cntN] at hc
      split at hc
      · rename_i hle
        by_cases hin : i = n
        · subst hin; exact hle
        · exact ih (by omega) (by omega) i (by omega)
      · omega
  rcases maxN_mem hv xs.length (Nat.le_refl _) with ⟨h1, _⟩ | ⟨i, hi, e⟩
  · omega
  · have := hall xs.length (Nat.le_refl _) hcnt i hi
    omega

/-! Halves. -/
theorem validW_take {xs : List Int} (h : validW xs = true) (k : Nat) : validW (xs.take k) = true := by
  rw [validW_iff] at h ⊢
  exact ⟨by simp; omega, fun x hx => h.2 x (List.mem_of_mem_take hx)⟩
theorem validW_drop {xs : List Int} (h : validW xs = true) (k : Nat) : validW (xs.drop k) = true := by
  rw [validW_iff] at h ⊢
  exact ⟨by simp; omega, fun x hx => h.2 x (List.mem_of_mem_drop hx)⟩
theorem longest_iff {xs : List Int} (h : validW xs = true) (m : Int) : longest xs = m ↔ (0 ≤ m ∧ (∀ x ∈ xs, x ≤ m) ∧ (m = 0 ∨ m ∈ xs)) := by
  have hl : longest xs = maxN xs xs.length := by unfold longest; rw [if_pos h]
  rw [hl]
  have hb := maxN_bd h xs.length (Nat.le_refl _)
  constructor
  · rintro rfl
    refine ⟨hb.1, fun x hx => ?_, ?_⟩
    · obtain ⟨k, hk, rfl⟩ := List.getElem_of_mem hx
      have := maxN_le (xs := xs) hk
      simpa [hk] using this
    · rcases maxN_mem h xs.length (Nat.le_refl _) with ⟨_, e⟩ | ⟨j, hj, e⟩
      · exact .inl e
      · right; rw [e]; exact getD_mem hj
  · rintro ⟨h1, h2, h3⟩
    apply Int.le_antisymm
    · rcases maxN_mem h xs.length (Nat.le_refl _) with ⟨_, e⟩ | ⟨j, hj, e⟩
      · omega
      · rw [e]; exact h2 _ (getD_mem hj)
    · rcases h3 with e | e
      · omega
      · obtain ⟨k, hk, rfl⟩ := List.getElem_of_mem e
        have := maxN_le (xs := xs) hk
        simpa [hk] using this
theorem longest_parts {xs : List Int} (h : validW xs = true) (k : Nat) : max (longest (xs.take k)) (longest (xs.drop k)) = longest xs := by
  symm
  rw [longest_iff h]
  obtain ⟨a1, a2, a3⟩ := (longest_iff (validW_take h k) _).1 rfl
  obtain ⟨b1, b2, b3⟩ := (longest_iff (validW_drop h k) _).1 rfl
  refine ⟨by omega, fun x hx => ?_, ?_⟩
  · rw [← List.take_append_drop k xs] at hx
    rcases List.mem_append.1 hx with h' | h'
    · have := a2 x h'; omega
    · have := b2 x h'; omega
  · rcases Int.le_total (longest (xs.take k)) (longest (xs.drop k)) with hle | hle
    · rw [Int.max_eq_right hle]
      rcases b3 with e | e
      · exact .inl e
      · exact .inr (List.mem_of_mem_drop e)
    · rw [Int.max_eq_left hle]
      rcases a3 with e | e
      · exact .inl e
      · exact .inr (List.mem_of_mem_take e)
end Go.Proofs.Ytiiaccigoilddaa
