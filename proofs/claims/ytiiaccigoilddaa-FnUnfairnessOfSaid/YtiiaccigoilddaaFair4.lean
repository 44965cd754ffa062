/- Plain facts on the unfairness of waits; no program. -/
import Derived.Test.YtiiaccigoilddaaFair1
namespace Go.Proofs.Ytiiaccigoilddaa

def dist (a b : Int) : Int := if a < b then b - a else a - b
theorem dist_comm (a b : Int) : dist a b = dist b a := by unfold dist; split <;> split <;> omega
theorem dist_self (a : Int) : dist a a = 0 := by unfold dist; split <;> omega
theorem dist_nonneg (a b : Int) : 0 ≤ dist a b := by unfold dist; split <;> omega

def rsum (x : Int) : List Int → Int
  | [] => 0
  | y :: r => dist x y + rsum x r
theorem rsum_append (x : Int) (a b : List Int) : rsum x (a ++ b) = rsum x a + rsum x b := by
  induction a with
  | nil => simp [rsum]
  | cons y r ih => simp only [List.cons_append, rsum, ih]; omega
theorem rsum_reverse (x : Int) (a : List Int) : rsum x a.reverse = rsum x a := by
  induction a with
  | nil => rfl
  | cons y r ih => rw [List.reverse_cons, rsum_append, ih]; simp only [rsum]; omega
theorem rsum_nonneg (x : Int) (a : List Int) : 0 ≤ rsum x a := by
  induction a with
  | nil => simp [rsum]
  | cons y r ih => have := dist_nonneg x y; simp only [rsum]; omega
theorem rsum_bd {x : Int} {a : List Int} (hx : 0 ≤ x ∧ x ≤ 999) (ha : ∀ y ∈ a, 0 ≤ y ∧ y ≤ 999) : rsum x a ≤ 999 * a.length := by
  induction a with
  | nil => simp [rsum]
  | cons y r ih =>
    have hy := ha y (by simp)
    have := ih (fun z hz => ha z (List.mem_cons_of_mem _ hz))
    have : dist x y ≤ 999 := by unfold dist; split <;> omega
    simp only [rsum, List.length_cons]; omega

/-- The sum over all pairs. -/
def dsum : List Int → Int
  | [] => 0
  | x :: r => rsum x r + dsum r
theorem dsum_snoc (a : List Int) (x : Int) : dsum (a ++ [x]) = dsum a + rsum x a := by
  induction a with
  | nil => simp [dsum, rsum]
  | cons y r ih =>
    simp only [List.cons_append, dsum, ih, rsum_append, rsum]
    rw [dist_comm y x]; omega
theorem dsum_reverse (a : List Int) : dsum a.reverse = dsum a := by
  induction a with
  | nil => rfl
  | cons y r ih => rw [List.reverse_cons, dsum_snoc, ih, rsum_reverse]; simp only [dsum]; omega
theorem dsum_nonneg (a : List Int) : 0 ≤ dsum a := by
  induction a with
  | nil => simp [dsum]
  | cons y r ih => have := rsum_nonneg y r; simp only [dsum]; omega

theorem sum_snoc (a : List Int) (x : Int) : (a ++ [x]).sum = a.sum + x := by simp
theorem sum_nonneg {a : List Int} (ha : ∀ y ∈ a, 0 ≤ y ∧ y ≤ 999) : 0 ≤ a.sum ∧ a.sum ≤ 999 * a.length := by
  induction a with
  | nil => simp
  | cons y r ih =>
    have hy := ha y (by simp)
    have := ih (fun z hz => ha z (List.mem_cons_of_mem _ hz))
    simp only [List.sum_cons, List.length_cons]; omega

theorem rsum_le_sum {x : Int} {a : List Int} (hx : 0 ≤ x) (ha : ∀ y ∈ a, 0 ≤ y) : rsum x a ≤ a.length * x + a.sum := by
  induction a with
  | nil => simp [rsum]
  | cons y r ih =>
    have hy := ha y (by simp)
    have := ih (fun z hz => ha z (List.mem_cons_of_mem _ hz))
    have h2 : dist x y ≤ x + y := by unfold dist; split <;> omega
    have h3 : ((r.length + 1 : Nat) : Int) * x = r.length * x + x := by rw [Int.natCast_add, Int.add_mul]; simp
    simp only [rsum, List.sum_cons, List.length_cons]
    rw [h3]; omega
theorem dsum_lt {a : List Int} (ha : ∀ y ∈ a, 0 ≤ y) : dsum a + a.sum ≤ a.length * a.sum := by
  induction a with
  | nil => simp [dsum]
  | cons y r ih =>
    have hy := ha y (by simp)
    have hr := fun z hz => ha z (List.mem_cons_of_mem _ hz)
    have i1 := ih hr
    have i2 := rsum_le_sum hy hr
    have h3 : ((r.length + 1 : Nat) : Int) * (y + r.sum) = (r.length * y + y) + (r.length * r.sum + r.sum) := by
      rw [Int.natCast_add, Int.add_mul, Int.mul_add]; simp; omega
    simp only [dsum, List.sum_cons, List.length_cons]
    rw [h3]; omega

theorem rsum_twice (x : Int) (a : List Int) : rsum (2 * x) (a.map (2 * ·)) = 2 * rsum x a := by
  induction a with
  | nil => rfl
  | cons y r ih =>
    have : dist (2 * x) (2 * y) = 2 * dist x y := by unfold dist; split <;> split <;> omega
    simp only [List.map_cons, rsum, ih, this]; omega
theorem dsum_twice (a : List Int) : dsum (a.map (2 * ·)) = 2 * dsum a := by
  induction a with
  | nil => rfl
  | cons y r ih => simp only [List.map_cons, dsum, ih, rsum_twice]; omega
theorem sum_twice (a : List Int) : (a.map (2 * ·)).sum = 2 * a.sum := by
  induction a with
  | nil => rfl
  | cons y r ih => simp only [List.map_cons, List.sum_cons, ih]; omega
theorem sum_reverse' (a : List Int) : a.reverse.sum = a.sum := by
  induction a with
  | nil => rfl
  | cons y r ih => rw [List.reverse_cons, sum_snoc, ih]; simp only [List.sum_cons]; omega
theorem rsum_flat (n : Nat) : rsum 7 (List.replicate n 7) = 0 := by
  induction n with
  | zero => rfl
  | succ n ih => simp only [List.replicate_succ, rsum, ih, dist_self]; rfl
theorem dsum_flat (n : Nat) : dsum (List.replicate n 7) = 0 := by
  induction n with
  | zero => rfl
  | succ n ih => simp only [List.replicate_succ, dsum, ih, rsum_flat]; rfl

def unfair (xs : List Int) : Int := if validW xs then (if xs.sum = 0 then 0 else (1000 * dsum xs) / (xs.length * xs.sum)) else -1

theorem validW_reverse {xs : List Int} (h : validW xs = true) : validW xs.reverse = true := by
  rw [validW_iff] at h ⊢; exact ⟨by simpa using h.1, fun x hx => h.2 x (by simpa using hx)⟩
theorem unfair_reverse {xs : List Int} (h : validW xs = true) : unfair xs.reverse = unfair xs := by
  unfold unfair
  rw [if_pos h, if_pos (validW_reverse h), sum_reverse', dsum_reverse, List.length_reverse]
theorem unfair_flat {n : Nat} (hn : n ≤ 60) : unfair (List.replicate n 7) = 0 := by
  unfold unfair
  rw [dsum_flat]
  have hv : validW (List.replicate n 7) = true := by
    rw [validW_iff]; exact ⟨by simpa using hn, fun x hx => by have := List.eq_of_mem_replicate hx; omega⟩
  rw [if_pos hv]
  split <;> simp
theorem unfair_twice {xs : List Int} (h : validW xs = true) (h2 : ∀ x ∈ xs, 2 * x ≤ 999) : unfair (xs.map (2 * ·)) = unfair xs := by
  have hv : validW (xs.map (2 * ·)) = true := by
    rw [validW_iff] at h ⊢
    refine ⟨by simpa using h.1, fun x hx => ?_⟩
    obtain ⟨y, hy, rfl⟩ := List.mem_map.1 hx
    have := h.2 y hy; have := h2 y hy; omega
  unfold unfair
  rw [if_pos h, if_pos hv, sum_twice, dsum_twice, List.length_map]
  by_cases h0 : xs.sum = 0
  · rw [if_pos h0, if_pos (by omega)]
  · rw [if_neg h0, if_neg (by omega)]
    rw [show 1000 * (2 * dsum xs) = 2 * (1000 * dsum xs) by omega, show (xs.length : Int) * (2 * xs.sum) = 2 * (xs.length * xs.sum) by rw [Int.mul_left_comm]]
    exact Int.mul_ediv_mul_of_pos _ _ (by omega)
theorem unfair_bd (xs : List Int) : -1 ≤ unfair xs ∧ unfair xs < 1000 ∧ (validW xs = true → 0 ≤ unfair xs) ∧ (validW xs = false → unfair xs = -1) := by
  unfold unfair
  split
  · rename_i h
    have hn := fun x hx => ((validW_iff.1 h).2 x hx)
    have hs := sum_nonneg hn
    split
    · simp [h]
    · rename_i h0
      have hd := dsum_lt (a := xs) (fun x hx => (hn x hx).1)
      have hd0 := dsum_nonneg xs
      have hp : 0 < (xs.length : Int) * xs.sum := by omega
      have h1 : 0 ≤ (1000 * dsum xs) / (xs.length * xs.sum) := Int.ediv_nonneg (by omega) (by omega)
      have h2 : (1000 * dsum xs) / (xs.length * xs.sum) < 1000 := Int.ediv_lt_of_lt_mul hp (by omega)
      simp [h]; omega
  · rename_i h
    simp at h; simp [h]

/-- The loops' forms. -/
def dN (xs : List Int) (i : Nat) : Int := dsum (xs.take i)
theorem dN_succ {xs : List Int} {i : Nat} (h : i < xs.length) : dN xs (i + 1) = dN xs i + rsum (xs.getD i 0) (xs.take i) := by
  unfold dN
  rw [List.take_succ_eq_append_getElem h, dsum_snoc]
  simp [h]
theorem rsum_succ {xs : List Int} {x : Int} {k : Nat} (h : k < xs.length) : rsum x (xs.take (k + 1)) = rsum x (xs.take k) + dist x (xs.getD k 0) := by
  rw [List.take_succ_eq_append_getElem h, rsum_append]
  simp [rsum, h]
theorem sum_succ {xs : List Int} {k : Nat} (h : k < xs.length) : (xs.take (k + 1)).sum = (xs.take k).sum + xs.getD k 0 := by
  rw [List.take_succ_eq_append_getElem h, sum_snoc]; simp [h]
theorem loop_bd {xs : List Int} (hv : validW xs = true) (i k : Nat) (hi : i ≤ xs.length) (hk : k ≤ i) (hix : i < xs.length) :
    0 ≤ dN xs i ∧ dN xs i ≤ 59940 * i ∧ 0 ≤ rsum (xs.getD i 0) (xs.take k) ∧ rsum (xs.getD i 0) (xs.take k) ≤ 59940 := by
  obtain ⟨h60, hall⟩ := validW_iff.1 hv
  have hr : ∀ i, i < xs.length → ∀ k, rsum (xs.getD i 0) (xs.take k) ≤ 59940 := fun i hi k => by
    have := rsum_bd (hall _ (getD_mem hi)) (a := xs.take k) (fun y hy => hall y (List.mem_of_mem_take hy))
    have : (xs.take k).length ≤ xs.length := List.length_take_le' _ _
    omega
  have hd : ∀ i, i ≤ xs.length → dN xs i ≤ 59940 * i := by
    intro i
    induction i with
    | zero => intro _; simp [dN, dsum]
    | succ i ih => intro h; rw [dN_succ (by omega)]; have := ih (by omega); have := hr i (by omega) i; omega
  exact ⟨dsum_nonneg _, hd i hi, rsum_nonneg _ _, hr i hix k⟩
theorem dN_bd {xs : List Int} (hv : validW xs = true) : 0 ≤ dsum xs ∧ dsum xs ≤ 3600000 := by
  refine ⟨dsum_nonneg _, ?_⟩
  obtain ⟨h60, hall⟩ := validW_iff.1 hv
  have key : ∀ a : List Int, (∀ y ∈ a, 0 ≤ y ∧ y ≤ 999) → a.length ≤ 60 → dsum a ≤ 59940 * a.length := by
    intro a
    induction a with
    | nil => intro _ _; simp [dsum]
    | cons y r ih =>
      intro h1 h2
      simp only [List.length_cons] at h2
      have i1 := ih (fun z hz => h1 z (List.mem_cons_of_mem _ hz)) (by omega)
      have i2 := rsum_bd (h1 y (by simp)) (a := r) (fun z hz => h1 z (List.mem_cons_of_mem _ hz))
      simp only [dsum, List.length_cons]; omega
  have := key xs hall h60
  omega
end Go.Proofs.Ytiiaccigoilddaa
