/- Plain functions for the sensors, no program. -/
import Derived.Test.YtmckkbokebapcaaKit
namespace Go.Proofs.Ytmckkbokebapcaa

def stuck (xs : List Bool) (n : Int) : Bool :=
  decide (xs.length ≤ 150) && decide (1 ≤ n) && decide (n ≤ xs.length) && (List.range n.toNat).all fun j => xs.getD (xs.length - n.toNat + j) false == xs.getD (xs.length - 1) false

def prevB (xs : List Bool) (k : Nat) : Bool := if k = 0 then false else xs.getD (k - 1) false
def riseN (xs : List Bool) : Nat → Nat
  | 0 => 0
  | k + 1 => riseN xs k + (if xs.getD k false && !prevB xs k then 1 else 0)
def rises (xs : List Bool) : Int := if xs.length ≤ 150 then (riseN xs xs.length : Int) else -1
theorem riseN_le (xs : List Bool) (k : Nat) : riseN xs k ≤ k := by
  induction k with
  | zero => simp [riseN]
  | succ k ih => simp only [riseN]; split <;> omega

def busyN (xs : List Bool) : Nat → Nat
  | 0 => 0
  | k + 1 => busyN xs k + (if xs.getD k false then 1 else 0)
theorem busyN_le (xs : List Bool) (k : Nat) : busyN xs k ≤ k := by
  induction k with
  | zero => simp [busyN]
  | succ k ih => simp only [busyN]; split <;> omega
def busy (xs : List Bool) : Int := if xs.length ≤ 150 then (if xs.length = 0 then 0 else (1000 * (busyN xs xs.length : Int)) / (xs.length : Int)) else -1

theorem stuck_true {xs : List Bool} {n : Int} (h1 : xs.length ≤ 150) (h2 : 1 ≤ n) (h3 : n ≤ xs.length) (h : ∀ j, j < n.toNat → xs.getD (xs.length - n.toNat + j) false = xs.getD (xs.length - 1) false) : stuck xs n = true := by
  unfold stuck
  simp only [Bool.and_eq_true, decide_eq_true_eq, List.all_eq_true, List.mem_range, beq_iff_eq]
  exact ⟨⟨⟨h1, h2⟩, h3⟩, h⟩

theorem stuck_false {xs : List Bool} {n : Int} {j : Nat} (hj : j < n.toNat) (h : xs.getD (xs.length - n.toNat + j) false ≠ xs.getD (xs.length - 1) false) : stuck xs n = false := by
  rw [Bool.eq_false_iff]
  intro hs
  unfold stuck at hs
  simp only [Bool.and_eq_true, List.all_eq_true, List.mem_range, beq_iff_eq] at hs
  exact h (hs.2 j hj)

/-- Compared with the first one, it is the same. -/
theorem stuck_first {xs : List Bool} {n : Int} {j : Nat} (hj : j < n.toNat) (h3 : n ≤ xs.length) (h : xs.getD (xs.length - n.toNat + j) false ≠ xs.getD (xs.length - n.toNat) false) : stuck xs n = false := by
  by_cases h0 : xs.getD (xs.length - n.toNat + 0) false = xs.getD (xs.length - 1) false
  · exact stuck_false hj (by rw [← h0]; exact h)
  · exact stuck_false (j := 0) (by omega) h0

theorem stuck_no {xs : List Bool} {n : Int} (h : ¬ (xs.length ≤ 150 ∧ 1 ≤ n ∧ n ≤ xs.length)) : stuck xs n = false := by
  rw [Bool.eq_false_iff]
  intro hs
  unfold stuck at hs
  simp only [Bool.and_eq_true, decide_eq_true_eq] at hs
  omega
end Go.Proofs.Ytmckkbokebapcaa
