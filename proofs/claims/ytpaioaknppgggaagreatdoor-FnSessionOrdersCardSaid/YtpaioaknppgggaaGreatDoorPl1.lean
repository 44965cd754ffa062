/- Plain functions on tables, phases and plans; no program. -/
import Derived.Test.YtpaioaknppgggaaGreatDoorAll
namespace Go.Proofs.YtpaioaknppgggaaGreatDoor
set_option linter.unusedVariables false
set_option linter.unusedSimpArgs false

structure Stg where
  ph : List Int
  gr : Int
structure Pln where
  cl : List (List Int)
  st : List Stg
def s0 : Stg := ⟨[], 0⟩

/-- An entry of a table. -/
def tat (t : List (List Int)) (a b : Nat) : Int := (t.getD a []).getD b 0
def inR (x lo hi : Int) : Bool := decide (lo ≤ x) && decide (x ≤ hi)
theorem inR_iff {x lo hi : Int} : inR x lo hi = true ↔ lo ≤ x ∧ x ≤ hi := by simp [inR]
/-- All numbers in a range: allB of XAll, by indexes. -/
theorem allB_get {xs : List Int} {lo hi : Int} : allB xs lo hi = true ↔ ∀ i, i < xs.length → lo ≤ xs.getD i 0 ∧ xs.getD i 0 ≤ hi :=
  ⟨fun h i hi' => allB_iff.1 h _ (by simp [hi']), allB_yes⟩
/-- Strictly ascending. -/
def ascB (xs : List Int) : Bool := (List.range xs.length).all fun i => decide (i = 0) || decide (xs.getD (i - 1) 0 < xs.getD i 0)
theorem ascB_iff {xs : List Int} : ascB xs = true ↔ ∀ i, i < xs.length → i = 0 ∨ xs.getD (i - 1) 0 < xs.getD i 0 := by
  simp only [ascB, List.all_eq_true, List.mem_range, Bool.or_eq_true, decide_eq_true_eq]
theorem ascB_no {xs : List Int} {i : Nat} (hi : i < xs.length) (h0 : i ≠ 0) (h : ¬ xs.getD (i - 1) 0 < xs.getD i 0) : ascB xs = false := by
  rw [Bool.eq_false_iff]; intro h'
  rcases ascB_iff.1 h' i hi with h'' | h''
  · exact h0 h''
  · exact h h''
def movesB (xs : List Int) (n : Int) : Bool := allB xs 0 (n - 1) && ascB xs

/-- Is a number in the list. -/
def hasB (xs : List Int) (x : Int) : Bool := (List.range xs.length).any fun i => decide (xs.getD i 0 = x)
theorem hasB_iff {xs : List Int} {x : Int} : hasB xs x = true ↔ ∃ i, i < xs.length ∧ xs.getD i 0 = x := by
  simp only [hasB, List.any_eq_true, List.mem_range, decide_eq_true_eq]
theorem hasB_no {xs : List Int} {x : Int} (h : ∀ i, i < xs.length → xs.getD i 0 ≠ x) : hasB xs x = false := by
  rw [Bool.eq_false_iff]; intro h'
  obtain ⟨i, hi, e⟩ := hasB_iff.1 h'
  exact h i hi e
theorem hasB_mem {xs : List Int} {x : Int} : hasB xs x = true ↔ x ∈ xs := by
  rw [hasB_iff]
  constructor
  · rintro ⟨i, hi, rfl⟩; simp [hi]
  · intro h
    obtain ⟨i, hi, rfl⟩ := List.getElem_of_mem h
    exact ⟨i, hi, by simp [hi]⟩

/-! Tables of clearance times. -/
def rowOk (n : Nat) (row : List Int) : Bool := decide (row.length = n) && allB row 0 5
def symOk (t : List (List Int)) (a b : Nat) : Bool := (decide (0 < tat t a b) == decide (0 < tat t b a)) && (decide (a ≠ b) || decide (tat t a b = 0))
def validCl (t : List (List Int)) : Bool :=
  decide (1 ≤ t.length) && decide (t.length ≤ 8) && ((List.range t.length).all fun i => rowOk t.length (t.getD i [])) && ((List.range t.length).all fun a => (List.range t.length).all fun b => symOk t a b)
theorem rowOk_iff {n : Nat} {row : List Int} : rowOk n row = true ↔ row.length = n ∧ ∀ i, i < row.length → 0 ≤ row.getD i 0 ∧ row.getD i 0 ≤ 5 := by
  simp only [rowOk, Bool.and_eq_true, decide_eq_true_eq, allB_get]
theorem symOk_iff {t : List (List Int)} {a b : Nat} : symOk t a b = true ↔ (0 < tat t a b ↔ 0 < tat t b a) ∧ (a = b → tat t a b = 0) := by
  simp only [symOk, Bool.and_eq_true, Bool.or_eq_true, decide_eq_true_eq, beq_iff_eq, decide_eq_decide]
  constructor
  · rintro ⟨h1, h2⟩
    refine ⟨h1, fun e => ?_⟩
    rcases h2 with h2 | h2
    · exact absurd e h2
    · exact h2
  · rintro ⟨h1, h2⟩
    refine ⟨h1, ?_⟩
    by_cases e : a = b
    · exact .inr (h2 e)
    · exact .inl e
theorem validCl_iff {t : List (List Int)} : validCl t = true ↔ 1 ≤ t.length ∧ t.length ≤ 8 ∧ (∀ i, i < t.length → rowOk t.length (t.getD i []) = true) ∧ ∀ a, a < t.length → ∀ b, b < t.length → symOk t a b = true := by
  simp only [validCl, Bool.and_eq_true, decide_eq_true_eq, List.all_eq_true, List.mem_range]
  constructor
  · rintro ⟨⟨⟨a, b⟩, c⟩, d⟩; exact ⟨a, b, c, d⟩
  · rintro ⟨a, b, c, d⟩; exact ⟨⟨⟨a, b⟩, c⟩, d⟩
theorem validCl_no {t : List (List Int)} (h : ¬ (1 ≤ t.length ∧ t.length ≤ 8 ∧ (∀ i, i < t.length → rowOk t.length (t.getD i []) = true) ∧ ∀ a, a < t.length → ∀ b, b < t.length → symOk t a b = true)) : validCl t = false := by
  rw [Bool.eq_false_iff]; intro h'; exact h (validCl_iff.1 h')
/-- The reference looks at the lower half alone. -/
theorem validCl_half {t : List (List Int)} (h1 : 1 ≤ t.length) (h2 : t.length ≤ 8) (hr : ∀ i, i < t.length → rowOk t.length (t.getD i []) = true ∧ tat t i i = 0 ∧ ∀ k, k < i → (0 < tat t i k ↔ 0 < tat t k i)) : validCl t = true := by
  refine validCl_iff.2 ⟨h1, h2, fun i hi => (hr i hi).1, fun a ha b hb => symOk_iff.2 ⟨?_, fun e => by subst e; exact (hr a ha).2.1⟩⟩
  rcases Nat.lt_trichotomy a b with h | h | h
  · exact ((hr b hb).2.2 a h).symm
  · subst h; exact Iff.rfl
  · exact (hr a ha).2.2 b h

/-! Conflicts and phases. -/
def confB (t : List (List Int)) : List (List Bool) := t.map fun r => r.map fun x => decide (0 < x)
def confL (t : List (List Int)) : List (List Bool) := if validCl t = true then confB t else []
/-- No two movements of a phase have a conflict: told of the table's entries. -/
def apartB (t : List (List Int)) (ph : List Int) : Bool :=
  (List.range ph.length).all fun i => (List.range i).all fun k => !decide (0 < tat t (ph.getD i 0).toNat (ph.getD k 0).toNat)
theorem apartB_iff {t : List (List Int)} {ph : List Int} : apartB t ph = true ↔ ∀ i, i < ph.length → ∀ k, k < i → ¬ 0 < tat t (ph.getD i 0).toNat (ph.getD k 0).toNat := by
  simp only [apartB, List.all_eq_true, List.mem_range, Bool.not_eq_true', decide_eq_false_iff_not]
def fitsB (t : List (List Int)) (ph : List Int) : Bool := movesB ph t.length && apartB t ph
/-- A valid plan. -/
def stOk (t : List (List Int)) (s : Stg) : Bool := fitsB t s.ph && inR s.gr 5 40
def validP (p : Pln) : Bool := validCl p.cl && decide (1 ≤ p.st.length) && decide (p.st.length ≤ 5) && ((List.range p.st.length).all fun i => stOk p.cl (p.st.getD i s0))
theorem validP_iff {p : Pln} : validP p = true ↔ validCl p.cl = true ∧ 1 ≤ p.st.length ∧ p.st.length ≤ 5 ∧ ∀ i, i < p.st.length → stOk p.cl (p.st.getD i s0) = true := by
  simp only [validP, Bool.and_eq_true, decide_eq_true_eq, List.all_eq_true, List.mem_range]
  constructor
  · rintro ⟨⟨⟨a, b⟩, c⟩, d⟩; exact ⟨a, b, c, d⟩
  · rintro ⟨a, b, c, d⟩; exact ⟨⟨⟨a, b⟩, c⟩, d⟩

/-! The time between two phases. -/
/-- The greatest time from movement a to those of 'to' that are not in 'from', among the first k. -/
def chg1 (t : List (List Int)) (from_ to : List Int) (a : Int) (m : Int) : Nat → Int
  | 0 => m
  | k + 1 => if hasB to a = false ∧ hasB from_ (to.getD k 0) = false then max (chg1 t from_ to a m k) (tat t a.toNat (to.getD k 0).toNat) else chg1 t from_ to a m k
def chg (t : List (List Int)) (from_ to : List Int) : Nat → Int
  | 0 => 0
  | i + 1 => chg1 t from_ to (from_.getD i 0) (chg t from_ to i) to.length
def change (t : List (List Int)) (from_ to : List Int) : Int := chg t from_ to from_.length
theorem chg1_skip {t : List (List Int)} {from_ to : List Int} {a m : Int} (h : hasB to a = true) (k : Nat) : chg1 t from_ to a m k = m := by
  induction k with
  | zero => rfl
  | succ k ih => simp only [chg1]; rw [if_neg (fun h' => by rw [h] at h'; cases h'.1), ih]
theorem tat_bd {t : List (List Int)} (hv : validCl t = true) {a b : Nat} (ha : a < t.length) (hb : b < t.length) : 0 ≤ tat t a b ∧ tat t a b ≤ 5 := by
  obtain ⟨_, _, h, _⟩ := validCl_iff.1 hv
  obtain ⟨hl, hx⟩ := rowOk_iff.1 (h a ha)
  exact hx b (by omega)
theorem chg1_bd {t : List (List Int)} {from_ to : List Int} {a m : Int} (ht : ∀ k, k < to.length → 0 ≤ tat t a.toNat (to.getD k 0).toNat ∧ tat t a.toNat (to.getD k 0).toNat ≤ 5) (hm : 0 ≤ m ∧ m ≤ 5) (k : Nat) (hk : k ≤ to.length) : 0 ≤ chg1 t from_ to a m k ∧ chg1 t from_ to a m k ≤ 5 := by
  induction k with
  | zero => exact hm
  | succ k ih =>
    have := ih (by omega)
    have := ht k (by omega)
    simp only [chg1]
    split <;> omega

/-! The cycle. -/
def gapA (p : Pln) (i : Nat) : Int := change p.cl (p.st.getD i s0).ph (p.st.getD ((i + 1) % p.st.length) s0).ph
def beg (p : Pln) : Nat → Int
  | 0 => 0
  | i + 1 => beg p i + (p.st.getD i s0).gr + gapA p i
def cyc (p : Pln) : Int := beg p p.st.length
end Go.Proofs.YtpaioaknppgggaaGreatDoor
