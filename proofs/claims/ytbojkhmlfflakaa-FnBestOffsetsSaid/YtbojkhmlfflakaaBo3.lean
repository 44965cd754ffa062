/- Filling a row from its end: plain; no program. -/
import Derived.Test.YtbojkhmlfflakaaBo2
namespace Go.Proofs.Ytbojkhmlfflakaa
set_option linter.unusedVariables false
set_option linter.unusedSimpArgs false

theorem dgs_get {c : Nat} : ∀ (n w j : Nat), j < n → (dgs c n w).getD (n - 1 - j) 0 = (((w / c ^ j) % c : Nat) : Int) := by
  intro n
  induction n with
  | zero => intro w j h; omega
  | succ n ih =>
    intro w j hj
    have hl := dgs_len c n (w / c)
    cases j with
    | zero =>
      simp only [dgs, List.getD_eq_getElem?_getD]
      rw [List.getElem?_append_right (by omega), hl]
      simp
    | succ j =>
      have h := ih (w / c) j (by omega)
      rw [List.getD_eq_getElem?_getD] at h
      simp only [dgs, List.getD_eq_getElem?_getD]
      rw [List.getElem?_append_left (by omega), show n + 1 - 1 - (j + 1) = n - 1 - j by omega, h, Nat.div_div_eq_div_mul, Nat.pow_succ, Nat.mul_comm c]
/-- The last k places of L are those of T. -/
def fil (L T : List Int) (k : Nat) : List Int := L.take (T.length - k) ++ T.drop (T.length - k)
theorem fil_len {L T : List Int} (h : L.length = T.length) (k : Nat) : (fil L T k).length = T.length := by
  simp [fil, h]
theorem fil_zero {L T : List Int} (h : L.length = T.length) : fil L T 0 = L := by
  simp [fil, ← h]
theorem fil_all {L T : List Int} {k : Nat} (hk : T.length ≤ k) : fil L T k = T := by
  have e : T.length - k = 0 := by omega
  simp [fil, e]
theorem fil_get {L T : List Int} (h : L.length = T.length) (k i : Nat) : (fil L T k)[i]? = if i < T.length - k then L[i]? else T[i]? := by
  unfold fil
  have hl : (L.take (T.length - k)).length = T.length - k := by simp; omega
  by_cases hi : i < T.length - k
  · rw [if_pos hi, List.getElem?_append_left (by omega), List.getElem?_take, if_pos hi]
  · rw [if_neg hi, List.getElem?_append_right (by omega), hl, List.getElem?_drop]
    congr 1; omega
theorem fil_set {L T : List Int} (h : L.length = T.length) {k : Nat} (hk : k < T.length) {x : Int} (hx : x = T.getD (T.length - 1 - k) 0) : (fil L T k).set (T.length - 1 - k) x = fil L T (k + 1) := by
  apply List.ext_getElem?
  intro i
  rw [List.getElem?_set, fil_len h, fil_get h, fil_get h]
  by_cases e : T.length - 1 - k = i
  · rw [if_pos e, if_pos (by omega), if_neg (by omega), hx, e]
    rw [List.getD_eq_getElem?_getD, List.getElem?_eq_getElem (by omega)]; rfl
  · rw [if_neg e]
    by_cases h1 : i < T.length - k
    · rw [if_pos h1, if_pos (by omega)]
    · rw [if_neg h1, if_neg (by omega)]
theorem fil_but1 {L T : List Int} (h : L.length = T.length) (hn : 0 < T.length) (h0 : L.getD 0 0 = T.getD 0 0) : fil L T (T.length - 1) = T := by
  apply List.ext_getElem?
  intro i
  rw [fil_get h]
  by_cases hi : i < T.length - (T.length - 1)
  · rw [if_pos hi]
    have : i = 0 := by omega
    subst this
    rw [List.getD_eq_getElem?_getD, List.getD_eq_getElem?_getD, List.getElem?_eq_getElem (by omega), List.getElem?_eq_getElem (by omega)] at h0
    rw [List.getElem?_eq_getElem (by omega), List.getElem?_eq_getElem (by omega)]
    simpa using h0
  · rw [if_neg hi]
theorem way_get {s : Str} (hv : validS s = true) (w : Nat) {j : Nat} (hj : j < s.gr.length - 1) : (way s w).getD (s.gr.length - 1 - j) 0 = (((w / s.cy.toNat ^ j) % s.cy.toNat : Nat) : Int) := by
  have h := dgs_get (c := s.cy.toNat) (s.gr.length - 1) w j hj
  unfold way
  obtain ⟨m, hm⟩ : ∃ m, s.gr.length - 1 - j = m + 1 := ⟨s.gr.length - 1 - j - 1, by omega⟩
  rw [hm, List.getD_cons_succ]
  rw [show s.gr.length - 1 - 1 - j = m by omega] at h
  exact h
/-- Powers as they are counted. -/
theorem pow_step (c i : Nat) : c ^ (i + 1) = c ^ i * c := Nat.pow_succ ..
theorem pow_cap {c i n : Nat} (hc : 1 ≤ c) (hc2 : c ≤ 30) (hi : i ≤ n) (hn : n ≤ 3) : c ^ i ≤ 27000 := by
  have h1 : c ^ i ≤ 30 ^ i := Nat.pow_le_pow_left hc2 i
  have h2 : 30 ^ i ≤ 30 ^ 3 := Nat.pow_le_pow_right (by omega) (by omega)
  have h3 : 30 ^ 3 = 27000 := by decide
  omega
end Go.Proofs.Ytbojkhmlfflakaa
