/- Several slices that the call owns, apart from each other; nothing of the program is used. -/
import Derived.Test.YtpaioaknppgggaaGreatDoorKit
namespace Go.Proofs.YtpaioaknppgggaaGreatDoor
open Go.RowKit

def Apart (a b : Value) : Prop := ∀ k, wblk a = some k → wblk b ≠ some k
theorem Apart.symm {a b : Value} (h : Apart a b) : Apart b a := fun k hb ha => h k ha hb
theorem Apart.step {w : World} {lo : Nat} {e : TypeId} {sz n : Nat} {a b b' : Value} {cs : List Value} (h : Apart a b) (ha : Own w lo e sz a n cs) (hb : ∀ k, wblk b' = some k → wblk b = some k ∨ w.heap.size ≤ k) : Apart a b' := by
  intro k hk hk'
  rcases hb k hk' with h' | h'
  · exact h k hk h'
  · have := (ha.wblk hk).2; omega

theorem Own.grown_w {w w' : World} {lo : Nat} {e : TypeId} {sz : Nat} {v : Value} {n : Nat} {cs : List Value} {row : Option Nat} (h : Own w lo e sz v n cs) (hg : w.grownBy w' row)
    (hr : ∀ k, row = some k → k < lo ∨ YtpaioaknppgggaaGreatDoor.wblk v ≠ some k) : Own w' lo e sz v n cs := by
  obtain ⟨ao, cap, rfl, hn, _⟩ := h.form
  by_cases hc : cap = 0
  · subst hc
    have hn0 : n = 0 := by omega
    subst hn0
    have := h.len
    exact .inr ⟨rfl, List.eq_nil_of_length_eq_zero (by simpa using this), ao, rfl⟩
  · refine h.grown hg (fun k hk => ?_)
    rcases hr k hk with h' | h'
    · exact .inl h'
    · right; intro e; apply h'
      cases ao with
      | none => simp [Value.ownBlock] at e
      | some a => simpa [YtpaioaknppgggaaGreatDoor.wblk, hc, Value.ownBlock] using e

/-- One list grows, another stays. -/
theorem Own.beside {w w' : World} {lo : Nat} {e : TypeId} {sz : Nat} {v v2 : Value} {n : Nat} {cs : List Value} (h : Own w lo e sz v n cs) (hg : w.grownBy w' (YtpaioaknppgggaaGreatDoor.wblk v2)) (ha : Apart v2 v) : Own w' lo e sz v n cs :=
  h.grown_w hg (fun k hk => .inr (ha k hk))
end Go.Proofs.YtpaioaknppgggaaGreatDoor
