/- From the form's reading of an argument to the predicates of the kit: []bool, []byte, []int. -/
import Derived.Test.YtpaioaknppgggaaGreatDoorKit
import Derived.ProofKit
import Derived.Deep.Slices
namespace Go.Proofs.YtpaioaknppgggaaGreatDoor
open Go.RowKit

section
variable {H : Type} {enc : TypeId × Value → H} {P : Program} {w : World} {base : Nat} {spare : Nat → Bool} {held : Bool}

theorem cell_none {a : Addr} {u : Value} (h : w.cell? a = some u) : a.spot = none := by
  unfold World.cell? at h
  split at h
  · split at h
    · cases h
    · rename_i h2; simpa using h2
  · cases h

/-- A slice whose elements are one cell. -/
theorem open_Rd1 {t e : TypeId} {fuel : Nat} {v : Value} {x : DataW H × List MemPlace} (ht : P.underlying t = some (.slice e)) (hc : P.cellsOf e = 1) (h : DataW.trod enc P w base spare held fuel t [v] = some x) :
    ∃ n V, Rd w 0 v 1 n ((List.range n).map V) ∧ ∀ i, i < n → ∃ m y, DataW.trod enc P w base spare held m e [V i] = some y := by
  rcases Go.Deep.open_slice1 ht hc h with ⟨h1, _⟩ | ⟨a, len, cap, m, n, V, D, Pl, h1, hb, hl, hm, hmm, _, hV⟩
  · obtain rfl : v = .slice none 0 0 := by simpa using h1
    exact ⟨0, fun _ => .nilFunc, Rd.nil _ _ _, fun i hi => by omega⟩
  · obtain rfl : v = .slice (some a) len cap := by simpa using h1
    have hle : len ≤ m := by rw [hmm]; split <;> omega
    refine ⟨len, V, ⟨by simp, some a, cap, rfl, hl, hm, fun e => (by cases e), fun hn => ?_⟩, fun i hi => ⟨n, _, (hV i (by omega)).2⟩⟩
    obtain ⟨b, off, spot⟩ := a
    have h0 := (hV 0 (by omega)).1
    have hs := cell_none h0
    have : spot = none := by simpa [Addr.add] using hs
    subst this
    refine ⟨b, off, rfl, Nat.zero_le _, fun i hi => ?_⟩
    simp at hi
    have := (hV i (by omega)).1
    have hadd : (⟨b, off, none⟩ : Addr).add i = ⟨b, off + i, none⟩ := by unfold Addr.add; split <;> simp_all
    rw [hadd] at this
    rw [this]
    simp

theorem range_map_eq {α : Type} [Inhabited α] {f : α → Value} {V : Nat → Value} {n : Nat} (h : ∀ i, i < n → ∃ b, V i = f b) : ∃ xs : List α, xs.length = n ∧ (List.range n).map V = xs.map f ∧ ∀ x ∈ xs, ∃ i, i < n ∧ V i = f x := by
  induction n with
  | zero => exact ⟨[], rfl, rfl, fun x hx => by simp at hx⟩
  | succ n ih =>
    obtain ⟨xs, h1, h2, h3⟩ := ih (fun i hi => h i (by omega))
    obtain ⟨b, hb⟩ := h n (by omega)
    refine ⟨xs ++ [b], by simp [h1], by rw [List.range_succ, List.map_append, List.map_append, h2]; simp [hb], fun x hx => ?_⟩
    rcases List.mem_append.1 hx with hx | hx
    · obtain ⟨i, hi, e⟩ := h3 x hx
      exact ⟨i, by omega, e⟩
    · simp at hx; subst hx; exact ⟨n, by omega, hb⟩

theorem open_Bools {t e : TypeId} {fuel : Nat} {v : Value} {x : DataW H × List MemPlace} (ht : P.underlying t = some (.slice e)) (he : P.underlying e = some .bool) (hc : P.cellsOf e = 1) (h : DataW.trod enc P w base spare held fuel t [v] = some x) :
    ∃ xs, Bools w 0 v xs := by
  obtain ⟨n, V, hr, hV⟩ := open_Rd1 ht hc h
  obtain ⟨xs, h1, h2, _⟩ := range_map_eq (f := Value.bool) (V := V) (n := n) (fun i hi => by
    obtain ⟨m, y, hy⟩ := hV i hi
    obtain ⟨b, hb, _⟩ := DataW.trod_bool he hy
    exact ⟨b, by simpa using hb⟩)
  exact ⟨xs, by unfold Bools; rw [h1, ← h2]; exact hr⟩

theorem open_Ints {t e : TypeId} {fuel : Nat} {v : Value} {x : DataW H × List MemPlace} (ht : P.underlying t = some (.slice e)) (he : P.underlying e = some (.int .i64)) (hc : P.cellsOf e = 1) (h : DataW.trod enc P w base spare held fuel t [v] = some x) :
    ∃ xs, Ints w 0 v xs ∧ ∀ x ∈ xs, in64 x := by
  obtain ⟨n, V, hr, hV⟩ := open_Rd1 ht hc h
  obtain ⟨xs, h1, h2, h3⟩ := range_map_eq (f := Value.int .i64) (V := V) (n := n) (fun i hi => by
    obtain ⟨m, y, hy⟩ := hV i hi
    obtain ⟨b, hb, _⟩ := DataW.trod_int he hy
    exact ⟨b, by simpa using hb⟩)
  refine ⟨xs, by unfold Ints; rw [h1, ← h2]; exact hr, fun x hx => ?_⟩
  obtain ⟨i, hi, e⟩ := h3 x hx
  obtain ⟨m, y, hy⟩ := hV i hi
  obtain ⟨b, hb, _, hwf⟩ := DataW.trod_int he hy
  rw [e] at hb
  obtain rfl : x = b := by simpa using hb
  simpa [in64, Lit.wf, IntKind.min, IntKind.max, IntKind.signed, IntKind.bits] using hwf

theorem open_Bytes {t e : TypeId} {fuel : Nat} {v : Value} {x : DataW H × List MemPlace} (ht : P.underlying t = some (.slice e)) (he : P.underlying e = some (.int .u8)) (hc : P.cellsOf e = 1) (h : DataW.trod enc P w base spare held fuel t [v] = some x) :
    ∃ xs : List UInt8, Rd w 0 v 1 xs.length (xs.map fun b => .int .u8 b.toNat) := by
  obtain ⟨n, V, hr, hV⟩ := open_Rd1 ht hc h
  obtain ⟨xs, h1, h2, h3⟩ := range_map_eq (f := fun b : UInt8 => Value.int .u8 b.toNat) (V := V) (n := n) (fun i hi => by
    obtain ⟨m, y, hy⟩ := hV i hi
    obtain ⟨b, hb, _, hwf⟩ := DataW.trod_int he hy
    have hb2 : 0 ≤ b ∧ b ≤ 255 := by simpa [Lit.wf, IntKind.min, IntKind.max, IntKind.signed, IntKind.bits] using hwf
    refine ⟨UInt8.ofNat b.toNat, ?_⟩
    have : ((UInt8.ofNat b.toNat).toNat : Int) = b := by simp; omega
    rw [this]
    simpa using hb)
  exact ⟨xs, by rw [h1, ← h2]; exact hr⟩
end
end Go.Proofs.YtpaioaknppgggaaGreatDoor
