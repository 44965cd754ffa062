/- What the four session laws share: the draw as lines that stay, and both RunSessions with one string. -/
import Derived.Test.YtpaioaknppgggaaGreatDoorDr2
namespace Go.Proofs.YtpaioaknppgggaaGreatDoor
open Go.RowKit
set_option linter.unusedVariables false
set_option linter.unusedSimpArgs false

theorem lnsD_of_own {w : World} {lo : Nat} {v : Value} {ls : List (List UInt8)} (h : Own w lo 9 1 v ls.length (ls.map strV)) : LnsR w 0 v ls := h.rd.mono (Nat.zero_le _)
theorem lns_below {w V : World} {v : Value} {ls : List (List UInt8)} (h : LnsR w 0 v ls) (hb : Below w.heap.size w V) : LnsR V 0 v ls := Rd.below h hb (Nat.le_refl _) (by decide)
theorem lns_take {w : World} {ao : Option Addr} {n cap : Nat} {ls : List (List UInt8)} (h : LnsR w 0 (.slice ao n cap) ls) (hn : n = ls.length) {k : Nat} (hk : k ≤ n) : LnsR w 0 (.slice ao k cap) (ls.take k) := by
  unfold LnsR at h ⊢
  rw [← hn] at h
  have := Rd.take h hk
  have e : (ls.take k).length = k := by rw [List.length_take]; omega
  rw [e, List.map_take]
  exact this
/-- The string of a session. -/
def bsO (ls : List (List UInt8)) : ByteArray := ⟨(sesO ls).toArray⟩
theorem bsO_str (ls : List (List UInt8)) : Str8 (bsO ls) (sesO ls) := rfl
theorem runS_spec (V : World) (u : Value) (ls : List (List UInt8)) (hu : LnsR V 0 u ls) (hl : ∀ x ∈ ls, x.length ≤ 1000000000) :
    Calls Tryz.prog 10 #[u] V fun e w' => e = .returned (.string (bsO ls)) ∧ Below V.heap.size V w' := by
  refine (spec_runSession V 0 u ls hu hl).mono ?_
  rintro e w' ⟨S, rfl, hS, hb⟩
  unfold Str8 at hS
  rw [hS]; exact ⟨rfl, hb⟩
theorem runS_impl (V : World) (u : Value) (ls : List (List UInt8)) (hu : LnsR V 0 u ls) (hl : ∀ x ∈ ls, x.length ≤ 1000000000) (hg : GW V) :
    Calls Tryz.prog 9 #[u] V fun e w' => e = .returned (.string (bsO ls)) ∧ Below V.heap.size V w' := by
  refine (impl_runSession V 0 u ls hu hl hg).mono ?_
  rintro e w' ⟨S, rfl, hS, hb⟩
  unfold Str8 at hS
  rw [hS]; exact ⟨rfl, hb⟩
theorem few_big {ls : List (List UInt8)} {n m : Nat} (h : fewL ls n m) (hm : m ≤ 1000000000) : ∀ x ∈ ls, x.length ≤ 1000000000 := fun x hx => Nat.le_trans (h.2 x hx) hm
theorem sesO_len (ls : List (List UInt8)) : (sesO ls).length ≤ 111 * ls.length := by
  have h := runL_len (ls.take 30) ses0_ok
  rw [List.length_take] at h
  unfold sesO
  omega
theorem same_str (D : ByteArray) : (D.toList == D.toList) = true ∧ (D.toList != D.toList) = false := by simp
end Go.Proofs.YtpaioaknppgggaaGreatDoor
