/- Orders: plain laws of the words. -/
import Derived.Test.YtpaioaknppgggaaGreatDoorRc
namespace Go.Proofs.YtpaioaknppgggaaGreatDoor
open Go.RowKit
set_option linter.unusedVariables false
set_option linter.unusedSimpArgs false

def wordL : List (List UInt8) := [bUp, bDown, bStop, bOpen, bClose, bBoard, bLeave]
theorem word_order {l : List UInt8} {k : Nat} (hk : k < 7) : l = wordL.getD k [] ↔ orderO l = k + 1 := by
  have h : k = 0 ∨ k = 1 ∨ k = 2 ∨ k = 3 ∨ k = 4 ∨ k = 5 ∨ k = 6 := by omega
  constructor
  · intro e
    rcases h with rfl | rfl | rfl | rfl | rfl | rfl | rfl <;> (rw [e]; decide)
  · intro e
    unfold orderO at e
    rcases h with rfl | rfl | rfl | rfl | rfl | rfl | rfl <;> (repeat' split at e) <;> first | (exfalso; omega) | assumption
theorem runL_orders : ∀ (ls : List (List UInt8)) (s : SesV), (∀ l ∈ ls, orderO l ≠ 0) → (runL s ls).2.length = 3 * ls.length
  | [], s, _ => rfl
  | l :: r, s, h => by
    have hl := h l (by simp)
    have e : lineS s l = ordS s (orderO l) := by unfold lineS; rw [if_pos hl]
    have ih := runL_orders r (lineS s l).1 (fun x hx => h x (List.mem_cons_of_mem _ hx))
    show ((lineS s l).2 ++ 10 :: (runL (lineS s l).1 r).2).length = _
    have h2 : (lineS s l).2.length = 2 := by
      rw [e]; unfold ordS; split <;> rfl
    rw [List.length_append, List.length_cons, ih, h2, List.length_cons]; omega
theorem orders_len {ls : List (List UInt8)} {i : Nat} (hi : i < ls.length) (h30 : ls.length ≤ 30) (h : ∀ l ∈ ls.take (i + 1), orderO l ≠ 0) : 3 * i + 3 ≤ (sesO ls).length := by
  obtain ⟨r, hr⟩ := sesO_pre ls (i + 1)
  have hl : (ls.take (i + 1)).length = i + 1 := by rw [List.length_take]; omega
  have h1 : (sesO (ls.take (i + 1))).length = 3 * (i + 1) := by
    unfold sesO
    rw [List.take_of_length_le (by omega), runL_orders _ _ h, hl]
  rw [hr, List.length_append, h1]; omega
/-- The orders so far, behind word k of line i. -/
def accO (p : List Nat) (o k : Nat) : List Nat := if o ≠ 0 ∧ o ≤ k then p ++ [o] else p
theorem accO_zero (p : List Nat) (o : Nat) : accO p o 0 = p := by unfold accO; rw [if_neg (by omega)]
theorem accO_hit (p : List Nat) (k : Nat) : accO p (k + 1) (k + 1) = accO p (k + 1) k ++ [k + 1] := by unfold accO; rw [if_pos (by omega), if_neg (by omega)]
theorem accO_miss (p : List Nat) {o k : Nat} (h : o ≠ k + 1) : accO p o (k + 1) = accO p o k := by
  unfold accO
  by_cases h1 : o ≠ 0 ∧ o ≤ k
  · rw [if_pos h1, if_pos ⟨h1.1, by omega⟩]
  · rw [if_neg h1, if_neg (fun x => h1 ⟨x.1, by omega⟩)]
theorem accO_end (p : List Nat) {o : Nat} (h : o ≤ 7) : accO p o 7 = if o = 0 then p else p ++ [o] := by
  unfold accO
  by_cases h1 : o = 0
  · rw [if_pos h1, if_neg (fun x => x.1 h1)]
  · rw [if_neg h1, if_pos ⟨h1, h⟩]
theorem orders_end {ls : List (List UInt8)} (h30 : ls.length ≤ 30) (h : ∀ l ∈ ls, orderO l ≠ 0) (hne : ranC car0 (ls.map orderO) ≠ ls.length) :
    3 * ranC car0 (ls.map orderO) + 3 ≤ (sesO ls).length ∧ ((sesO ls).take (3 * ranC car0 (ls.map orderO) + 3)).drop (3 * ranC car0 (ls.map orderO)) = [110, 111, 10] := by
  have := ses_orders ls ses0 h hne
  unfold sesO
  rw [List.take_of_length_le h30]
  refine ⟨this.1, ?_⟩
  rw [List.drop_take]
  have e : 3 * ranC car0 (ls.map orderO) + 3 - 3 * ranC car0 (ls.map orderO) = 3 := by omega
  rw [e]
  exact this.2
theorem take_map_succ {ls : List (List UInt8)} {i : Nat} (hi : i < ls.length) : (ls.take (i + 1)).map orderO = (ls.take i).map orderO ++ [orderO (ls.getD i [])] := by
  rw [List.take_succ_eq_append_getElem hi, List.getD_eq_getElem?_getD, List.getElem?_eq_getElem hi, List.map_append]; rfl
end Go.Proofs.YtpaioaknppgggaaGreatDoor
