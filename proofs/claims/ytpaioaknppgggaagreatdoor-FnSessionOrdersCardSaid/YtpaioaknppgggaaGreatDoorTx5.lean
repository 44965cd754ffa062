/- Texts of stages: plain; formatStages, validStages, FormatStages: the reference's. -/
import Derived.Test.YtpaioaknppgggaaGreatDoorTx4
namespace Go.Proofs.YtpaioaknppgggaaGreatDoor
open Go.RowKit
set_option linter.unusedVariables false
set_option linter.unusedSimpArgs false

def mvT (ph : List Int) : List UInt8 := ph.map fun m => UInt8.ofNat (97 + m.toNat)
def stT (s : Stg) : List UInt8 := mvT s.ph ++ (58 :: Lib.decDigits s.gr.toNat)
def sepT (k : Nat) : List UInt8 := if 0 < k then [32] else []
def txt (ss : List Stg) : Nat → List UInt8
  | 0 => []
  | k + 1 => txt ss k ++ sepT k ++ stT (ss.getD k s0)
def stOkT (s : Stg) : Bool := movesB s.ph 8 && inR s.gr 5 40
def okSt (ss : List Stg) : Bool := ss.all stOkT && inR ss.length 1 5
def fmtO (ss : List Stg) : List UInt8 := if okSt ss = true then txt ss ss.length else []
theorem okSt_iff {ss : List Stg} : okSt ss = true ↔ (∀ i, i < ss.length → stOkT (ss.getD i s0) = true) ∧ 1 ≤ ss.length ∧ ss.length ≤ 5 := by
  unfold okSt
  rw [Bool.and_eq_true, List.all_eq_true, inR_iff]
  constructor
  · rintro ⟨h1, h2, h3⟩
    exact ⟨fun i hi => h1 _ (by rw [List.getD_eq_getElem?_getD, List.getElem?_eq_getElem hi]; simp), by omega, by omega⟩
  · rintro ⟨h1, h2, h3⟩
    refine ⟨fun x hx => ?_, by omega, by omega⟩
    obtain ⟨i, hi, rfl⟩ := List.getElem_of_mem hx
    have := h1 i hi
    rw [List.getD_eq_getElem?_getD, List.getElem?_eq_getElem hi] at this
    simpa using this
theorem moves_len {xs : List Int} (h : movesB xs 8 = true) : xs.length ≤ 8 := by
  have h' := h
  unfold movesB at h'
  rw [Bool.and_eq_true] at h'
  have ha := ascB_iff.1 h'.2
  have hb := allB_get.1 h'.1
  have key : ∀ i, i < xs.length → (i : Int) ≤ xs.getD i 0 := by
    intro i
    induction i with
    | zero => intro hi; exact (hb 0 hi).1
    | succ i ih =>
      intro hi
      have a := ih (by omega)
      rcases ha (i + 1) hi with e | e
      · omega
      · rw [Nat.add_sub_cancel] at e; omega
  by_cases h0 : xs.length = 0
  · omega
  · have a := key (xs.length - 1) (by omega)
    have b := hb (xs.length - 1) (by omega)
    omega
theorem stOkT_iff {s : Stg} : stOkT s = true ↔ movesB s.ph 8 = true ∧ 5 ≤ s.gr ∧ s.gr ≤ 40 := by
  unfold stOkT; rw [Bool.and_eq_true, inR_iff]
theorem moves_in {xs : List Int} (h : movesB xs 8 = true) {i : Nat} (hi : i < xs.length) : 0 ≤ xs.getD i 0 ∧ xs.getD i 0 ≤ 7 := by
  unfold movesB at h
  rw [Bool.and_eq_true] at h
  exact allB_get.1 h.1 i hi
theorem dec_2 {n : Nat} (h : n < 100) : (Lib.decDigits n).length ≤ 7 := dec_len n (by omega)
theorem stT_len {s : Stg} (h : stOkT s = true) : (stT s).length ≤ 20 := by
  obtain ⟨h1, h2, h3⟩ := stOkT_iff.1 h
  have := moves_len h1
  have := dec_2 (n := s.gr.toNat) (by omega)
  simp only [stT, mvT, List.length_append, List.length_map, List.length_cons]
  omega
theorem sepT_len (k : Nat) : (sepT k).length ≤ 1 := by unfold sepT; split <;> simp
theorem txt_len {ss : List Stg} (h : okSt ss = true) : ∀ k, k ≤ ss.length → (txt ss k).length ≤ 21 * k := by
  intro k
  induction k with
  | zero => intro _; simp [txt]
  | succ k ih =>
    intro hk
    have a := ih (by omega)
    have b := stT_len ((okSt_iff.1 h).1 k (by omega))
    have c := sepT_len k
    simp only [txt, List.length_append]
    omega
theorem mvT_snoc (ph : List Int) {j : Nat} (hj : j < ph.length) : mvT (ph.take (j + 1)) = mvT (ph.take j) ++ [UInt8.ofNat (97 + (ph.getD j 0).toNat)] := by
  rw [List.take_succ_eq_append_getElem hj]
  unfold mvT
  rw [List.map_append, List.getD_eq_getElem?_getD, List.getElem?_eq_getElem hj]
  rfl
theorem addS (A B : ByteArray) (hA : A.size ≤ 1000000) (hB : B.size ≤ 1000000) : ∃ C, A ++ B = C ∧ ∀ W : World, (Op.stringOp .add A B).run Tryz.prog W = .ok (.string C) W :=
  ⟨_, rfl, fun W => run_string_add_sum W A B (by omega)⟩
end Go.Proofs.YtpaioaknppgggaaGreatDoor
