/- Owned stages; their copies, sizes and comparisons by the statements' functions toStage, toStageS, szStageS, eqStageS. -/
import Derived.Test.YtpaioaknppgggaaGreatDoorTx2
import Derived.Test.YtpaioaknppgggaaGreatDoorSlI
import Derived.Test.YtpaioaknppgggaaGreatDoorApart
import Derived.StillTailTactics
import Derived.Deep.RegionHeld3
import Derived.ProofKit
namespace Go.Proofs.YtpaioaknppgggaaGreatDoor
open Go.RowKit
set_option linter.unusedVariables false
set_option linter.unusedSimpArgs false

theorem Own.store {w : World} {lo : Nat} {e : TypeId} {sz n g len cap : Nat} {cs : List Value} (h : Own w lo e sz (.slice (some ⟨g, 0, none⟩) len cap) n cs) (hn : 0 < n) (i : Nat) (u : Value) :
    Own (w.setCell ⟨g, i, none⟩ u) lo e sz (.slice (some ⟨g, 0, none⟩) len cap) n (cs.set i u) ∧ w.grownBy (w.setCell ⟨g, i, none⟩ u) (some g) := by
  obtain ⟨g', e1, _, _, _, _, hset⟩ := h.parts hn
  cases e1
  exact hset i u

theorem Own.drewN {w : World} {lo : Nat} {e : TypeId} {sz : Nat} {v : Value} {n : Nat} {cs : List Value} (h : Own w lo e sz v n cs) (m : Nat) : Own (w.drewN m) lo e sz v n cs :=
  h.grown (row := none) ⟨rfl, rfl, rfl, Nat.le_refl _, fun _ _ _ => rfl⟩ (fun _ e => by cases e)

/-- k rows, each in a block of its own. -/
def RowsO (w : World) (lo : Nat) (hs : List Value) (t : List (List Int)) (k : Nat) : Prop :=
  hs.length = k ∧ (∀ j, j < k → Own w lo 3 1 (hs.getD j .nilFunc) (t.getD j []).length ((t.getD j []).map (.int .i64))) ∧
  ∀ i j, i < k → j < k → i ≠ j → Apart (hs.getD i .nilFunc) (hs.getD j .nilFunc)
theorem RowsO.nil (w : World) (lo : Nat) (t : List (List Int)) : RowsO w lo [] t 0 := ⟨rfl, fun j hj => absurd hj (Nat.not_lt_zero _), fun i j hi => absurd hi (Nat.not_lt_zero _)⟩
theorem RowsO.mono {w : World} {lo lo' : Nat} {hs : List Value} {t : List (List Int)} {k : Nat} (h : RowsO w lo hs t k) (hl : lo' ≤ lo) : RowsO w lo' hs t k :=
  ⟨h.1, fun j hj => (h.2.1 j hj).mono hl, h.2.2⟩
theorem RowsO.grown {w w' : World} {lo : Nat} {hs : List Value} {t : List (List Int)} {k : Nat} {row : Option Nat} (h : RowsO w lo hs t k) (hg : w.grownBy w' row) (hr : ∀ q, row = some q → q < lo ∨ ∀ j, j < k → wblk (hs.getD j .nilFunc) ≠ some q) : RowsO w' lo hs t k :=
  ⟨h.1, fun j hj => (h.2.1 j hj).grown_w hg (fun q hq => by
    rcases hr q hq with h | h
    · exact .inl h
    · exact .inr (h j hj)), h.2.2⟩
theorem RowsO.below {w w' : World} {lo B : Nat} {hs : List Value} {t : List (List Int)} {k : Nat} (h : RowsO w lo hs t k) (hb : Below B w w') (hB : w.heap.size ≤ B) : RowsO w' lo hs t k :=
  ⟨h.1, fun j hj => (h.2.1 j hj).below hb hB, h.2.2⟩
theorem getD_snoc_lt {hs : List Value} {u : Value} {j : Nat} (h : j < hs.length) : (hs ++ [u]).getD j .nilFunc = hs.getD j .nilFunc := by
  simp [List.getD_eq_getElem?_getD, List.getElem?_append_left h]
theorem getD_snoc_eq (hs : List Value) (u : Value) : (hs ++ [u]).getD hs.length .nilFunc = u := by
  simp [List.getD_eq_getElem?_getD]
/-- One row more: what is made later lies in later blocks. -/
theorem RowsO.snoc {w w' : World} {lo : Nat} {hs : List Value} {t : List (List Int)} {k : Nat} {u : Value} (h : RowsO w lo hs t k) (hb : Below w.heap.size w w') (hO : Own w' w.heap.size 3 1 u (t.getD k []).length ((t.getD k []).map (.int .i64))) (hlo : lo ≤ w.heap.size) :
    RowsO w' lo (hs ++ [u]) t (k + 1) := by
  have h' := h.below hb (Nat.le_refl _)
  have old : ∀ j, j < k → (hs ++ [u]).getD j .nilFunc = hs.getD j .nilFunc := fun j hj => getD_snoc_lt (by rw [h.1]; exact hj)
  have new : (hs ++ [u]).getD k .nilFunc = u := by rw [← h.1]; exact getD_snoc_eq hs u
  refine ⟨by simp [h.1], fun j hj => ?_, fun i j hi hj hij => ?_⟩
  · by_cases e : j = k
    · subst e; rw [new]; exact hO.mono hlo
    · rw [old j (by omega)]; exact h'.2.1 j (by omega)
  · have key : ∀ j, j < k → Apart u (hs.getD j .nilFunc) := fun j hj q hq hq' => by
      have := (hO.wblk hq).1; have := ((h.2.1 j hj).wblk hq').2; omega
    by_cases ei : i = k
    · subst ei; rw [new, old j (by omega)]; exact key j (by omega)
    · by_cases ej : j = k
      · subst ej; rw [new, old i (by omega)]; exact (key i (by omega)).symm
      · rw [old i (by omega), old j (by omega)]; exact h'.2.2 i j (by omega) (by omega) hij
theorem RowsO.lt {w : World} {lo : Nat} {hs : List Value} {t : List (List Int)} {k : Nat} (h : RowsO w lo hs t k) {j : Nat} (hj : j < k) {q : Nat} (hq : wblk (hs.getD j .nilFunc) = some q) : lo ≤ q ∧ q < w.heap.size := (h.2.1 j hj).wblk hq

/-- A table that the call owns. -/
def OwnSS (w : World) (lo : Nat) (v : Value) (t : List (List Int)) : Prop :=
  ∃ hs, Own w lo 27 1 v t.length hs ∧ RowsO w lo hs t t.length ∧ ∀ j, j < t.length → Apart v (hs.getD j .nilFunc)
theorem OwnSS.mono {w : World} {lo lo' : Nat} {v : Value} {t : List (List Int)} (h : OwnSS w lo v t) (hl : lo' ≤ lo) : OwnSS w lo' v t := by
  obtain ⟨hs, h1, h2, h3⟩ := h; exact ⟨hs, h1.mono hl, h2.mono hl, h3⟩
theorem OwnSS.below {w w' : World} {lo B : Nat} {v : Value} {t : List (List Int)} (h : OwnSS w lo v t) (hb : Below B w w') (hB : w.heap.size ≤ B) : OwnSS w' lo v t := by
  obtain ⟨hs, h1, h2, h3⟩ := h; exact ⟨hs, h1.below hb hB, h2.below hb hB, h3⟩
theorem OwnSS.grown {w w' : World} {lo : Nat} {v : Value} {t : List (List Int)} {row : Option Nat} (h : OwnSS w lo v t) (hg : w.grownBy w' row) (hr : ∀ q, row = some q → q < lo) : OwnSS w' lo v t := by
  obtain ⟨hs, h1, h2, h3⟩ := h; exact ⟨hs, h1.grown hg (fun q hq => .inl (hr q hq)), h2.grown hg (fun q hq => .inl (hr q hq)), h3⟩
theorem OwnSS.ss {w : World} {lo : Nat} {v : Value} {t : List (List Int)} (h : OwnSS w lo v t) : IntSS w lo v t := by
  obtain ⟨hs, h1, h2, _⟩ := h
  exact ⟨hs, h1.rd, fun i hi => (h2.2.1 i hi).rd⟩

/-- Stages that the call owns. -/
def stgCells (hs : List Value) (ss : List Stg) : List Value := (List.range ss.length).flatMap fun i => [hs.getD i .nilFunc, .int .i64 (ss.getD i s0).gr]
def phsOf (ss : List Stg) : List (List Int) := ss.map Stg.ph
theorem phsOf_get {ss : List Stg} {i : Nat} (hi : i < ss.length) : (phsOf ss).getD i [] = (ss.getD i s0).ph := by simp [phsOf, hi]
theorem stgCells_len (hs : List Value) (ss : List Stg) : (stgCells hs ss).length = ss.length * 2 := by
  unfold stgCells
  have key : ∀ l : List Nat, (l.flatMap fun i => ([hs.getD i .nilFunc, .int .i64 (ss.getD i s0).gr] : List Value)).length = l.length * 2 := by
    intro l
    induction l with
    | nil => rfl
    | cons x r ih => rw [List.flatMap_cons, List.length_append, ih]; simp; omega
  rw [key]; simp
def OwnStg (w : World) (lo : Nat) (v : Value) (ss : List Stg) : Prop :=
  ∃ hs, Own w lo 85 2 v ss.length (stgCells hs ss) ∧ RowsO w lo hs (phsOf ss) ss.length ∧ ∀ j, j < ss.length → Apart v (hs.getD j .nilFunc)
theorem OwnStg.mono {w : World} {lo lo' : Nat} {v : Value} {t : List Stg} (h : OwnStg w lo v t) (hl : lo' ≤ lo) : OwnStg w lo' v t := by
  obtain ⟨hs, h1, h2, h3⟩ := h; exact ⟨hs, h1.mono hl, h2.mono hl, h3⟩
theorem OwnStg.below {w w' : World} {lo B : Nat} {v : Value} {t : List Stg} (h : OwnStg w lo v t) (hb : Below B w w') (hB : w.heap.size ≤ B) : OwnStg w' lo v t := by
  obtain ⟨hs, h1, h2, h3⟩ := h; exact ⟨hs, h1.below hb hB, h2.below hb hB, h3⟩
theorem OwnStg.grown {w w' : World} {lo : Nat} {v : Value} {t : List Stg} {row : Option Nat} (h : OwnStg w lo v t) (hg : w.grownBy w' row) (hr : ∀ q, row = some q → q < lo) : OwnStg w' lo v t := by
  obtain ⟨hs, h1, h2, h3⟩ := h; exact ⟨hs, h1.grown hg (fun q hq => .inl (hr q hq)), h2.grown hg (fun q hq => .inl (hr q hq)), h3⟩
theorem OwnStg.stg {w : World} {lo : Nat} {v : Value} {t : List Stg} (h : OwnStg w lo v t) : StgS w lo v t := by
  obtain ⟨hs, h1, h2, _⟩ := h
  refine ⟨hs, h1.rd, fun i hi => ?_⟩
  have := (h2.2.1 i hi).rd
  rw [phsOf_get hi] at this
  exact this

/-- A table whose blocks lie below a bound. -/
def OwnSSh (w : World) (lo hi : Nat) (v : Value) (t : List (List Int)) : Prop :=
  ∃ hs, Own w lo 27 1 v t.length hs ∧ RowsO w lo hs t t.length ∧ (∀ j, j < t.length → Apart v (hs.getD j .nilFunc)) ∧ (∀ q, wblk v = some q → q < hi) ∧ ∀ j, j < t.length → ∀ q, wblk (hs.getD j .nilFunc) = some q → q < hi
theorem OwnSS.up {w : World} {lo : Nat} {v : Value} {t : List (List Int)} (h : OwnSS w lo v t) : OwnSSh w lo w.heap.size v t := by
  obtain ⟨hs, h1, h2, h3⟩ := h
  exact ⟨hs, h1, h2, h3, fun q hq => (h1.wblk hq).2, fun j hj q hq => (h2.lt hj hq).2⟩
theorem OwnSSh.own {w : World} {lo hi : Nat} {v : Value} {t : List (List Int)} (h : OwnSSh w lo hi v t) : OwnSS w lo v t := by
  obtain ⟨hs, h1, h2, h3, _⟩ := h; exact ⟨hs, h1, h2, h3⟩
theorem OwnSSh.grown {w w' : World} {lo hi : Nat} {v : Value} {t : List (List Int)} {row : Option Nat} (h : OwnSSh w lo hi v t) (hg : w.grownBy w' row) (hr : ∀ q, row = some q → q < lo ∨ hi ≤ q) : OwnSSh w' lo hi v t := by
  obtain ⟨hs, h1, h2, h3, h4, h5⟩ := h
  refine ⟨hs, h1.grown_w hg (fun q hq => ?_), h2.grown hg (fun q hq => ?_), h3, h4, h5⟩
  · rcases hr q hq with h | h
    · exact .inl h
    · exact .inr (fun e => by have := h4 q e; omega)
  · rcases hr q hq with h | h
    · exact .inl h
    · exact .inr (fun j hj e => by have := h5 j hj q e; omega)
theorem OwnSSh.below {w w' : World} {lo hi B : Nat} {v : Value} {t : List (List Int)} (h : OwnSSh w lo hi v t) (hb : Below B w w') (hB : w.heap.size ≤ B) : OwnSSh w' lo hi v t := by
  obtain ⟨hs, h1, h2, h3, h4, h5⟩ := h; exact ⟨hs, h1.below hb hB, h2.below hb hB, h3, h4, h5⟩
theorem OwnSSh.mono {w : World} {lo lo' hi : Nat} {v : Value} {t : List (List Int)} (h : OwnSSh w lo hi v t) (hl : lo' ≤ lo) : OwnSSh w lo' hi v t := by
  obtain ⟨hs, h1, h2, h3⟩ := h; exact ⟨hs, h1.mono hl, h2.mono hl, h3⟩

def SSRet (w : World) (t : List (List Int)) (e : Ending) (w' : World) : Prop := ∃ v', e = .returned v' ∧ OwnSS w' w.heap.size v' t ∧ Below w.heap.size w w'
theorem info_isl : (Tryz.prog.info? 27).map (fun i => (i.zero, i.size, i.bytes)) = some (some (.slice none 0 0), 1, 24) := by kernel_rfl
theorem info_stg : (Tryz.prog.info? 85).map (fun i => (i.zero, i.size, i.bytes)) = some (some (.agg #[.slice none 0 0, .int .i64 0]), 2, 32) := by kernel_rfl

def StageRet (w : World) (row : List Int) (gr : Int) (e : Ending) (w' : World) : Prop := ∃ v', e = .returned (.agg #[v', .int .i64 gr]) ∧ Own w' w.heap.size 3 1 v' row.length (row.map (.int .i64)) ∧ Below w.heap.size w w'
theorem stgCells_eq {cs hs : List Value} {ss : List Stg} (hl : cs.length = ss.length * 2) (h : ∀ j, j < ss.length → cs[j * 2]? = some (hs.getD j .nilFunc) ∧ cs[j * 2 + 1]? = some (.int .i64 (ss.getD j s0).gr)) : cs = stgCells hs ss := by
  apply List.ext_getElem?
  intro i
  by_cases hi : i < ss.length * 2
  · have hj : i / 2 < ss.length := by omega
    have hf := flat2_get (f := fun i => ([hs.getD i .nilFunc, .int .i64 (ss.getD i s0).gr] : List Value)) (fun _ => rfl) ss.length (i / 2) (i % 2) hj (by omega)
    unfold stgCells
    rw [show i / 2 * 2 + i % 2 = i by omega] at hf
    rw [hf]
    rcases Nat.mod_two_eq_zero_or_one i with e | e
    · rw [e]
      have := (h (i / 2) hj).1
      rw [show i / 2 * 2 = i by omega] at this
      rw [this]; rfl
    · rw [e]
      have := (h (i / 2) hj).2
      rw [show i / 2 * 2 + 1 = i by omega] at this
      rw [this]; rfl
  · rw [List.getElem?_eq_none (by omega), List.getElem?_eq_none (by rw [stgCells_len]; omega)]

def StgRet (w : World) (ss : List Stg) (e : Ending) (w' : World) : Prop := ∃ v', e = .returned v' ∧ OwnStg w' w.heap.size v' ss ∧ Below w.heap.size w w'
theorem cell_grown {w : World} {b b' : Nat} (u : Value) (o : Nat) : w.grownBy (w.setCell ⟨b, o, none⟩ u) (some b) :=
  ⟨rfl, rfl, rfl, by simp [World.setCell], fun k _ hk => Below.heap_setCell _ _ _ _ (fun e => hk (by rw [e]))⟩
/-- What is left of a budget: less than nothing is -1. -/
def SzOk (left : Int) (r : Int) (Q : Prop) : Prop := r ≤ left ∧ (r < 0 → r = -1) ∧ (0 ≤ r → Q)
def SzRet (w : World) (left : Int) (Q : Prop) (e : Ending) (w' : World) : Prop := ∃ r : Int, e = .returned (.int .i64 r) ∧ SzOk left r Q ∧ Below w.heap.size w w'

end Go.Proofs.YtpaioaknppgggaaGreatDoor
