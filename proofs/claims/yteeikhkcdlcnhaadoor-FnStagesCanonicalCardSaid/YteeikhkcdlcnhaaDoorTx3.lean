/- Owned stages; their copies, sizes and comparisons by the statements' functions toStage, toStageS, szStageS, eqStageS. -/
import Derived.Test.YteeikhkcdlcnhaaDoorTx2
import Derived.Test.YteeikhkcdlcnhaaDoorSlI
import Derived.Test.YteeikhkcdlcnhaaDoorApart
import Derived.StillTailTactics
import Derived.Deep.RegionHeld3
import Derived.ProofKit
namespace Go.Proofs.YteeikhkcdlcnhaaDoor
open Go.RowKit
set_option linter.unusedVariables false
set_option linter.unusedSimpArgs false

theorem Own.store {w : World} {lo : Nat} {e : TypeId} {sz n g len cap : Nat} {cs : List Value} (h : Own w lo e sz (.slice (some ⟨g, 0, none⟩) len cap) n cs) (hn : 0 < n) (i : Nat) (u : Value) :
    Own (w.setCell ⟨g, i, none⟩ u) lo e sz (.slice (some ⟨g, 0, none⟩) len cap) n (cs.set i u) ∧ w.grownBy (w.setCell ⟨g, i, none⟩ u) (some g) := by
  obtain ⟨g', e1, _, _, _, _, hset⟩ := h.parts hn
  cases e1
  exact hset i u

theorem Own.drewN {w : World} {lo : Nat} {e : TypeId} {sz : Nat} {v : Value} {n : Nat} {cs : List Value} (h : Own w lo e sz v n cs) (m : Nat) : Own (w.drewN m) lo e sz v n cs :=
  h.grown (row := none) ⟨rfl, rfl, rfl, Nat.le_refl _, fun _ _ _ => rfl⟩ (fun _ e => by cases e)

/-- k rows, each in a block of its own. -/
def RowsO (w : World) (lo : Nat) (hs : List Value) (t : List (List Int)) (k : Nat) : Prop :=
  hs.length = k ∧ (∀ j, j < k → Own w lo 3 1 (hs.getD j .nilFunc) (t.getD j []).length ((t.getD j []).map (.int .i64))) ∧
  ∀ i j, i < k → j < k → i ≠ j → Apart (hs.getD i .nilFunc) (hs.getD j .nilFunc)
theorem RowsO.nil (w : World) (lo : Nat) (t : List (List Int)) : RowsO w lo [] t 0 := ⟨rfl, fun j hj => absurd hj (Nat.not_lt_zero _), fun i j hi => absurd hi (Nat.not_lt_zero _)⟩
theorem RowsO.mono {w : World} {lo lo' : Nat} {hs : List Value} {t : List (List Int)} {k : Nat} (h : RowsO w lo hs t k) (hl : lo' ≤ lo) : RowsO w lo' hs t k :=
  ⟨h.1, fun j hj => (h.2.1 j hj).mono hl, h.2.2⟩
theorem RowsO.grown {w w' : World} {lo : Nat} {hs : List Value} {t : List (List Int)} {k : Nat} {row : Option Nat} (h : RowsO w lo hs t k) (hg : w.grownBy w' row) (hr : ∀ q, row = some q → q < lo ∨ ∀ j, j < k → wblk (hs.getD j .nilFunc) ≠ some q) : RowsO w' lo hs t k :=
  ⟨h.1, fun j hj => (h.2.1 j hj).grown_w hg (fun q hq => by
    rcases hr q hq with h | h
    · exact .inl h
    · exact .inr (h j hj)), h.2.2⟩
theorem RowsO.below {w w' : World} {lo B : Nat} {hs : List Value} {t : List (List Int)} {k : Nat} (h : RowsO w lo hs t k) (hb : Below B w w') (hB : w.heap.size ≤ B) : RowsO w' lo hs t k :=
  ⟨h.1, fun j hj => (h.2.1 j hj).below hb hB, h.2.2⟩
theorem getD_snoc_lt {hs : List Value} {u : Value} {j : Nat} (h : j < hs.length) : (hs ++ [u]).getD j .nilFunc = hs.getD j .nilFunc := by
  simp [List.getD_eq_getElem?_getD, List.getElem?_append_left h]
theorem getD_snoc_eq (hs : List Value) (u : Value) : (hs ++ [u]).getD hs.length .nilFunc = u := by
  simp [List.getD_eq_getElem?_getD]
/-- One row more: what is made later lies in later blocks. -/
theorem RowsO.snoc {w w' : World} {lo : Nat} {hs : List Value} {t : List (List Int)} {k : Nat} {u : Value} (h : RowsO w lo hs t k) (hb : Below w.heap.size w w') (hO : Own w' w.heap.size 3 1 u (t.getD k []).length ((t.getD k []).map (.int .i64))) (hlo : lo ≤ w.heap.size) :
    RowsO w' lo (hs ++ [u]) t (k + 1) := by
  have h' := h.below hb (Nat.le_refl _)
  have old : ∀ j, j < k → (hs ++ [u]).getD j .nilFunc = hs.getD j .nilFunc := fun j hj => getD_snoc_lt (by rw [h.1]; exact hj)
  have new : (hs ++ [u]).getD k .nilFunc = u := by rw [← h.1]; exact getD_snoc_eq hs u
  refine ⟨by simp [h.1], fun j hj => ?_, fun i j hi hj hij => ?_⟩
  · by_cases e : j = k
    · subst e; rw [new]; exact hO.mono hlo
    · rw [old j (by omega)]; exact h'.2.1 j (by omega)
  · have key : ∀ j, j < k → Apart u (hs.getD j .nilFunc) := fun j hj q hq hq' => by
      have := (hO.wblk hq).1; have := ((h.2.1 j hj).wblk hq').2; omega
    by_cases ei : i = k
    · subst ei; rw [new, old j (by omega)]; exact key j (by omega)
    · by_cases ej : j = k
      · subst ej; rw [new, old i (by omega)]; exact (key i (by omega)).symm
      · rw [old i (by omega), old j (by omega)]; exact h'.2.2 i j (by omega) (by omega) hij
theorem RowsO.lt {w : World} {lo : Nat} {hs : List Value} {t : List (List Int)} {k : Nat} (h : RowsO w lo hs t k) {j : Nat} (hj : j < k) {q : Nat} (hq : wblk (hs.getD j .nilFunc) = some q) : lo ≤ q ∧ q < w.heap.size := (h.2.1 j hj).wblk hq

/-- A table that the call owns. -/
def OwnSS (w : World) (lo : Nat) (v : Value) (t : List (List Int)) : Prop :=
  ∃ hs, Own w lo 38 1 v t.length hs ∧ RowsO w lo hs t t.length ∧ ∀ j, j < t.length → Apart v (hs.getD j .nilFunc)
theorem OwnSS.mono {w : World} {lo lo' : Nat} {v : Value} {t : List (List Int)} (h : OwnSS w lo v t) (hl : lo' ≤ lo) : OwnSS w lo' v t := by
  obtain ⟨hs, h1, h2, h3⟩ := h; exact ⟨hs, h1.mono hl, h2.mono hl, h3⟩
theorem OwnSS.below {w w' : World} {lo B : Nat} {v : Value} {t : List (List Int)} (h : OwnSS w lo v t) (hb : Below B w w') (hB : w.heap.size ≤ B) : OwnSS w' lo v t := by
  obtain ⟨hs, h1, h2, h3⟩ := h; exact ⟨hs, h1.below hb hB, h2.below hb hB, h3⟩
theorem OwnSS.grown {w w' : World} {lo : Nat} {v : Value} {t : List (List Int)} {row : Option Nat} (h : OwnSS w lo v t) (hg : w.grownBy w' row) (hr : ∀ q, row = some q → q < lo) : OwnSS w' lo v t := by
  obtain ⟨hs, h1, h2, h3⟩ := h; exact ⟨hs, h1.grown hg (fun q hq => .inl (hr q hq)), h2.grown hg (fun q hq => .inl (hr q hq)), h3⟩
theorem OwnSS.ss {w : World} {lo : Nat} {v : Value} {t : List (List Int)} (h : OwnSS w lo v t) : IntSS w lo v t := by
  obtain ⟨hs, h1, h2, _⟩ := h
  exact ⟨hs, h1.rd, fun i hi => (h2.2.1 i hi).rd⟩

/-- Stages that the call owns. -/
def stgCells (hs : List Value) (ss : List Stg) : List Value := (List.range ss.length).flatMap fun i => [hs.getD i .nilFunc, .int .i64 (ss.getD i s0).gr]
def phsOf (ss : List Stg) : List (List Int) := ss.map Stg.ph
theorem phsOf_get {ss : List Stg} {i : Nat} (hi : i < ss.length) : (phsOf ss).getD i [] = (ss.getD i s0).ph := by simp [phsOf, hi]
theorem stgCells_len (hs : List Value) (ss : List Stg) : (stgCells hs ss).length = ss.length * 2 := by
  unfold stgCells
  have key : ∀ l : List Nat, (l.flatMap fun i => ([hs.getD i .nilFunc, .int .i64 (ss.getD i s0).gr] : List Value)).length = l.length * 2 := by
    intro l
    induction l with
    | nil => rfl
    | cons x r ih => rw [List.flatMap_cons, List.length_append, ih]; simp; omega
  rw [key]; simp
def OwnStg (w : World) (lo : Nat) (v : Value) (ss : List Stg) : Prop :=
  ∃ hs, Own w lo 42 2 v ss.length (stgCells hs ss) ∧ RowsO w lo hs (phsOf ss) ss.length ∧ ∀ j, j < ss.length → Apart v (hs.getD j .nilFunc)
theorem OwnStg.mono {w : World} {lo lo' : Nat} {v : Value} {t : List Stg} (h : OwnStg w lo v t) (hl : lo' ≤ lo) : OwnStg w lo' v t := by
  obtain ⟨hs, h1, h2, h3⟩ := h; exact ⟨hs, h1.mono hl, h2.mono hl, h3⟩
theorem OwnStg.below {w w' : World} {lo B : Nat} {v : Value} {t : List Stg} (h : OwnStg w lo v t) (hb : Below B w w') (hB : w.heap.size ≤ B) : OwnStg w' lo v t := by
  obtain ⟨hs, h1, h2, h3⟩ := h; exact ⟨hs, h1.below hb hB, h2.below hb hB, h3⟩
theorem OwnStg.grown {w w' : World} {lo : Nat} {v : Value} {t : List Stg} {row : Option Nat} (h : OwnStg w lo v t) (hg : w.grownBy w' row) (hr : ∀ q, row = some q → q < lo) : OwnStg w' lo v t := by
  obtain ⟨hs, h1, h2, h3⟩ := h; exact ⟨hs, h1.grown hg (fun q hq => .inl (hr q hq)), h2.grown hg (fun q hq => .inl (hr q hq)), h3⟩
theorem OwnStg.stg {w : World} {lo : Nat} {v : Value} {t : List Stg} (h : OwnStg w lo v t) : StgS w lo v t := by
  obtain ⟨hs, h1, h2, _⟩ := h
  refine ⟨hs, h1.rd, fun i hi => ?_⟩
  have := (h2.2.1 i hi).rd
  rw [phsOf_get hi] at this
  exact this

/-- A table whose blocks lie below a bound. -/
def OwnSSh (w : World) (lo hi : Nat) (v : Value) (t : List (List Int)) : Prop :=
  ∃ hs, Own w lo 38 1 v t.length hs ∧ RowsO w lo hs t t.length ∧ (∀ j, j < t.length → Apart v (hs.getD j .nilFunc)) ∧ (∀ q, wblk v = some q → q < hi) ∧ ∀ j, j < t.length → ∀ q, wblk (hs.getD j .nilFunc) = some q → q < hi
theorem OwnSS.up {w : World} {lo : Nat} {v : Value} {t : List (List Int)} (h : OwnSS w lo v t) : OwnSSh w lo w.heap.size v t := by
  obtain ⟨hs, h1, h2, h3⟩ := h
  exact ⟨hs, h1, h2, h3, fun q hq => (h1.wblk hq).2, fun j hj q hq => (h2.lt hj hq).2⟩
theorem OwnSSh.own {w : World} {lo hi : Nat} {v : Value} {t : List (List Int)} (h : OwnSSh w lo hi v t) : OwnSS w lo v t := by
  obtain ⟨hs, h1, h2, h3, _⟩ := h; exact ⟨hs, h1, h2, h3⟩
theorem OwnSSh.grown {w w' : World} {lo hi : Nat} {v : Value} {t : List (List Int)} {row : Option Nat} (h : OwnSSh w lo hi v t) (hg : w.grownBy w' row) (hr : ∀ q, row = some q → q < lo ∨ hi ≤ q) : OwnSSh w' lo hi v t := by
  obtain ⟨hs, h1, h2, h3, h4, h5⟩ := h
  refine ⟨hs, h1.grown_w hg (fun q hq => ?_), h2.grown hg (fun q hq => ?_), h3, h4, h5⟩
  · rcases hr q hq with h | h
    · exact .inl h
    · exact .inr (fun e => by have := h4 q e; omega)
  · rcases hr q hq with h | h
    · exact .inl h
    · exact .inr (fun j hj e => by have := h5 j hj q e; omega)
theorem OwnSSh.below {w w' : World} {lo hi B : Nat} {v : Value} {t : List (List Int)} (h : OwnSSh w lo hi v t) (hb : Below B w w') (hB : w.heap.size ≤ B) : OwnSSh w' lo hi v t := by
  obtain ⟨hs, h1, h2, h3, h4, h5⟩ := h; exact ⟨hs, h1.below hb hB, h2.below hb hB, h3, h4, h5⟩
theorem OwnSSh.mono {w : World} {lo lo' hi : Nat} {v : Value} {t : List (List Int)} (h : OwnSSh w lo hi v t) (hl : lo' ≤ lo) : OwnSSh w lo' hi v t := by
  obtain ⟨hs, h1, h2, h3⟩ := h; exact ⟨hs, h1.mono hl, h2.mono hl, h3⟩

def SSRet (w : World) (t : List (List Int)) (e : Ending) (w' : World) : Prop := ∃ v', e = .returned v' ∧ OwnSS w' w.heap.size v' t ∧ Below w.heap.size w w'
theorem info_isl : (Tryd.prog.info? 38).map (fun i => (i.zero, i.size, i.bytes)) = some (some (.slice none 0 0), 1, 24) := by kernel_rfl
theorem info_stg : (Tryd.prog.info? 42).map (fun i => (i.zero, i.size, i.bytes)) = some (some (.agg #[.slice none 0 0, .int .i64 0]), 2, 32) := by kernel_rfl

def StageRet (w : World) (row : List Int) (gr : Int) (e : Ending) (w' : World) : Prop := ∃ v', e = .returned (.agg #[v', .int .i64 gr]) ∧ Own w' w.heap.size 3 1 v' row.length (row.map (.int .i64)) ∧ Below w.heap.size w w'
set_option maxHeartbeats 2000000 in
theorem toStage_any (w : World) (ai : Option Addr) (n ci : Nat) (row : List Int) (gr : Int) (hv : Ints w 0 (.slice ai n ci) row) (hr : row.length ≤ 2097152) :
    Calls Tryd.prog 22 #[.agg #[.slice ai n ci, .int .i64 gr]] w (StageRet w row gr) := by
  have hX1 := Own.made w [.slice ai n ci, .int .i64 gr] 40 w.heap.size 2 1 rfl (Nat.le_refl _) (by decide)
  obtain ⟨w1, hw1⟩ : ∃ x, x = w.alloc (.cells #[.slice ai n ci, .int .i64 gr] 40) := ⟨_, rfl⟩
  have hB1 : Below w.heap.size w w1 := by rw [hw1]; exact (Below.refl _ _).alloc (Nat.le_refl _) _
  have hs1 : w1.heap.size = w.heap.size + 1 := by rw [hw1]; simp
  have hX2 := Own.made w1 [.slice none 0 0, .int .i64 0] 42 w.heap.size 2 1 rfl (by omega) (by decide)
  obtain ⟨w2, hw2⟩ : ∃ x, x = w1.alloc (.cells #[.slice none 0 0, .int .i64 0] 42) := ⟨_, rfl⟩
  have hs2 : w2.heap.size = w.heap.size + 2 := by rw [hw2]; simp [hs1]
  have hX3 := Own.made w2 [.slice none 0 0, .int .i64 0] 42 w.heap.size 2 1 rfl (by omega) (by decide)
  have hB2 : Below w1.heap.size w1 w2 := by rw [hw2]; exact (Below.refl _ _).alloc (Nat.le_refl _) _
  obtain ⟨w3, hw3⟩ : ∃ x, x = w2.alloc (.cells #[.slice none 0 0, .int .i64 0] 42) := ⟨_, rfl⟩
  have hB3 : Below w2.heap.size w2 w3 := by rw [hw3]; exact (Below.refl _ _).alloc (Nat.le_refl _) _
  have hs3 : w3.heap.size = w.heap.size + 3 := by rw [hw3]; simp [hs2]
  have hT2 := hB1.trans (hB2.mono hB1.size)
  have hT3 := hT2.trans (hB3.mono hT2.size)
  rw [show (w.alloc (Obj.cells [Value.slice ai n ci, Value.int IntKind.i64 gr].toArray 40)) = w1 from hw1.symm] at hX1
  rw [show (w1.alloc (Obj.cells [Value.slice none 0 0, Value.int IntKind.i64 0].toArray 42)) = w2 from hw2.symm, hs1] at hX2
  rw [show (w2.alloc (Obj.cells [Value.slice none 0 0, Value.int IntKind.i64 0].toArray 42)) = w3 from hw3.symm, hs2] at hX3
  have HY1 := Lib.hid ((hX1.below hB2 (Nat.le_refl _)).below hB3 (Nat.le_refl _))
  have HY2 := Lib.hid (hX2.below hB3 (Nat.le_refl _))
  have HY3 := Lib.hid hX3
  have HT3 := Lib.hid hT3
  have HV := Lib.hid (Rd.below hv hT3 (Nat.le_refl _) (by decide) : Ints w3 0 _ row)
  have HS3 := Lib.hid hs3
  have HW1 := Lib.hid hw1
  have HW2 := Lib.hid hw2
  have HW3 := Lib.hid hw3
  clear hX1 hX2 hX3 hB1 hB2 hB3 hs1 hs2 hs3 hT2 hT3 hv hw1 hw2 hw3
  go_enter Tryd.func22, Tryd.ntmps22
  go_wp2_with fail
  rw [← HW1.out, ← HW2.out, ← HW3.out]
  clear HW1 HW2 HW3
  refine (toIntS_any _ _ row HV.out hr).mono ?_; rintro e w4 ⟨v4, rfl, hO4, hB4⟩
  obtain ⟨a4, c4, rfl, _, _⟩ := hO4.form
  have hO4' := hO4
  rw [HS3.out] at hO4'
  obtain ⟨_, e1, _, _, p1, _, _⟩ := (HY1.out.below hB4 (Nat.le_refl _)).parts (by omega)
  cases e1
  obtain ⟨_, e1, _, _, p2, f2, _⟩ := (HY2.out.below hB4 (Nat.le_refl _)).parts (by omega)
  cases e1
  obtain ⟨_, e1, _, z3, p3, f3, _⟩ := (HY3.out.below hB4 (Nat.le_refl _)).parts (by omega)
  cases e1
  have q11 := p1 1 (by simp)
  have q20 := p2 0 (by simp)
  have q21 := p2 1 (by simp)
  have q30 := p3 0 (by simp)
  have q31 := p3 1 (by simp)
  have r20 := f2 0
  have r21 := f2 1
  have r30 := f3 0
  have r31 := f3 1
  simp only [List.getElem_cons_zero, List.getElem_cons_succ] at q11 q20 q21 q30 q31
  have HT4 : Hid (Below w.heap.size w w4 ∧ Own w4 (w.heap.size + 3) 3 1 (.slice a4 row.length c4) row.length (row.map (.int .i64))) := ⟨HT3.out.trans (hB4.mono HT3.out.size), hO4'⟩
  clear p1 p2 p3 f2 f3 hO4 hO4' hB4 HY1 HY2 HY3 HT3 HV HS3
  go_wp2_with fail
  have HF : Hid (∀ u1 u2 u3 u4 : Value, Below w.heap.size w ((((w4.setCell ⟨w.heap.size + 2, 0, none⟩ u1).setCell ⟨w.heap.size + 2, 1, none⟩ u2).setCell ⟨w.heap.size + 1, 0, none⟩ u3).setCell ⟨w.heap.size + 1, 1, none⟩ u4) ∧
      Own ((((w4.setCell ⟨w.heap.size + 2, 0, none⟩ u1).setCell ⟨w.heap.size + 2, 1, none⟩ u2).setCell ⟨w.heap.size + 1, 0, none⟩ u3).setCell ⟨w.heap.size + 1, 1, none⟩ u4) w.heap.size 3 1 (.slice a4 row.length c4) row.length (row.map (.int .i64))) := by
    intro u1 u2 u3 u4
    have one : ∀ (W : World) (b o : Nat) (u : Value), b < w.heap.size + 3 → w.heap.size ≤ b → (Below w.heap.size w W ∧ Own W (w.heap.size + 3) 3 1 (.slice a4 row.length c4) row.length (row.map (.int .i64))) → (Below w.heap.size w (W.setCell ⟨b, o, none⟩ u) ∧ Own (W.setCell ⟨b, o, none⟩ u) (w.heap.size + 3) 3 1 (.slice a4 row.length c4) row.length (row.map (.int .i64))) := by
      intro W b o u h1 h2 ⟨h3, h4⟩
      refine ⟨h3.setCell h2 u, h4.grown (row := some b) ⟨rfl, rfl, rfl, by simp [World.setCell], fun k _ hk => Below.heap_setCell _ _ _ _ (fun e => hk (by rw [e]))⟩ (fun k hk => .inl (by cases hk; exact h1))⟩
    have := one _ (w.heap.size + 1) 1 u4 (by omega) (by omega) (one _ (w.heap.size + 1) 0 u3 (by omega) (by omega) (one _ (w.heap.size + 2) 1 u2 (by omega) (by omega) (one _ (w.heap.size + 2) 0 u1 (by omega) (by omega) HT4.out)))
    exact ⟨this.1, this.2.mono (by omega)⟩
  exact bodyPost_ret (v := .agg #[.slice a4 row.length c4, .int .i64 gr]) (by simp [results, Tryd.results22, go_sem, q20, q21, q30, q31, r20, r21, r30, r31]) rfl ⟨_, rfl, (HF.out _ _ _ _).2, (HF.out _ _ _ _).1⟩

theorem stgCells_eq {cs hs : List Value} {ss : List Stg} (hl : cs.length = ss.length * 2) (h : ∀ j, j < ss.length → cs[j * 2]? = some (hs.getD j .nilFunc) ∧ cs[j * 2 + 1]? = some (.int .i64 (ss.getD j s0).gr)) : cs = stgCells hs ss := by
  apply List.ext_getElem?
  intro i
  by_cases hi : i < ss.length * 2
  · have hj : i / 2 < ss.length := by omega
    have hf := flat2_get (f := fun i => ([hs.getD i .nilFunc, .int .i64 (ss.getD i s0).gr] : List Value)) (fun _ => rfl) ss.length (i / 2) (i % 2) hj (by omega)
    unfold stgCells
    rw [show i / 2 * 2 + i % 2 = i by omega] at hf
    rw [hf]
    rcases Nat.mod_two_eq_zero_or_one i with e | e
    · rw [e]
      have := (h (i / 2) hj).1
      rw [show i / 2 * 2 = i by omega] at this
      rw [this]; rfl
    · rw [e]
      have := (h (i / 2) hj).2
      rw [show i / 2 * 2 + 1 = i by omega] at this
      rw [this]; rfl
  · rw [List.getElem?_eq_none (by omega), List.getElem?_eq_none (by rw [stgCells_len]; omega)]

def StgRet (w : World) (ss : List Stg) (e : Ending) (w' : World) : Prop := ∃ v', e = .returned v' ∧ OwnStg w' w.heap.size v' ss ∧ Below w.heap.size w w'
set_option maxHeartbeats 2000000 in
theorem toStageS_any (w : World) (v : Value) (ss : List Stg) (hv : StgS w 0 v ss) (hn : ss.length ≤ 2097152) (hr : ∀ i, i < ss.length → (ss.getD i s0).ph.length ≤ 2097152) :
    Calls Tryd.prog 9 #[v] w (StgRet w ss) := by
  obtain ⟨ao, cap, rfl, hcap, hm⟩ := hv.form
  obtain ⟨i0, hi, hz0, hz1, hz2⟩ := info_parts info_stg
  have HV := Lib.hid hv
  have HR := Lib.hid hr
  clear hv hr
  go_enter Tryd.func9, Tryd.ntmps9
  go_wp2_with (at_make; refine wpList_make_full _ rfl _ _ 25 rfl w.heap.size 42 i0 (.agg #[.slice none 0 0, .int .i64 0]) 2 Tryd.underlying25 hi hz0 hz1 .i64 .i64 ss.length ss.length ss.length rfl rfl rfl rfl (by rw [hz2]; omega) (by unfold maxLen; omega) (Nat.le_refl _) ?_; intro w1 hown hg1)
  have hO : Own w1 w.heap.size 42 2 (.slice (some ⟨w.heap.size, 0, none⟩) ss.length ss.length) ss.length (madeCells (Value.agg #[.slice none 0 0, .int .i64 0]).cells (ss.length * 2)).toList := .inl hown
  have hB := below_of_grownBy hg1 (Nat.le_refl _) (fun k hk => by cases hk)
  clear hown hg1
  go_loopw [4] (fun i wo => ∃ k : Nat, ∃ cs hs, k ≤ ss.length ∧ i = .int .i64 k ∧ Own wo w.heap.size 42 2 (.slice (some ⟨w.heap.size, 0, none⟩) ss.length ss.length) ss.length cs ∧ (∀ j, j < k → cs[j * 2]? = some (hs.getD j .nilFunc) ∧ cs[j * 2 + 1]? = some (.int .i64 (ss.getD j s0).gr)) ∧ RowsO wo (w.heap.size + 1) hs (phsOf ss) k ∧ Below w.heap.size w wo)
    (fun i _ => ss.length - (intOf i).toNat)
  case atStart => exact ⟨0, _, [], Nat.zero_le _, rfl, hO, fun j hj => absurd hj (Nat.not_lt_zero _), RowsO.nil _ _ _, hB⟩
  case round =>
    clear hO hB
    obtain ⟨k, cs, hs, hk, rfl, hO, hcs, hR, hB⟩ := hrel
    have hlen := hO.len
    by_cases hlt : k < ss.length
    · obtain ⟨b, off, rfl, _, hb, hc⟩ := HV.out.spot (by omega)
      obtain ⟨g1w, ai, ci, h1w, hIw⟩ := hc k hlt
      have h1 := (hB.cell (p := ⟨b, off + k * 2, none⟩) hb).trans h1w
      have h2 := (hB.cell (p := ⟨b, off + k * 2 + 1, none⟩) hb).trans g1w
      have hI : Ints wr 0 _ _ := Rd.below hIw hB (Nat.le_refl _) (by decide)
      have hrl := HR.out k hlt
      have hpg := phsOf_get hlt
      obtain ⟨row, hrow⟩ : ∃ row, row = (ss.getD k s0).ph := ⟨_, rfl⟩
      obtain ⟨gr, hgr⟩ : ∃ gr, gr = (ss.getD k s0).gr := ⟨_, rfl⟩
      rw [← hrow] at h1 hI hrl hpg
      rw [← hgr] at h2
      have HPG := Lib.hid hpg
      have HGR := Lib.hid hgr
      have hgs : w.heap.size < wr.heap.size := by obtain ⟨_, e0, _, h3, _⟩ := hO.parts (by omega); cases e0; exact h3
      have HO := Lib.hid hO
      have HRO := Lib.hid hR
      have HCS := Lib.hid hcs
      clear hc h1w g1w hIw hrow hgr hpg hO hR hcs
      go_wp2_with fail
      refine (toStage_any _ _ _ _ row gr hI hrl).mono ?_; rintro e w3 ⟨v3, rfl, hO3, hB3⟩
      obtain ⟨a3, c3, rfl, _, _⟩ := hO3.form
      obtain ⟨v3, hv3⟩ : ∃ v3, v3 = Value.slice a3 row.length c3 := ⟨_, rfl⟩
      rw [← hv3] at hO3
      have hOut := HO.out.below hB3 (Nat.le_refl _)
      have hR3 := HRO.out.snoc (u := v3) hB3 (by rw [HPG.out]; exact hO3) (by omega)
      have hB4 := hB.trans (hB3.mono hB.size)
      have hgs3 : w.heap.size < w3.heap.size := Nat.lt_of_lt_of_le hgs hB3.size
      obtain ⟨g, e0, _, _, hcell, hfr, _⟩ := hOut.parts (by omega)
      cases e0
      have hd := hcell (k * 2) (by omega)
      have hd2 := hcell (k * 2 + 1) (by omega)
      have hf := hfr (k * 2)
      have hf2 := hfr (k * 2 + 1)
      obtain ⟨hS, hgS⟩ := hOut.store (by omega) (k * 2) v3
      obtain ⟨hS2, hgS2⟩ := hS.store (by omega) (k * 2 + 1) (.int .i64 gr)
      have hR4 := (hR3.grown hgS (fun q hq => .inl (by cases hq; omega))).grown hgS2 (fun q hq => .inl (by cases hq; omega))
      have hB5 := (hB4.setCell (p := ⟨w.heap.size, k * 2, none⟩) (Nat.le_refl _) v3).setCell (p := ⟨w.heap.size, k * 2 + 1, none⟩) (Nat.le_refl _) (.int .i64 gr)
      have HF : Hid ((∀ j, j < k + 1 → ((cs.set (k * 2) v3).set (k * 2 + 1) (.int .i64 gr))[j * 2]? = some ((hs ++ [v3]).getD j .nilFunc) ∧ ((cs.set (k * 2) v3).set (k * 2 + 1) (.int .i64 gr))[j * 2 + 1]? = some (.int .i64 (ss.getD j s0).gr)) ∧ Own ((w3.setCell ⟨w.heap.size, k * 2, none⟩ v3).setCell ⟨w.heap.size, k * 2 + 1, none⟩ (.int .i64 gr)) w.heap.size 42 2 (.slice (some ⟨w.heap.size, 0, none⟩) ss.length ss.length) ss.length ((cs.set (k * 2) v3).set (k * 2 + 1) (.int .i64 gr)) ∧ RowsO ((w3.setCell ⟨w.heap.size, k * 2, none⟩ v3).setCell ⟨w.heap.size, k * 2 + 1, none⟩ (.int .i64 gr)) (w.heap.size + 1) (hs ++ [v3]) (phsOf ss) (k + 1) ∧ Below w.heap.size w ((w3.setCell ⟨w.heap.size, k * 2, none⟩ v3).setCell ⟨w.heap.size, k * 2 + 1, none⟩ (.int .i64 gr))) := by
        refine ⟨fun j hj => ?_, hS2, hR4, hB5⟩
        by_cases e : j = k
        · subst e
          have : (hs ++ [v3]).getD j .nilFunc = v3 := by rw [← HRO.out.1]; exact getD_snoc_eq hs v3
          rw [List.getElem?_set_ne (by omega), List.getElem?_set_self (by omega), this, List.getElem?_set_self (by simp; omega), HGR.out]
          exact ⟨rfl, rfl⟩
        · rw [List.getElem?_set_ne (by omega), List.getElem?_set_ne (by omega), List.getElem?_set_ne (by omega), List.getElem?_set_ne (by omega), getD_snoc_lt (by rw [HRO.out.1]; omega)]
          exact HCS.out j (by omega)
      clear hcell hfr hOut hO3 hB3 hB4 hS hgS hS2 hgS2 hR3 hR4 hB5 hB
      subst hv3
      go_wp2_with fail
      go_roundw
      case rel => exact ⟨k + 1, _, _, by omega, by go_num, HF.out.2.1, HF.out.1, HF.out.2.2⟩
      case measure => simp [intOf]; omega
    · obtain rfl : k = ss.length := by omega
      have HF : Hid (OwnStg wr w.heap.size (.slice (some ⟨w.heap.size, 0, none⟩) ss.length ss.length) ss) := by
        rw [stgCells_eq (by omega) hcs] at hO
        refine ⟨hs, hO, hR.mono (by omega), fun j hj q hq hq' => ?_⟩
        have := (hR.lt hj hq').1
        simp only [wblk] at hq
        split at hq
        · cases hq
        · cases hq; omega
      clear hO hR hcs
      go_wp2
      go_ret
      exact ⟨_, rfl, HF.out, hB⟩

theorem cell_grown {w : World} {b b' : Nat} (u : Value) (o : Nat) : w.grownBy (w.setCell ⟨b, o, none⟩ u) (some b) :=
  ⟨rfl, rfl, rfl, by simp [World.setCell], fun k _ hk => Below.heap_setCell _ _ _ _ (fun e => hk (by rw [e]))⟩
/-- What is left of a budget: less than nothing is -1. -/
def SzOk (left : Int) (r : Int) (Q : Prop) : Prop := r ≤ left ∧ (r < 0 → r = -1) ∧ (0 ≤ r → Q)
def SzRet (w : World) (left : Int) (Q : Prop) (e : Ending) (w' : World) : Prop := ∃ r : Int, e = .returned (.int .i64 r) ∧ SzOk left r Q ∧ Below w.heap.size w w'

theorem szIntS_any (w : World) (lo : Nat) (v : Value) (xs : List Int) (left : Int) (hv : Ints w lo v xs) (hl : 0 ≤ left ∧ left ≤ 1048576) :
    Calls Tryd.prog 42 #[v, .int .i64 left] w fun e w' => ∃ r : Int, e = .returned (.int .i64 r) ∧ SzOk left r ((xs.length : Int) ≤ left) ∧ w = w' := by
  obtain ⟨ao, cap, rfl, hcap, hm⟩ := hv.form
  obtain ⟨hl0, hl1⟩ := hl
  clear hv
  have wr1 : IntKind.i64.wrap (left - (xs.length : Int)) = left - (xs.length : Int) := IntWalk.i64_in _ (by omega)
  by_cases h : left - (xs.length : Int) < 0
  · have d : decide (left - (xs.length : Int) < 0) = true := decide_eq_true h
    go_enter Tryd.func42, Tryd.ntmps42
    go_wp2
    go_ret
    exact ⟨_, rfl, ⟨by omega, fun _ => rfl, fun h => by omega⟩, rfl⟩
  · have d : decide (left - (xs.length : Int) < 0) = false := decide_eq_false h
    go_enter Tryd.func42, Tryd.ntmps42
    go_wp2
    go_ret
    exact ⟨_, rfl, ⟨by omega, fun h => by omega, fun h => by omega⟩, rfl⟩

set_option maxHeartbeats 2000000 in
theorem szStage_any (w : World) (lo : Nat) (v : Value) (row : List Int) (gr left : Int) (hv : Ints w lo v row) (hl : 0 ≤ left ∧ left ≤ 1048576) :
    Calls Tryd.prog 19 #[.agg #[v, .int .i64 gr], .int .i64 left] w (SzRet w left ((row.length : Int) ≤ left)) := by
  obtain ⟨ao, cap, rfl, hcap, hm⟩ := hv.form
  have HV : Hid (∀ o, Ints (w.alloc o) lo (.slice ao row.length cap) row) := fun o => Rd.below hv ((Below.refl _ _).alloc (Nat.le_refl _) _) (Nat.le_refl _) (by decide)
  clear hv
  go_enter Tryd.func19, Tryd.ntmps19
  go_wp2_with fail
  go_at_call 42
  refine (szIntS_any _ _ _ row left (HV.out _) hl).mono ?_; rintro e w2 ⟨r2, rfl, ⟨hq1, hq2, hq3⟩, rfl⟩
  have hB : Below w.heap.size w (w.alloc (.cells #[.slice ao row.length cap, .int .i64 gr] 40)) := (Below.refl _ _).alloc (Nat.le_refl _) _
  by_cases h2 : r2 < 0
  · have d2 : decide (r2 < 0) = true := decide_eq_true h2
    clear hq2 hq3
    go_wp2_with fail
    go_ret
    exact ⟨_, rfl, ⟨by omega, fun _ => rfl, fun h => by omega⟩, hB⟩
  · have d2 : decide (r2 < 0) = false := decide_eq_false h2
    have HQ := Lib.hid (hq3 (by omega))
    clear hq2 hq3
    go_wp2_with fail
    go_ret
    exact ⟨_, rfl, ⟨hq1, fun h => by omega, fun _ => HQ.out⟩, hB⟩

set_option maxHeartbeats 2000000 in
theorem szStageS_any (w : World) (lo : Nat) (v : Value) (ss : List Stg) (left : Int) (hv : StgS w lo v ss) (hl : 0 ≤ left ∧ left ≤ 1048576) :
    Calls Tryd.prog 7 #[v, .int .i64 left] w (SzRet w left ((ss.length : Int) ≤ left ∧ ∀ i, i < ss.length → ((ss.getD i s0).ph.length : Int) ≤ left)) := by
  obtain ⟨ao, cap, rfl, hcap, hm⟩ := hv.form
  obtain ⟨hl0, hl1⟩ := hl
  have HV := Lib.hid hv
  clear hv
  have wr1 : IntKind.i64.wrap (left - (ss.length : Int)) = left - (ss.length : Int) := IntWalk.i64_in _ (by omega)
  by_cases h : left - (ss.length : Int) < 0
  · have d : decide (left - (ss.length : Int) < 0) = true := decide_eq_true h
    go_enter Tryd.func7, Tryd.ntmps7
    go_wp2
    go_ret
    exact ⟨_, rfl, ⟨by omega, fun _ => rfl, fun h => by omega⟩, Below.refl _ _⟩
  · have d : decide (left - (ss.length : Int) < 0) = false := decide_eq_false h
    go_enter Tryd.func7, Tryd.ntmps7
    go_wp2_with fail
    go_loopw [1, 5] (fun lv i wo => ∃ k : Nat, ∃ r : Int, k ≤ ss.length ∧ i = .int .i64 k ∧ lv = .int .i64 r ∧ (0 ≤ r ∧ r ≤ left) ∧ Hid (∀ j, j < k → ((ss.getD j s0).ph.length : Int) ≤ left) ∧ Below w.heap.size w wo) (fun _ i _ => ss.length - (intOf i).toNat)
    case atStart => exact ⟨0, _, Nat.zero_le _, rfl, rfl, ⟨by omega, by omega⟩, fun j hj => absurd hj (Nat.not_lt_zero _), Below.refl _ _⟩
    case round =>
      obtain ⟨k, r, hk, rfl, rfl, ⟨hr0, hr1⟩, HA, hB⟩ := hrel
      by_cases hlt : k < ss.length
      · obtain ⟨b, off, rfl, _, hb, hc⟩ := HV.out.spot (by omega)
        obtain ⟨g1w, ai, ci, h1w, hIw⟩ := hc k hlt
        have h1 := (hB.cell (p := ⟨b, off + k * 2, none⟩) hb).trans h1w
        have h2 := (hB.cell (p := ⟨b, off + k * 2 + 1, none⟩) hb).trans g1w
        have hI : Ints wr lo _ _ := Rd.below hIw hB (Nat.le_refl _) (by decide)
        obtain ⟨row, hrow⟩ : ∃ row, row = (ss.getD k s0).ph := ⟨_, rfl⟩
        obtain ⟨gr, hgr⟩ : ∃ gr, gr = (ss.getD k s0).gr := ⟨_, rfl⟩
        rw [← hrow] at h1 hI
        rw [← hgr] at h2
        have HROW := Lib.hid hrow
        have HB := Lib.hid hB
        clear hc hrow hgr h1w g1w hIw hB
        go_wp2_with fail
        go_at_call 19
        refine (szStage_any _ _ _ row gr r hI ⟨hr0, by omega⟩).mono ?_; rintro e w2 ⟨r2, rfl, ⟨hq1, hq2, hq3⟩, hB2⟩
        have hB3 := HB.out.trans (hB2.mono HB.out.size)
        by_cases h2 : r2 < 0
        · have d2 : decide (r2 < 0) = true := decide_eq_true h2
          clear hq2 hq3
          go_wp2_with fail
          go_ret
          exact ⟨_, rfl, ⟨by omega, fun _ => rfl, fun h => by omega⟩, hB3⟩
        · have d2 : decide (r2 < 0) = false := decide_eq_false h2
          have HQ := Lib.hid (hq3 (by omega))
          clear hq2 hq3
          go_wp2_with fail
          go_roundw
          case rel => exact ⟨k + 1, r2, by omega, by go_num, rfl, ⟨by omega, by omega⟩, fun j hj => by
            by_cases e : j = k
            · subst e; rw [← HROW.out]; have := HQ.out; omega
            · exact HA.out j (by omega), hB3⟩
          case measure => simp [intOf]; omega
      · go_wp2_with fail
        go_ret
        exact ⟨_, rfl, ⟨by omega, fun h => by omega, fun _ => ⟨by omega, fun i hi => HA.out i (by omega)⟩⟩, hB⟩

set_option maxHeartbeats 2000000 in
theorem eqStage_same (w : World) (va vb : Value) (gr : Int) (row : List Int) (ha : Ints w 0 va row) (hb : Ints w 0 vb row) :
    Calls Tryd.prog 29 #[.agg #[va, .int .i64 gr], .agg #[vb, .int .i64 gr]] w fun e w' => e = .returned (.bool true) ∧ Below w.heap.size w w' := by
  obtain ⟨ao, cap, rfl, hcap, hm⟩ := ha.form
  obtain ⟨ao', cap', rfl, hcap', hm'⟩ := hb.form
  have hX1 := Own.made w [.slice ao row.length cap, .int .i64 gr] 42 w.heap.size 2 1 rfl (Nat.le_refl _) (by decide)
  obtain ⟨w1, hw1⟩ : ∃ x, x = w.alloc (.cells #[.slice ao row.length cap, .int .i64 gr] 42) := ⟨_, rfl⟩
  have hB1 : Below w.heap.size w w1 := by rw [hw1]; exact (Below.refl _ _).alloc (Nat.le_refl _) _
  have hs1 : w1.heap.size = w.heap.size + 1 := by rw [hw1]; simp
  have hX2 := Own.made w1 [.slice ao' row.length cap', .int .i64 gr] 42 w.heap.size 2 1 rfl (by omega) (by decide)
  obtain ⟨w2, hw2⟩ : ∃ x, x = w1.alloc (.cells #[.slice ao' row.length cap', .int .i64 gr] 42) := ⟨_, rfl⟩
  have hB2 : Below w1.heap.size w1 w2 := by rw [hw2]; exact (Below.refl _ _).alloc (Nat.le_refl _) _
  have hT2 := hB1.trans (hB2.mono hB1.size)
  rw [show (w.alloc (Obj.cells [Value.slice ao row.length cap, Value.int IntKind.i64 gr].toArray 42)) = w1 from hw1.symm] at hX1
  rw [show (w1.alloc (Obj.cells [Value.slice ao' row.length cap', Value.int IntKind.i64 gr].toArray 42)) = w2 from hw2.symm, hs1] at hX2
  have HY1 := Lib.hid (hX1.below hB2 (Nat.le_refl _))
  have HY2 := Lib.hid hX2
  have HA := Lib.hid (Rd.below ha hT2 (Nat.le_refl _) (by decide) : Ints w2 0 _ row)
  have HB := Lib.hid (Rd.below hb hT2 (Nat.le_refl _) (by decide) : Ints w2 0 _ row)
  have HT2 := Lib.hid hT2
  have HW1 := Lib.hid hw1
  have HW2 := Lib.hid hw2
  have hne : (gr != gr) = false := by simp
  clear hX1 hX2 hB1 hB2 hs1 hT2 ha hb hw1 hw2
  go_enter Tryd.func29, Tryd.ntmps29
  go_wp2_with fail
  rw [← HW1.out, ← HW2.out]
  clear HW1 HW2
  refine (eqIntS_same _ _ _ row HA.out HB.out).mono ?_; rintro e w3 ⟨rfl, hB3⟩
  obtain ⟨_, e1, _, _, p1, _, _⟩ := (HY1.out.below hB3 (Nat.le_refl _)).parts (by omega)
  cases e1
  obtain ⟨_, e1, _, _, p2, _, _⟩ := (HY2.out.below hB3 (Nat.le_refl _)).parts (by omega)
  cases e1
  have q11 := p1 1 (by simp)
  have q21 := p2 1 (by simp)
  simp only [List.getElem_cons_zero, List.getElem_cons_succ] at q11 q21
  clear p1 p2
  go_wp2_with fail
  go_ret
  exact ⟨rfl, HT2.out.trans (hB3.mono HT2.out.size)⟩

set_option maxHeartbeats 2000000 in
theorem eqStageS_same (w : World) (va vb : Value) (t : List Stg) (ha : StgS w 0 va t) (hb : StgS w 0 vb t) :
    Calls Tryd.prog 11 #[va, vb] w fun e w' => e = .returned (.bool true) ∧ Below w.heap.size w w' := by
  obtain ⟨ao, cap, rfl, hcap, hm⟩ := ha.form
  obtain ⟨ao', cap', rfl, hcap', hm'⟩ := hb.form
  have HA := Lib.hid ha
  have HB := Lib.hid hb
  clear ha hb
  go_enter Tryd.func11, Tryd.ntmps11
  go_wp2
  go_loopw [5] (fun i wo => ∃ k : Nat, k ≤ t.length ∧ i = .int .i64 k ∧ Below w.heap.size w wo) (fun i _ => t.length - (intOf i).toNat)
  case atStart => exact ⟨0, Nat.zero_le _, rfl, Below.refl _ _⟩
  case round =>
    obtain ⟨k, hk, rfl, hB⟩ := hrel
    by_cases hlt : k < t.length
    · obtain ⟨b, off, rfl, _, hb, hc⟩ := (HA.out.below hB (Nat.le_refl _)).spot (by omega)
      obtain ⟨b', off', rfl, _, hb', hc'⟩ := (HB.out.below hB (Nat.le_refl _)).spot (by omega)
      obtain ⟨g1, a1, c1, h1, hI1⟩ := hc k hlt
      obtain ⟨g2, a2, c2, h2, hI2⟩ := hc' k hlt
      obtain ⟨row, hrow⟩ : ∃ row, row = (t.getD k s0).ph := ⟨_, rfl⟩
      obtain ⟨gr, hgr⟩ : ∃ gr, gr = (t.getD k s0).gr := ⟨_, rfl⟩
      rw [← hrow] at h1 hI1 h2 hI2
      rw [← hgr] at g1 g2
      have hk0 : (0 : Int) ≤ (k : Int) := by omega
      have hk1 : (k : Int) < (t.length : Int) := by omega
      have hsz := hB.size
      have HI1 := Lib.hid hI1
      have HI2 := Lib.hid hI2
      have keepA : ∀ W, Below wr.heap.size wr W → (W.cell? ⟨b, off + k * 2, none⟩ = some (.slice a1 row.length c1) ∧ W.cell? ⟨b, off + k * 2 + 1, none⟩ = some (.int .i64 gr) ∧ W.cell? ⟨b', off' + k * 2, none⟩ = some (.slice a2 row.length c2) ∧ W.cell? ⟨b', off' + k * 2 + 1, none⟩ = some (.int .i64 gr)) := fun W h => ⟨(h.cell (p := ⟨b, off + k * 2, none⟩) hb).trans h1, (h.cell (p := ⟨b, off + k * 2 + 1, none⟩) hb).trans g1, (h.cell (p := ⟨b', off' + k * 2, none⟩) hb').trans h2, (h.cell (p := ⟨b', off' + k * 2 + 1, none⟩) hb').trans g2⟩
      have KA := Lib.hid keepA
      clear hc hc' hrow hgr hI1 hI2 keepA
      go_wp2_with fail
      go_region_held3 (fun w' => w'.cell? ⟨b, off + k * 2, none⟩ = some (.slice a1 row.length c1) ∧ w'.cell? ⟨b, off + k * 2 + 1, none⟩ = some (.int .i64 gr) ∧ w'.cell? ⟨b', off' + k * 2, none⟩ = some (.slice a2 row.length c2) ∧ w'.cell? ⟨b', off' + k * 2 + 1, none⟩ = some (.int .i64 gr))
        (first | exact KA.out _ hB5 | exact KA.out _ (Below.refl _ _) | go_keep | assumption)
        ((go_at_call 29; refine (eqStage_same _ _ _ gr row (Rd.below HI1.out (Below.drew (Below.refl wr.heap.size wr)) (Nat.le_refl _) (by decide)) (Rd.below HI2.out (Below.drew (Below.refl wr.heap.size wr)) (Nat.le_refl _) (by decide))).mono ?_; rintro e w5 ⟨rfl, hB5'⟩; have hB5 : Below wr.heap.size wr w5 := (Below.drew (Below.refl wr.heap.size wr)).trans hB5'))
      go_wp2
      go_roundw
      case rel => exact ⟨k + 1, by omega, by go_num, hB.trans (hB5.mono hB.size)⟩
      case measure => simp [intOf]; omega
    · go_wp2
      go_ret
      exact ⟨rfl, hB⟩

end Go.Proofs.YteeikhkcdlcnhaaDoor
