/- Slices of slices of ints, slices of stages, plans: reading them. -/
import Derived.Test.YtpaioaknppgggaaGreatDoorPl1
import Derived.ProofKit
import Derived.Deep.Slices
import Derived.Deep.Strs
namespace Go.Proofs.YtpaioaknppgggaaGreatDoor
open Go.RowKit
set_option linter.unusedVariables false
set_option linter.unusedSimpArgs false

def IntSS (w : World) (lo : Nat) (v : Value) (t : List (List Int)) : Prop :=
  ∃ hs : List Value, Rd w lo v 1 t.length hs ∧ ∀ i, i < t.length → Ints w lo (hs.getD i .nilFunc) (t.getD i [])
theorem IntSS.form {w : World} {lo : Nat} {v : Value} {t : List (List Int)} (h : IntSS w lo v t) : ∃ ao cap, v = .slice ao t.length cap ∧ t.length ≤ cap ∧ cap ≤ 9223372036854775807 := by
  obtain ⟨hs, h1, _⟩ := h; exact h1.form
theorem IntSS.mono {w : World} {lo lo' : Nat} {v : Value} {t : List (List Int)} (h : IntSS w lo v t) (hl : lo' ≤ lo) : IntSS w lo' v t := by
  obtain ⟨hs, h1, h2⟩ := h
  exact ⟨hs, h1.mono hl, fun i hi => Rd.mono (h2 i hi) hl⟩
theorem IntSS.below {w w' : World} {lo B : Nat} {v : Value} {t : List (List Int)} (h : IntSS w lo v t) (hb : Below B w w') (hB : w.heap.size ≤ B) : IntSS w' lo v t := by
  obtain ⟨hs, h1, h2⟩ := h
  exact ⟨hs, h1.below hb hB (by decide), fun i hi => Rd.below (h2 i hi) hb hB (by decide)⟩
/-- Where a row's header lies, and that it reads. -/
theorem IntSS.spot {w : World} {lo : Nat} {t : List (List Int)} {ao : Option Addr} {len cap : Nat} (h : IntSS w lo (.slice ao len cap) t) (hn : 0 < t.length) :
    ∃ b off, ao = some ⟨b, off, none⟩ ∧ lo ≤ b ∧ b < w.heap.size ∧ ∀ i, i < t.length → ∃ ai ci, w.cell? ⟨b, off + i, none⟩ = some (.slice ai (t.getD i []).length ci) ∧ Ints w lo (.slice ai (t.getD i []).length ci) (t.getD i []) := by
  obtain ⟨hs, h1, h2⟩ := h
  obtain ⟨_, hl, _, _, hc⟩ := h1.cell
  obtain ⟨b, off, e, hb, hb2, hc⟩ := hc hn
  refine ⟨b, off, e, hb, hb2, fun i hi => ?_⟩
  obtain ⟨ai, ci, he, _, _⟩ := (h2 i hi).form
  have hg : hs.getD i .nilFunc = hs[i]'(by omega) := by simp [show i < hs.length by omega]
  refine ⟨ai, ci, ?_, by rw [← he]; exact h2 i hi⟩
  rw [hc i (by omega), ← hg, he]

/-- Stages: a header and a green for each. -/
def StgS (w : World) (lo : Nat) (v : Value) (ss : List Stg) : Prop :=
  ∃ hs : List Value, Rd w lo v 2 ss.length ((List.range ss.length).flatMap fun i => [hs.getD i .nilFunc, .int .i64 (ss.getD i s0).gr]) ∧ ∀ i, i < ss.length → Ints w lo (hs.getD i .nilFunc) (ss.getD i s0).ph
theorem StgS.form {w : World} {lo : Nat} {v : Value} {t : List Stg} (h : StgS w lo v t) : ∃ ao cap, v = .slice ao t.length cap ∧ t.length ≤ cap ∧ cap ≤ 9223372036854775807 := by
  obtain ⟨hs, h1, _⟩ := h; exact h1.form
theorem StgS.mono {w : World} {lo lo' : Nat} {v : Value} {t : List Stg} (h : StgS w lo v t) (hl : lo' ≤ lo) : StgS w lo' v t := by
  obtain ⟨hs, h1, h2⟩ := h
  exact ⟨hs, h1.mono hl, fun i hi => Rd.mono (h2 i hi) hl⟩
theorem StgS.below {w w' : World} {lo B : Nat} {v : Value} {t : List Stg} (h : StgS w lo v t) (hb : Below B w w') (hB : w.heap.size ≤ B) : StgS w' lo v t := by
  obtain ⟨hs, h1, h2⟩ := h
  exact ⟨hs, h1.below hb hB (by decide), fun i hi => Rd.below (h2 i hi) hb hB (by decide)⟩
theorem flat2_get {f : Nat → List Value} (hf : ∀ i, (f i).length = 2) (n i j : Nat) (hi : i < n) (hj : j < 2) : ((List.range n).flatMap f)[i * 2 + j]? = (f i)[j]? := by
  have key : ∀ (l : List Nat) (i j : Nat), j < 2 → (l.flatMap f)[i * 2 + j]? = (l[i]?).bind fun x => (f x)[j]? := by
    intro l
    induction l with
    | nil => intro i j _; simp
    | cons x r ih =>
      intro i j hj
      rw [List.flatMap_cons]
      cases i with
      | zero => rw [Nat.zero_mul, Nat.zero_add, List.getElem?_append_left (by rw [hf]; exact hj)]; simp
      | succ i =>
        rw [List.getElem?_append_right (by rw [hf]; omega), hf, show (i + 1) * 2 + j - 2 = i * 2 + j by omega, ih i j hj]
        simp
  rw [key (List.range n) i j hj]
  simp [hi]
theorem StgS.spot {w : World} {lo : Nat} {t : List Stg} {ao : Option Addr} {len cap : Nat} (h : StgS w lo (.slice ao len cap) t) (hn : 0 < t.length) :
    ∃ b off, ao = some ⟨b, off, none⟩ ∧ lo ≤ b ∧ b < w.heap.size ∧ ∀ i, i < t.length → w.cell? ⟨b, off + i * 2 + 1, none⟩ = some (.int .i64 (t.getD i s0).gr) ∧
      ∃ ai ci, w.cell? ⟨b, off + i * 2, none⟩ = some (.slice ai (t.getD i s0).ph.length ci) ∧ Ints w lo (.slice ai (t.getD i s0).ph.length ci) (t.getD i s0).ph := by
  obtain ⟨hs, h1, h2⟩ := h
  obtain ⟨hl, ao', cap', e0, h3, h4, h5, h6⟩ := h1
  cases e0
  obtain ⟨b, off, e, hb, hc⟩ := h6 hn
  have key : ∀ i j, i < t.length → j < 2 → w.cell? ⟨b, off + (i * 2 + j), none⟩ = ([hs.getD i .nilFunc, .int .i64 (t.getD i s0).gr] : List Value)[j]? := by
    intro i j hi hj
    have hlt : i * 2 + j < ((List.range t.length).flatMap fun i => ([hs.getD i .nilFunc, .int .i64 (t.getD i s0).gr] : List Value)).length := by rw [hl]; omega
    rw [hc (i * 2 + j) hlt, ← List.getElem?_eq_getElem hlt, flat2_get (f := fun i => ([hs.getD i .nilFunc, .int .i64 (t.getD i s0).gr] : List Value)) (fun _ => rfl) t.length i j hi hj]
  refine ⟨b, off, e, hb, World.block_lt_of_cell? w ⟨b, off + 0, none⟩ (hc 0 (by rw [hl]; omega)), fun i hi => ⟨?_, ?_⟩⟩
  · have := key i 1 hi (by omega); simpa [Nat.add_assoc] using this
  · obtain ⟨ai, ci, he, _, _⟩ := (h2 i hi).form
    refine ⟨ai, ci, ?_, by rw [← he]; exact h2 i hi⟩
    have := key i 0 hi (by omega)
    rw [← he]; simpa using this

def PlanR (w : World) (lo : Nat) (v : Value) (p : Pln) : Prop := ∃ vc vs, v = .agg #[vc, vs] ∧ IntSS w lo vc p.cl ∧ StgS w lo vs p.st
theorem PlanR.mono {w : World} {lo lo' : Nat} {v : Value} {p : Pln} (h : PlanR w lo v p) (hl : lo' ≤ lo) : PlanR w lo' v p := by
  obtain ⟨vc, vs, e, h1, h2⟩ := h; exact ⟨vc, vs, e, h1.mono hl, h2.mono hl⟩
theorem PlanR.below {w w' : World} {lo B : Nat} {v : Value} {p : Pln} (h : PlanR w lo v p) (hb : Below B w w') (hB : w.heap.size ≤ B) : PlanR w' lo v p := by
  obtain ⟨vc, vs, e, h1, h2⟩ := h; exact ⟨vc, vs, e, h1.below hb hB, h2.below hb hB⟩

/-- A table of Bools. -/
def BoolSS (w : World) (lo : Nat) (v : Value) (t : List (List Bool)) : Prop :=
  ∃ hs : List Value, Rd w lo v 1 t.length hs ∧ ∀ i, i < t.length → Bools w lo (hs.getD i .nilFunc) (t.getD i [])
theorem BoolSS.form {w : World} {lo : Nat} {v : Value} {t : List (List Bool)} (h : BoolSS w lo v t) : ∃ ao cap, v = .slice ao t.length cap ∧ t.length ≤ cap ∧ cap ≤ 9223372036854775807 := by
  obtain ⟨hs, h1, _⟩ := h; exact h1.form
theorem BoolSS.below {w w' : World} {lo B : Nat} {v : Value} {t : List (List Bool)} (h : BoolSS w lo v t) (hb : Below B w w') (hB : w.heap.size ≤ B) : BoolSS w' lo v t := by
  obtain ⟨hs, h1, h2⟩ := h
  exact ⟨hs, h1.below hb hB (by decide), fun i hi => Rd.below (h2 i hi) hb hB (by decide)⟩
theorem BoolSS.spot {w : World} {lo : Nat} {t : List (List Bool)} {ao : Option Addr} {len cap : Nat} (h : BoolSS w lo (.slice ao len cap) t) (hn : 0 < t.length) :
    ∃ b off, ao = some ⟨b, off, none⟩ ∧ lo ≤ b ∧ b < w.heap.size ∧ ∀ i, i < t.length → ∃ ai ci, w.cell? ⟨b, off + i, none⟩ = some (.slice ai (t.getD i []).length ci) ∧ Bools w lo (.slice ai (t.getD i []).length ci) (t.getD i []) := by
  obtain ⟨hs, h1, h2⟩ := h
  obtain ⟨_, hl, _, _, hc⟩ := h1.cell
  obtain ⟨b, off, e, hb, hb2, hc⟩ := hc hn
  refine ⟨b, off, e, hb, hb2, fun i hi => ?_⟩
  obtain ⟨ai, ci, he, _, _⟩ := (h2 i hi).form
  have hg : hs.getD i .nilFunc = hs[i]'(by omega) := by simp [show i < hs.length by omega]
  refine ⟨ai, ci, ?_, by rw [← he]; exact h2 i hi⟩
  rw [hc i (by omega), ← hg, he]
end Go.Proofs.YtpaioaknppgggaaGreatDoor
