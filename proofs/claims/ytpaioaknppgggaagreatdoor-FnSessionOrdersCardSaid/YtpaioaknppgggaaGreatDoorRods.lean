/- Slices of roads (three cells each): reading, and from the form's reading to it. -/
import Derived.Test.YtpaioaknppgggaaGreatDoorTown1
import Derived.ProofKit
import Derived.Deep.Slices
import Derived.Deep.Strs
namespace Go.Proofs.YtpaioaknppgggaaGreatDoor
open Go.RowKit
set_option linter.unusedVariables false
set_option linter.unusedSimpArgs false

theorem flat_get {α : Type} {f : α → List Value} {K : Nat} (hf : ∀ x, (f x).length = K) : ∀ (l : List α) (i j : Nat), j < K → (l.flatMap f)[i * K + j]? = (l[i]?).bind fun x => (f x)[j]? := by
  intro l
  induction l with
  | nil => intro i j _; simp
  | cons x r ih =>
    intro i j hj
    rw [List.flatMap_cons]
    cases i with
    | zero => rw [Nat.zero_mul, Nat.zero_add, List.getElem?_append_left (by rw [hf]; exact hj)]; simp
    | succ i =>
      rw [List.getElem?_append_right (by rw [hf, Nat.add_mul]; omega), hf, show (i + 1) * K + j - K = i * K + j by rw [Nat.add_mul]; omega, ih i j hj]
      simp
theorem flat_len {α : Type} {f : α → List Value} {K : Nat} (hf : ∀ x, (f x).length = K) (l : List α) : (l.flatMap f).length = l.length * K := by
  induction l with
  | nil => simp
  | cons x r ih => rw [List.flatMap_cons, List.length_append, hf, ih, List.length_cons, Nat.add_mul]; omega

def rodCells (e : Rod) : List Value := [.int .i64 e.f, .int .i64 e.t, .int .i64 e.c]
theorem rodCells_len (e : Rod) : (rodCells e).length = 3 := rfl
def Rods (w : World) (lo : Nat) (v : Value) (es : List Rod) : Prop := Rd w lo v 3 es.length (es.flatMap rodCells)

theorem Rods.spot {w : World} {lo : Nat} {es : List Rod} {ao : Option Addr} {len cap : Nat} (h : Rods w lo (.slice ao len cap) es) (hn : 0 < es.length) :
    ∃ b off, ao = some ⟨b, off, none⟩ ∧ lo ≤ b ∧ b < w.heap.size ∧ ∀ i, i < es.length → w.cell? ⟨b, off + i * 3, none⟩ = some (.int .i64 (es.getD i r0).f) ∧ w.cell? ⟨b, off + i * 3 + 1, none⟩ = some (.int .i64 (es.getD i r0).t) ∧ w.cell? ⟨b, off + i * 3 + 2, none⟩ = some (.int .i64 (es.getD i r0).c) := by
  obtain ⟨h1, ao', cap', h2, h3, h4, h5, h6⟩ := h
  cases h2
  obtain ⟨b, off, e, hb, hc⟩ := h6 hn
  have key : ∀ i j, i < es.length → j < 3 → w.cell? ⟨b, off + (i * 3 + j), none⟩ = (rodCells (es.getD i r0))[j]? := by
    intro i j hi hj
    have hlt : i * 3 + j < (es.flatMap rodCells).length := by rw [h1]; omega
    rw [hc (i * 3 + j) hlt, ← List.getElem?_eq_getElem hlt, flat_get rodCells_len es i j hj]
    simp [hi]
  refine ⟨b, off, e, hb, World.block_lt_of_cell? w ⟨b, off + 0, none⟩ (hc 0 (by rw [h1]; omega)), fun i hi => ⟨?_, ?_, ?_⟩⟩
  · have := key i 0 hi (by omega); simpa [rodCells] using this
  · have := key i 1 hi (by omega); simpa [rodCells, Nat.add_assoc] using this
  · have := key i 2 hi (by omega); simpa [rodCells, Nat.add_assoc] using this

theorem Own.store {w : World} {lo : Nat} {e : TypeId} {sz n g len cap : Nat} {cs : List Value} (h : Own w lo e sz (.slice (some ⟨g, 0, none⟩) len cap) n cs) (hn : 0 < n) (i : Nat) (u : Value) :
    Own (w.setCell ⟨g, i, none⟩ u) lo e sz (.slice (some ⟨g, 0, none⟩) len cap) n (cs.set i u) ∧ w.grownBy (w.setCell ⟨g, i, none⟩ u) (some g) := by
  obtain ⟨g', e1, _, _, _, _, hset⟩ := h.parts hn
  cases e1
  exact hset i u

section
variable {H : Type} {enc : TypeId × Value → H} {P : Program} {w : World} {base : Nat} {spare : Nat → Bool} {held : Bool}

theorem cell_none' {a : Addr} {u : Value} (h : w.cell? a = some u) : a.spot = none := by
  unfold World.cell? at h
  split at h
  · split at h
    · cases h
    · rename_i h2; simpa using h2
  · cases h
theorem addr_add (b off i : Nat) : (⟨b, off, none⟩ : Addr).add i = ⟨b, off + i, none⟩ := by unfold Addr.add; split <;> simp_all

/-- A slice whose elements are K cells. -/
theorem open_RdK {t e : TypeId} {fuel K : Nat} (hK : 0 < K) {v : Value} {x : DataW H × List MemPlace} (ht : P.underlying t = some (.slice e)) (hc : P.cellsOf e = K) (h : DataW.trod enc P w base spare held fuel t [v] = some x) :
    ∃ n, ∃ V : Nat → List Value, Rd w 0 v K n ((List.range n).flatMap V) ∧ ∀ i, i < n → (V i).length = K ∧ ∃ m y, DataW.trod enc P w base spare held m e (V i) = some y := by
  rcases Go.Deep.open_slice ht h with ⟨h1, _⟩ | ⟨a, len, cap, m, n, D, Pl, h1, hb, hl, hm, hmm, _, hx⟩
  · obtain rfl : v = .slice none 0 0 := by simpa using h1
    exact ⟨0, fun _ => [], Rd.nil _ _ _, fun i hi => by omega⟩
  · obtain rfl : v = .slice (some a) len cap := by simpa using h1
    rw [hc] at hx
    have hle : len ≤ m := by rw [hmm]; split <;> omega
    have hex : ∀ i, ∃ cs', i < m → w.cells? base (a.add (i * K)) K = some cs' ∧ DataW.trod enc P w base spare held n e cs' = some (D i, Pl i) := fun i => by
      by_cases hi : i < m
      · obtain ⟨cs', h1, h2⟩ := hx i hi; exact ⟨cs', fun _ => ⟨h1, h2⟩⟩
      · exact ⟨[], fun h => absurd h hi⟩
    obtain ⟨V, hV⟩ : ∃ V : Nat → List Value, ∀ i, i < m → w.cells? base (a.add (i * K)) K = some (V i) ∧ DataW.trod enc P w base spare held n e (V i) = some (D i, Pl i) := ⟨fun i => (hex i).choose, fun i => (hex i).choose_spec⟩
    have hlen : ∀ i, i < m → (V i).length = K := fun i hi => (World.cells?_some (hV i hi).1).2.1
    -- the list made total
    obtain ⟨V', hV'⟩ : ∃ V' : Nat → List Value, V' = fun i => if i < m then V i else List.replicate K .nilFunc := ⟨_, rfl⟩
    have hlen' : ∀ i, (V' i).length = K := fun i => by rw [hV']; simp only; split; exact hlen i (by assumption); simp
    have hVV : ∀ i, i < m → V' i = V i := fun i hi => by rw [hV']; simp [hi]
    refine ⟨len, V', ⟨?_, some a, cap, rfl, hl, hm, fun e => (by cases e), fun hn => ?_⟩, fun i hi => ⟨hlen' i, n, _, by rw [hVV i (by omega)]; exact (hV i (by omega)).2⟩⟩
    · rw [flat_len hlen']; simp
    · obtain ⟨b, off, spot⟩ := a
      have hcell : ∀ i j, i < m → j < K → w.cell? (((⟨b, off, spot⟩ : Addr).add (i * K)).add j) = (V i)[j]? := fun i j hi hj => (World.cells?_some (hV i hi).1).2.2 j hj
      have h0 := hcell 0 0 (by omega) hK
      rw [List.getElem?_eq_getElem (by rw [hlen 0 (by omega)]; exact hK)] at h0
      have hs := cell_none' h0
      have : spot = none := by simpa [Addr.add] using hs
      subst this
      refine ⟨b, off, rfl, Nat.zero_le _, fun i hi => ?_⟩
      have hi' : i < len * K := by rw [flat_len hlen'] at hi; simpa using hi
      have hd : i / K < len := Nat.div_lt_of_lt_mul (by rw [Nat.mul_comm]; exact hi')
      have hm' : i % K < K := Nat.mod_lt _ hK
      have e1 : i = (i / K) * K + i % K := by rw [Nat.mul_comm]; exact (Nat.div_add_mod i K).symm
      have := hcell (i / K) (i % K) (by omega) hm'
      rw [addr_add, addr_add, Nat.add_assoc, ← e1] at this
      rw [this, ← List.getElem?_eq_getElem hi]
      have e2 := flat_get hlen' (List.range len) (i / K) (i % K) hm'
      rw [← e1] at e2
      rw [e2]
      simp [hd, hVV (i / K) (by omega)]

theorem range_flat_eq {α : Type} {f : α → List Value} {V : Nat → List Value} {n : Nat} (h : ∀ i, i < n → ∃ b, V i = f b) : ∃ xs : List α, xs.length = n ∧ (List.range n).flatMap V = xs.flatMap f ∧ ∀ x ∈ xs, ∃ i, i < n ∧ V i = f x := by
  induction n with
  | zero => exact ⟨[], rfl, rfl, fun x hx => by simp at hx⟩
  | succ n ih =>
    obtain ⟨xs, h1, h2, h3⟩ := ih (fun i hi => h i (by omega))
    obtain ⟨b, hb⟩ := h n (by omega)
    refine ⟨xs ++ [b], by simp [h1], by rw [List.range_succ, List.flatMap_append, List.flatMap_append, h2]; simp [hb], fun x hx => ?_⟩
    rcases List.mem_append.1 hx with hx | hx
    · obtain ⟨i, hi, e⟩ := h3 x hx
      exact ⟨i, by omega, e⟩
    · simp at hx; subst hx; exact ⟨n, by omega, hb⟩

theorem in64_of_wf {x : Int} (h : (Lit.int .i64 x).wf = true) : in64 x := by simpa [in64, Lit.wf, IntKind.min, IntKind.max, IntKind.signed, IntKind.bits] using h

theorem list3 {cs : List Value} (h : cs.length = 3) : ∃ a b c, cs = [a, b, c] := by
  match cs, h with
  | [a, b, c], _ => exact ⟨a, b, c, rfl⟩

def RodOk (e : Rod) : Prop := in64 e.f ∧ in64 e.t ∧ in64 e.c
theorem open_rod {e ti : TypeId} {f0 f1 f2 : Field} {fuel : Nat} {cs : List Value} {x : DataW H × List MemPlace} (he : P.underlying e = some (.struct #[f0, f1, f2])) (hl : cs.length = 3)
    (h0 : f0.offset = 0 ∧ f0.type = ti) (h1 : f1.offset = 1 ∧ f1.type = ti) (h2 : f2.offset = 2 ∧ f2.type = ti) (hi : P.underlying ti = some (.int .i64)) (ci : P.cellsOf ti = 1)
    (h : DataW.trod enc P w base spare held fuel e cs = some x) : ∃ en : Rod, cs = rodCells en ∧ RodOk en := by
  obtain ⟨y0, y1, y2, n, _, _, g0, g1, g2⟩ := Go.Deep.trod_struct3 he h
  obtain ⟨a, b, c, rfl⟩ := list3 hl
  rw [h0.1, h0.2, ci] at g0
  rw [h1.1, h1.2, ci] at g1
  rw [h2.1, h2.2, ci] at g2
  obtain ⟨t, q0, _, w0⟩ := DataW.trod_int hi g0
  obtain ⟨u, q1, _, w1⟩ := DataW.trod_int hi g1
  obtain ⟨s, q2, _, w2⟩ := DataW.trod_int hi g2
  simp at q0 q1 q2
  exact ⟨⟨t, u, s⟩, by rw [q0, q1, q2]; rfl, in64_of_wf w0, in64_of_wf w1, in64_of_wf w2⟩

theorem open_Rods {t e ti : TypeId} {f0 f1 f2 : Field} {fuel : Nat} {v : Value} {x : DataW H × List MemPlace} (ht : P.underlying t = some (.slice e)) (he : P.underlying e = some (.struct #[f0, f1, f2])) (hc : P.cellsOf e = 3)
    (h0 : f0.offset = 0 ∧ f0.type = ti) (h1 : f1.offset = 1 ∧ f1.type = ti) (h2 : f2.offset = 2 ∧ f2.type = ti) (hi : P.underlying ti = some (.int .i64)) (ci : P.cellsOf ti = 1)
    (h : DataW.trod enc P w base spare held fuel t [v] = some x) : ∃ es, Rods w 0 v es ∧ ∀ en ∈ es, RodOk en := by
  obtain ⟨n, V, hr, hV⟩ := open_RdK (K := 3) (by omega) ht hc h
  have hent : ∀ i, i < n → ∃ en : Rod, V i = rodCells en ∧ RodOk en := fun i hi' => by
    obtain ⟨hl, m, y, hy⟩ := hV i hi'
    exact open_rod he hl h0 h1 h2 hi ci hy
  obtain ⟨es, q1, q2, q3⟩ := range_flat_eq (f := rodCells) (V := V) (n := n) (fun i hi' => by obtain ⟨en, h, _⟩ := hent i hi'; exact ⟨en, h⟩)
  refine ⟨es, by unfold Rods; rw [q1, ← q2]; exact hr, fun en hen => ?_⟩
  obtain ⟨i, hi', e1⟩ := q3 en hen
  obtain ⟨en', e2, ok⟩ := hent i hi'
  rw [e1] at e2
  have : en = en' := by
    cases en; cases en'; simp [rodCells] at e2; simp [e2]
  rw [this]; exact ok
end
end Go.Proofs.YtpaioaknppgggaaGreatDoor
