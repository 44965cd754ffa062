/- From the form's reading of an argument to tables and plans. -/
import Derived.Test.YteeikhkcdlcnhaaDoorNest
import Derived.Test.YteeikhkcdlcnhaaDoorOpen
import Derived.ProofKit
import Derived.ChangeSame
import Derived.Deep.Slices
import Derived.Lib.SmallJoins
namespace Go.Proofs.YteeikhkcdlcnhaaDoor
open Go.RowKit
set_option linter.unusedVariables false
set_option linter.unusedSimpArgs false

section
variable {H : Type} {enc : TypeId × Value → H} {P : Program} {w : World} {base : Nat} {spare : Nat → Bool} {held : Bool}

theorem open_IntSS {t e ti : TypeId} {fuel : Nat} {v : Value} {x : DataW H × List MemPlace} (ht : P.underlying t = some (.slice e)) (hc : P.cellsOf e = 1) (he : P.underlying e = some (.slice ti)) (hi : P.underlying ti = some (.int .i64)) (ci : P.cellsOf ti = 1)
    (h : DataW.trod enc P w base spare held fuel t [v] = some x) : ∃ xs, IntSS w 0 v xs := by
  obtain ⟨n, V, hr, hV⟩ := open_Rd1 ht hc h
  have hex : ∀ i, ∃ xs, i < n → Ints w 0 (V i) xs := fun i => by
    by_cases hi' : i < n
    · obtain ⟨m, y, hy⟩ := hV i hi'
      obtain ⟨xs, h1, _⟩ := open_Ints he hi ci hy
      exact ⟨xs, fun _ => h1⟩
    · exact ⟨[], fun h => absurd h hi'⟩
  obtain ⟨X, hX⟩ : ∃ X : Nat → List Int, ∀ i, i < n → Ints w 0 (V i) (X i) := ⟨fun i => (hex i).choose, fun i => (hex i).choose_spec⟩
  refine ⟨(List.range n).map X, (List.range n).map V, ?_, fun i hi' => ?_⟩
  · simpa using hr
  · have : i < n := by simpa using hi'
    simpa [List.getD_eq_getElem?_getD, this] using hX i this

theorem cell_none2 {a : Addr} {u : Value} (h : w.cell? a = some u) : a.spot = none := by
  unfold World.cell? at h
  split at h
  · split at h
    · cases h
    · rename_i h2; simpa using h2
  · cases h
theorem addr_add2 (b off i : Nat) : (⟨b, off, none⟩ : Addr).add i = ⟨b, off + i, none⟩ := by unfold Addr.add; split <;> simp_all
theorem flat_len2 {f : Nat → List Value} (hf : ∀ x, (f x).length = 2) (n : Nat) : ((List.range n).flatMap f).length = n * 2 := by
  have key : ∀ l : List Nat, (l.flatMap f).length = l.length * 2 := by
    intro l
    induction l with
    | nil => rfl
    | cons x r ih => rw [List.flatMap_cons, List.length_append, ih, hf]; simp; omega
  rw [key]; simp

/-- A slice whose elements are two cells. -/
theorem open_Rd2 {t e : TypeId} {fuel : Nat} {v : Value} {x : DataW H × List MemPlace} (ht : P.underlying t = some (.slice e)) (hc : P.cellsOf e = 2) (h : DataW.trod enc P w base spare held fuel t [v] = some x) :
    ∃ n, ∃ V : Nat → List Value, Rd w 0 v 2 n ((List.range n).flatMap V) ∧ ∀ i, i < n → (V i).length = 2 ∧ ∃ m y, DataW.trod enc P w base spare held m e (V i) = some y := by
  rcases Go.Deep.open_slice ht h with ⟨h1, _⟩ | ⟨a, len, cap, m, n, D, Pl, h1, hb, hl, hm, hmm, _, hx⟩
  · obtain rfl : v = .slice none 0 0 := by simpa using h1
    exact ⟨0, fun _ => [], Rd.nil _ _ _, fun i hi => by omega⟩
  · obtain rfl : v = .slice (some a) len cap := by simpa using h1
    rw [hc] at hx
    have hle : len ≤ m := by rw [hmm]; split <;> omega
    have hex : ∀ i, ∃ cs', i < m → w.cells? base (a.add (i * 2)) 2 = some cs' ∧ DataW.trod enc P w base spare held n e cs' = some (D i, Pl i) := fun i => by
      by_cases hi : i < m
      · obtain ⟨cs', h1, h2⟩ := hx i hi; exact ⟨cs', fun _ => ⟨h1, h2⟩⟩
      · exact ⟨[], fun h => absurd h hi⟩
    obtain ⟨V, hV⟩ : ∃ V : Nat → List Value, ∀ i, i < m → w.cells? base (a.add (i * 2)) 2 = some (V i) ∧ DataW.trod enc P w base spare held n e (V i) = some (D i, Pl i) := ⟨fun i => (hex i).choose, fun i => (hex i).choose_spec⟩
    have hlen : ∀ i, i < m → (V i).length = 2 := fun i hi => (World.cells?_some (hV i hi).1).2.1
    obtain ⟨V', hV'⟩ : ∃ V' : Nat → List Value, V' = fun i => if i < m then V i else [.nilFunc, .nilFunc] := ⟨_, rfl⟩
    have hlen' : ∀ i, (V' i).length = 2 := fun i => by rw [hV']; simp only; split; exact hlen i (by assumption); rfl
    have hVV : ∀ i, i < m → V' i = V i := fun i hi => by rw [hV']; simp [hi]
    refine ⟨len, V', ⟨?_, some a, cap, rfl, hl, hm, fun e => (by cases e), fun hn => ?_⟩, fun i hi => ⟨hlen' i, n, _, by rw [hVV i (by omega)]; exact (hV i (by omega)).2⟩⟩
    · rw [flat_len2 hlen']
    · obtain ⟨b, off, spot⟩ := a
      have hcell : ∀ i j, i < m → j < 2 → w.cell? (((⟨b, off, spot⟩ : Addr).add (i * 2)).add j) = (V i)[j]? := fun i j hi hj => (World.cells?_some (hV i hi).1).2.2 j hj
      have h0 := hcell 0 0 (by omega) (by omega)
      rw [List.getElem?_eq_getElem (by rw [hlen 0 (by omega)]; omega)] at h0
      have hs := cell_none2 h0
      have : spot = none := by simpa [Addr.add] using hs
      subst this
      refine ⟨b, off, rfl, Nat.zero_le _, fun i hi => ?_⟩
      have hi' : i < len * 2 := by rw [flat_len2 hlen'] at hi; exact hi
      have := hcell (i / 2) (i % 2) (by omega) (by omega)
      rw [addr_add2, addr_add2, Nat.add_assoc, show i / 2 * 2 + i % 2 = i by omega] at this
      rw [this, ← List.getElem?_eq_getElem hi]
      have e2 := flat2_get hlen' len (i / 2) (i % 2) (by omega) (by omega)
      rw [show i / 2 * 2 + i % 2 = i by omega] at e2
      rw [e2, hVV _ (by omega)]

theorem list2 {cs : List Value} (h : cs.length = 2) : ∃ a b, cs = [a, b] := by
  match cs, h with
  | [a, b], _ => exact ⟨a, b, rfl⟩
theorem open_StgS {t e ts ti : TypeId} {f0 f1 : Field} {fuel : Nat} {v : Value} {x : DataW H × List MemPlace} (ht : P.underlying t = some (.slice e)) (he : P.underlying e = some (.struct #[f0, f1])) (hc : P.cellsOf e = 2)
    (h0 : f0.offset = 0 ∧ f0.type = ts) (h1 : f1.offset = 1 ∧ f1.type = ti) (hts : P.underlying ts = some (.slice ti)) (cs1 : P.cellsOf ts = 1) (hi : P.underlying ti = some (.int .i64)) (ci : P.cellsOf ti = 1)
    (h : DataW.trod enc P w base spare held fuel t [v] = some x) : ∃ ss, StgS w 0 v ss := by
  obtain ⟨n, V, hr, hV⟩ := open_Rd2 ht hc h
  have hex : ∀ i, ∃ (u : Value) (s : Stg), i < n → V i = [u, .int .i64 s.gr] ∧ Ints w 0 u s.ph := fun i => by
    by_cases hi' : i < n
    · obtain ⟨hl, m, y, hy⟩ := hV i hi'
      obtain ⟨y0, y1, m', _, _, g0, g1⟩ := Go.ChangeShapes.trod_struct2 he hy
      obtain ⟨a, b, hab⟩ := list2 hl
      rw [hab] at g0 g1
      rw [h0.1, h0.2, cs1] at g0
      rw [h1.1, h1.2, ci] at g1
      simp at g0 g1
      obtain ⟨xs, hx, _⟩ := open_Ints hts hi ci g0
      obtain ⟨gr, q1, _, _⟩ := DataW.trod_int hi g1
      simp at q1
      exact ⟨a, ⟨xs, gr⟩, fun _ => ⟨by rw [hab, q1], hx⟩⟩
    · exact ⟨.nilFunc, s0, fun h => absurd h hi'⟩
  obtain ⟨U, hU⟩ : ∃ U : Nat → Value, ∀ i, ∃ s : Stg, i < n → V i = [U i, .int .i64 s.gr] ∧ Ints w 0 (U i) s.ph := ⟨fun i => (hex i).choose, fun i => (hex i).choose_spec⟩
  obtain ⟨S, hS⟩ : ∃ S : Nat → Stg, ∀ i, i < n → V i = [U i, .int .i64 (S i).gr] ∧ Ints w 0 (U i) (S i).ph := ⟨fun i => (hU i).choose, fun i => (hU i).choose_spec⟩
  refine ⟨(List.range n).map S, (List.range n).map U, ?_, fun i hi' => ?_⟩
  · have e : (List.range n).flatMap V = (List.range ((List.range n).map S).length).flatMap fun i => [((List.range n).map U).getD i .nilFunc, .int .i64 (((List.range n).map S).getD i s0).gr] := by
      rw [List.length_map, List.length_range]
      unfold List.flatMap
      congr 1
      apply List.map_congr_left
      intro i hi'
      have hi'' := List.mem_range.1 hi'
      rw [(hS i hi'').1]
      simp [List.getD_eq_getElem?_getD, hi'']
    rw [← e]
    simpa using hr
  · have hi'' : i < n := by simpa using hi'
    simpa [List.getD_eq_getElem?_getD, hi''] using (hS i hi'').2
end
end Go.Proofs.YteeikhkcdlcnhaaDoor
