/- Copies and comparisons of roads: toRoad, toRoadS, eqRoad, eqRoadS, szRoadS. -/
import Derived.Test.YtfacedmdpbddcaaProg
import Derived.Test.YtfacedmdpbddcaaRods
import Derived.Outline
import Derived.Deep.QuietTactic
import Derived.BigQuiet
import Derived.StillTailTactics
import Derived.Deep.RegionHeld3
namespace Go.Proofs.Ytfacedmdpbddcaa
open Go.RowKit
set_option linter.unusedVariables false
set_option linter.unusedSimpArgs false

def rodV (e : Rod) : Value := .agg #[.int .i64 e.f, .int .i64 e.t, .int .i64 e.c]

theorem toRoad_any (w : World) (a b c : Int) :
    Calls Try.prog 29 #[.agg #[.int .i64 a, .int .i64 b, .int .i64 c]] w fun e' w' => e' = .returned (.agg #[.int .i64 a, .int .i64 b, .int .i64 c]) ∧ Below w.heap.size w w' := by
  go_enter Try.func29, Try.ntmps29
  go_wp2
  exact bodyPost_ret (v := .agg #[.int .i64 a, .int .i64 b, .int .i64 c]) (by simp [results, Try.results29, go_sem]) rfl ⟨rfl, (by repeat (first | exact Below.refl _ _ | (refine Below.setCell ?_ (by simp <;> omega) _) | (refine Below.alloc ?_ (by simp <;> omega) _)))⟩

theorem eqRoad_same (w : World) (a b c : Int) :
    Calls Try.prog 31 #[.agg #[.int .i64 a, .int .i64 b, .int .i64 c], .agg #[.int .i64 a, .int .i64 b, .int .i64 c]] w fun e' w' => e' = .returned (.bool true) ∧ Below w.heap.size w w' := by
  have t1 : (!(a == a)) = false := by simp
  have t2 : (!(b == b)) = false := by simp
  have t3 : (!(c == c)) = false := by simp
  go_enter Try.func31, Try.ntmps31
  go_wp2
  go_ret
  exact ⟨rfl, (by repeat (first | exact Below.refl _ _ | (refine Below.setCell ?_ (by simp <;> omega) _) | (refine Below.alloc ?_ (by simp <;> omega) _)))⟩

theorem szRoadS_any (w : World) (lo : Nat) (v : Value) (es : List Rod) (hv : Rods w lo v es) :
    Calls Try.prog 11 #[v, .int .i64 1048576] w fun e' w' => e' = .returned (.int .i64 (if es.length ≤ 1048576 then 1048576 - (es.length : Int) else -1)) ∧ w = w' := by
  obtain ⟨ao, cap, rfl, hcap, hm⟩ := hv.form
  by_cases h : es.length ≤ 1048576
  · go_enter Try.func11, Try.ntmps11
    go_wp2
    go_ret
    exact ⟨rfl, rfl⟩
  · go_enter Try.func11, Try.ntmps11
    go_wp2
    go_ret
    exact ⟨rfl, rfl⟩

theorem info_road : (Try.prog.info? 39).map (fun i => (i.zero, i.size, i.bytes)) = some (some (.agg #[.int .i64 0, .int .i64 0, .int .i64 0]), 3, 24) := by kernel_rfl

theorem set3 {cs : List Value} {es : List Rod} {k : Nat} (hl : cs.length = es.length * 3) (hk : k < es.length) (h : ∀ i, i < k * 3 → cs[i]? = (es.flatMap rodCells)[i]?) :
    ∀ i, i < (k + 1) * 3 → (((cs.set (k * 3) (.int .i64 (es.getD k r0).f)).set (k * 3 + 1) (.int .i64 (es.getD k r0).t)).set (k * 3 + 2) (.int .i64 (es.getD k r0).c))[i]? = (es.flatMap rodCells)[i]? := by
  intro i hi
  by_cases h1 : i < k * 3
  · rw [List.getElem?_set_ne (by omega), List.getElem?_set_ne (by omega), List.getElem?_set_ne (by omega)]; exact h i h1
  · obtain ⟨j, hj, rfl⟩ : ∃ j, j < 3 ∧ i = k * 3 + j := ⟨i - k * 3, by rw [Nat.add_mul] at hi; omega, by omega⟩
    rw [flat_get rodCells_len es k j hj]
    have hkk : es[k]? = some (es.getD k r0) := by simp [hk]
    rw [hkk]
    match j, hj with
    | 0, _ => simp only [Nat.add_zero]; rw [List.getElem?_set_ne (by omega), List.getElem?_set_ne (by omega), List.getElem?_set_self (by omega)]; rfl
    | 1, _ => rw [List.getElem?_set_ne (by omega), List.getElem?_set_self (by simp; omega)]; rfl
    | 2, _ => rw [List.getElem?_set_self (by simp; omega)]; rfl

theorem toRoadS_any (w : World) (v : Value) (es : List Rod) (hv : Rods w 0 v es) (hn : es.length ≤ 2097152) :
    Calls Try.prog 13 #[v] w fun e' w' => ∃ v', e' = .returned v' ∧ Own w' w.heap.size 39 3 v' es.length (es.flatMap rodCells) ∧ Below w.heap.size w w' := by
  obtain ⟨ao, cap, rfl, hcap, hm⟩ := hv.form
  obtain ⟨i0, hi, hz0, hz1, hz2⟩ := info_parts info_road
  go_enter Try.func13, Try.ntmps13
  go_wp2_with (at_make; refine wpList_make_full _ rfl _ _ 25 rfl w.heap.size 39 i0 (.agg #[.int .i64 0, .int .i64 0, .int .i64 0]) 3 Try.underlying25 hi hz0 hz1 .i64 .i64 es.length es.length es.length rfl rfl rfl rfl (by rw [hz2]; omega) (by unfold maxLen; omega) (Nat.le_refl _) ?_; intro w1 hown hg1)
  have hO : Own w1 w.heap.size 39 3 (.slice (some ⟨w.heap.size, 0, none⟩) es.length es.length) es.length (madeCells (Value.agg #[.int .i64 0, .int .i64 0, .int .i64 0]).cells (es.length * 3)).toList := .inl hown
  have hB := below_of_grownBy hg1 (Nat.le_refl _) (fun k hk => by cases hk)
  clear hown hg1
  go_loopw [4] (fun i wo => ∃ k : Nat, ∃ cs, k ≤ es.length ∧ i = .int .i64 k ∧ Own wo w.heap.size 39 3 (.slice (some ⟨w.heap.size, 0, none⟩) es.length es.length) es.length cs ∧ (∀ i, i < k * 3 → cs[i]? = (es.flatMap rodCells)[i]?) ∧ Below w.heap.size w wo)
    (fun i _ => es.length - (intOf i).toNat)
  case atStart => exact ⟨0, _, Nat.zero_le _, rfl, hO, fun i hi => by omega, hB⟩
  case round =>
    clear hO hB
    obtain ⟨k, cs, hk, rfl, hO, hcs, hB⟩ := hrel
    have hlen := hO.len
    have hv' := Rd.below hv hB (Nat.le_refl _) (by decide)
    by_cases hlt : k < es.length
    · obtain ⟨b, off, rfl, _, hb, hc⟩ := Rods.spot hv' (by omega)
      obtain ⟨s1, s2, s3⟩ := hc k hlt
      clear hc hv'
      obtain ⟨g, hg, _, hg2, hcell, hfr, hset⟩ := hO.parts (by omega)
      cases hg
      have hd1 := hcell (k * 3) (by omega)
      have hd2 := hcell (k * 3 + 1) (by omega)
      have hd3 := hcell (k * 3 + 2) (by omega)
      have hf1 := hfr (k * 3)
      have hf2 := hfr (k * 3 + 1)
      have hf3 := hfr (k * 3 + 2)
      have HS3 := Lib.hid (set3 hlen hlt hcs)
      obtain ⟨en, hen⟩ : ∃ en, en = es.getD k r0 := ⟨_, rfl⟩
      rw [← hen] at s1 s2 s3 HS3
      have HE := Lib.hid hen
      have HO : Hid (Own _ w.heap.size 39 3 _ es.length cs) := hO
      clear hen hcell hfr hset hcs
      go_wp2_with (go_at_call 29; refine (toRoad_any _ en.f en.t en.c).mono ?_; rintro e' w2 ⟨rfl, hB2⟩; have hd1' := (hB2.cell (p := ⟨w.heap.size, k * 3, none⟩) hg2).trans hd1; have hd2' := (hB2.cell (p := ⟨w.heap.size, k * 3 + 1, none⟩) hg2).trans hd2; have hd3' := (hB2.cell (p := ⟨w.heap.size, k * 3 + 2, none⟩) hg2).trans hd3; have hf1' := (hB2.frozen (p := ⟨w.heap.size, k * 3, none⟩) hg2).trans hf1; have hf2' := (hB2.frozen (p := ⟨w.heap.size, k * 3 + 1, none⟩) hg2).trans hf2; have hf3' := (hB2.frozen (p := ⟨w.heap.size, k * 3 + 2, none⟩) hg2).trans hf3)
      have hO2 := HO.out.below hB2 (Nat.le_refl _)
      have hS1 := (hO2.store (by omega) (k * 3) (.int .i64 en.f)).1
      have hS2 := (hS1.store (by omega) (k * 3 + 1) (.int .i64 en.t)).1
      have hS3 := (hS2.store (by omega) (k * 3 + 2) (.int .i64 en.c)).1
      have hB' := hB.trans (hB2.mono hB.size)
      go_roundw
      case rel => exact ⟨k + 1, _, by omega, by go_num, hS3, HS3.out, ((hB'.setCell (Nat.le_refl _) _).setCell (Nat.le_refl _) _).setCell (Nat.le_refl _) _⟩
      case measure => simp [intOf]; omega
    · go_wp2
      go_ret
      refine ⟨_, rfl, ?_, hB⟩
      rw [← list_eq_of (cs := cs) (ds := es.flatMap rodCells) (n := es.length * 3) (by omega) (flat_len rodCells_len es) (fun i hi => hcs i (by omega))]
      exact hO
end Go.Proofs.Ytfacedmdpbddcaa
