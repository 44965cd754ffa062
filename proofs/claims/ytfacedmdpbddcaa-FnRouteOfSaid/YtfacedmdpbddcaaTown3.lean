/- eqRoadS, proved once. -/
import Derived.Test.YtfacedmdpbddcaaTown2
namespace Go.Proofs.Ytfacedmdpbddcaa
open Go.RowKit
set_option linter.unusedVariables false
set_option linter.unusedSimpArgs false

set_option maxHeartbeats 1000000 in
theorem eqRoadS_same (w : World) (va vb : Value) (es : List Rod) (ha : Rods w 0 va es) (hb : Rods w 0 vb es) :
    Calls Try.prog 15 #[va, vb] w fun e' w' => e' = .returned (.bool true) ∧ Below w.heap.size w w' := by
  obtain ⟨ao, cap, rfl, hcap, hm⟩ := ha.form
  obtain ⟨ao', cap', rfl, hcap', hm'⟩ := hb.form
  go_enter Try.func15, Try.ntmps15
  go_wp2
  go_loopw [5] (fun i wr => ∃ k : Nat, k ≤ es.length ∧ i = .int .i64 k ∧ Below w.heap.size w wr) (fun i _ => es.length - (intOf i).toNat)
  case atStart => exact ⟨0, Nat.zero_le _, rfl, Below.refl _ _⟩
  case round =>
    obtain ⟨k, hk, rfl, hB⟩ := hrel
    by_cases hlt : k < es.length
    · obtain ⟨b, off, rfl, _, hb1, hc⟩ := Rods.spot (Rd.below ha hB (Nat.le_refl _) (by decide)) (by omega)
      obtain ⟨b', off', rfl, _, hb2, hc'⟩ := Rods.spot (Rd.below hb hB (Nat.le_refl _) (by decide)) (by omega)
      obtain ⟨s1, s2, s3⟩ := hc k hlt
      obtain ⟨r1, r2, r3⟩ := hc' k hlt
      obtain ⟨en, hen⟩ : ∃ en, en = es.getD k r0 := ⟨_, rfl⟩
      rw [← hen] at s1 s2 s3 r1 r2 r3
      clear hc hc' hen ha hb
      have hk0 : (0 : Int) ≤ (k : Int) := by omega
      have hk1 : (k : Int) < (es.length : Int) := by omega
      have hsz := hB.size
      go_wp2_with fail
      go_region_held3 (fun w' => w'.cell? ⟨b, off + k * 3, none⟩ = some (.int .i64 en.f) ∧ w'.cell? ⟨b, off + k * 3 + 1, none⟩ = some (.int .i64 en.t) ∧ w'.cell? ⟨b, off + k * 3 + 2, none⟩ = some (.int .i64 en.c) ∧
          w'.cell? ⟨b', off' + k * 3, none⟩ = some (.int .i64 en.f) ∧ w'.cell? ⟨b', off' + k * 3 + 1, none⟩ = some (.int .i64 en.t) ∧ w'.cell? ⟨b', off' + k * 3 + 2, none⟩ = some (.int .i64 en.c))
        (first | go_keep | exact ⟨(hB2.cell (p := ⟨b, off + k * 3, none⟩) (by simpa using hb1)).trans s1, (hB2.cell (p := ⟨b, off + k * 3 + 1, none⟩) (by simpa using hb1)).trans s2, (hB2.cell (p := ⟨b, off + k * 3 + 2, none⟩) (by simpa using hb1)).trans s3, (hB2.cell (p := ⟨b', off' + k * 3, none⟩) (by simpa using hb2)).trans r1, (hB2.cell (p := ⟨b', off' + k * 3 + 1, none⟩) (by simpa using hb2)).trans r2, (hB2.cell (p := ⟨b', off' + k * 3 + 2, none⟩) (by simpa using hb2)).trans r3⟩)
        ((go_at_call 31; refine (eqRoad_same _ en.f en.t en.c).mono ?_; rintro e' w2 ⟨rfl, hB2⟩))
      go_wp2
      go_roundw
      case rel => exact ⟨k + 1, by omega, by go_num, (Below.drew hB).trans (hB2.mono (by simpa using hsz))⟩
      case measure => simp [intOf]; omega
    · go_wp2
      go_ret
      exact ⟨rfl, hB⟩

/-- What markRoadS leaves. -/
def markE (k i : Nat) : List Value := [.int .i64 ((k : Int) + 3 * (i : Int)), .int .i64 ((k : Int) + 3 * (i : Int) + 1), .int .i64 ((k : Int) + 3 * (i : Int) + 1 + 1)]
def marksE (k n : Nat) : List Value := (List.range n).flatMap (markE k)
theorem markE_len (k i : Nat) : (markE k i).length = 3 := rfl
theorem marksE_len (k n : Nat) : (marksE k n).length = n * 3 := by unfold marksE; rw [flat_len (markE_len k)]; simp
theorem marksE_get {k n i j : Nat} (hi : i < n) (hj : j < 3) : (marksE k n)[i * 3 + j]? = (markE k i)[j]? := by
  unfold marksE; rw [flat_get (markE_len k) _ i j hj]; simp [hi]
theorem mset3 {cs : List Value} {n k i : Nat} (hl : cs.length = n * 3) (hi : i < n) (h : ∀ j, j < i * 3 → cs[j]? = (marksE k n)[j]?) :
    ∀ j, j < (i + 1) * 3 → (((cs.set (i * 3) (.int .i64 ((k : Int) + 3 * (i : Int)))).set (i * 3 + 1) (.int .i64 ((k : Int) + 3 * (i : Int) + 1))).set (i * 3 + 2) (.int .i64 ((k : Int) + 3 * (i : Int) + 1 + 1)))[j]? = (marksE k n)[j]? := by
  intro j hj
  by_cases h1 : j < i * 3
  · rw [List.getElem?_set_ne (by omega), List.getElem?_set_ne (by omega), List.getElem?_set_ne (by omega)]; exact h j h1
  · obtain ⟨q, hq, rfl⟩ : ∃ q, q < 3 ∧ j = i * 3 + q := ⟨j - i * 3, by rw [Nat.add_mul] at hj; omega, by omega⟩
    rw [marksE_get hi hq]
    match q, hq with
    | 0, _ => simp only [Nat.add_zero]; rw [List.getElem?_set_ne (by omega), List.getElem?_set_ne (by omega), List.getElem?_set_self (by omega)]; rfl
    | 1, _ => rw [List.getElem?_set_ne (by omega), List.getElem?_set_self (by simp; omega)]; rfl
    | 2, _ => rw [List.getElem?_set_self (by simp; omega)]; rfl

set_option maxHeartbeats 1000000 in
theorem markRoadS_any (w : World) (lo : Nat) (v : Value) (n k : Nat) (cs : List Value) (hv : Own w lo 39 3 v n cs) (hk : k + 3 * n ≤ 1000000000000) :
    Calls Try.prog 22 #[v, .int .i64 k] w fun e w' => e = .returned (.int .i64 ((k : Int) + 3 * n)) ∧ Own w' lo 39 3 v n (marksE k n) ∧ w.grownBy w' (wblk v) := by
  obtain ⟨ao, cap, rfl, hcap, hm⟩ := hv.form
  go_enter Try.func22, Try.ntmps22
  go_wp2
  go_loopw [1, 5] (fun kk i wo => ∃ j : Nat, ∃ cs, j ≤ n ∧ i = .int .i64 j ∧ kk = .int .i64 ((k : Int) + 3 * j) ∧ Own wo lo 39 3 (.slice ao n cap) n cs ∧ (∀ i, i < j * 3 → cs[i]? = (marksE k n)[i]?) ∧ w.grownBy wo (wblk (.slice ao n cap)))
    (fun _ i _ => n - (intOf i).toNat)
  case atStart => exact ⟨0, cs, Nat.zero_le _, rfl, by simp, hv, fun i hi => by omega, grownBy_refl _ _⟩
  case round =>
    clear hv
    obtain ⟨j, cs, hj, rfl, rfl, hO, hcs, hG⟩ := hrel
    have hlen := hO.len
    by_cases hlt : j < n
    · obtain ⟨g, rfl, _, hg2, hcell, hfr, hset⟩ := hO.parts (by omega)
      have hd1 := hcell (j * 3) (by omega)
      have hd2 := hcell (j * 3 + 1) (by omega)
      have hd3 := hcell (j * 3 + 2) (by omega)
      have hf1 := hfr (j * 3)
      have hf2 := hfr (j * 3 + 1)
      have hf3 := hfr (j * 3 + 2)
      have HS3 := Lib.hid (mset3 (k := k) hlen hlt hcs)
      have g1 := hO.store (by omega) (j * 3) (.int .i64 ((k : Int) + 3 * (j : Int)))
      have g2 := g1.1.store (by omega) (j * 3 + 1) (.int .i64 ((k : Int) + 3 * (j : Int) + 1))
      have g3 := g2.1.store (by omega) (j * 3 + 2) (.int .i64 ((k : Int) + 3 * (j : Int) + 1 + 1))
      have G3 := Lib.hid (And.intro g3.1 (And.intro g1.2 (And.intro g2.2 g3.2)))
      have HO := Lib.hid hO
      clear hcell hfr hset hcs hO g1 g2 g3
      go_wp2
      go_roundw
      case rel => exact ⟨j + 1, _, by omega, by go_num, by go_num, G3.out.1, HS3.out, grownBy_trans hG (grownBy_trans (grownBy_trans G3.out.2.1 G3.out.2.2.1 (fun x hx => .inl hx)) G3.out.2.2.2 (fun x hx => .inl hx)) (fun x hx => .inl (by cases hx; simp [wblk]; omega))⟩
      case measure => simp [intOf]; omega
    · go_wp2
      go_ret
      obtain rfl : j = n := by omega
      refine ⟨rfl, ?_, hG⟩
      rw [← list_eq_of (cs := cs) (ds := marksE k j) (n := j * 3) (by omega) (marksE_len k j) (fun i hi => hcs i (by omega))]
      exact hO

end Go.Proofs.Ytfacedmdpbddcaa
