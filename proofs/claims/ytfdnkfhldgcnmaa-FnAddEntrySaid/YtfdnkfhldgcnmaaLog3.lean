/- eqEntryS, proved once. -/
import Derived.Test.YtfdnkfhldgcnmaaLog2
namespace Go.Proofs.Ytfdnkfhldgcnmaa
open Go.RowKit

set_option maxHeartbeats 1000000 in
theorem eqEntryS_same (w : World) (va vb : Value) (es : List Ent) (ha : Ents w 0 va es) (hb : Ents w 0 vb es) :
    Calls Try.prog 16 #[va, vb] w fun e' w' => e' = .returned (.bool true) ∧ Below w.heap.size w w' := by
  obtain ⟨ao, cap, rfl, hcap, hm⟩ := ha.form
  obtain ⟨ao', cap', rfl, hcap', hm'⟩ := hb.form
  go_enter Try.func16, Try.ntmps16
  go_wp2
  go_loopw [5] (fun i wr => ∃ k : Nat, k ≤ es.length ∧ i = .int .i64 k ∧ Below w.heap.size w wr) (fun i _ => es.length - (intOf i).toNat)
  case atStart => exact ⟨0, Nat.zero_le _, rfl, Below.refl _ _⟩
  case round =>
    obtain ⟨k, hk, rfl, hB⟩ := hrel
    by_cases hlt : k < es.length
    · obtain ⟨b, off, rfl, _, hb1, hc⟩ := Ents.spot (Rd.below ha hB (Nat.le_refl _) (by decide)) (by omega)
      obtain ⟨b', off', rfl, _, hb2, hc'⟩ := Ents.spot (Rd.below hb hB (Nat.le_refl _) (by decide)) (by omega)
      obtain ⟨s1, s2, s3⟩ := hc k hlt
      obtain ⟨r1, r2, r3⟩ := hc' k hlt
      obtain ⟨en, hen⟩ : ∃ en, en = es.getD k e0 := ⟨_, rfl⟩
      rw [← hen] at s1 s2 s3 r1 r2 r3
      clear hc hc' hen ha hb
      have hk0 : (0 : Int) ≤ (k : Int) := by omega
      have hk1 : (k : Int) < (es.length : Int) := by omega
      have hsz := hB.size
      go_wp2_with fail
      go_region_held3 (fun w' => w'.cell? ⟨b, off + k * 3, none⟩ = some (.int .i64 en.t) ∧ w'.cell? ⟨b, off + k * 3 + 1, none⟩ = some (.int .i64 en.u) ∧ w'.cell? ⟨b, off + k * 3 + 2, none⟩ = some (.bool en.s) ∧
          w'.cell? ⟨b', off' + k * 3, none⟩ = some (.int .i64 en.t) ∧ w'.cell? ⟨b', off' + k * 3 + 1, none⟩ = some (.int .i64 en.u) ∧ w'.cell? ⟨b', off' + k * 3 + 2, none⟩ = some (.bool en.s))
        (first | go_keep | exact ⟨(hB2.cell (p := ⟨b, off + k * 3, none⟩) (by simpa using hb1)).trans s1, (hB2.cell (p := ⟨b, off + k * 3 + 1, none⟩) (by simpa using hb1)).trans s2, (hB2.cell (p := ⟨b, off + k * 3 + 2, none⟩) (by simpa using hb1)).trans s3, (hB2.cell (p := ⟨b', off' + k * 3, none⟩) (by simpa using hb2)).trans r1, (hB2.cell (p := ⟨b', off' + k * 3 + 1, none⟩) (by simpa using hb2)).trans r2, (hB2.cell (p := ⟨b', off' + k * 3 + 2, none⟩) (by simpa using hb2)).trans r3⟩)
        ((go_at_call 33; refine (eqEntry_same _ en.t en.u en.s).mono ?_; rintro e' w2 ⟨rfl, hB2⟩))
      go_wp2
      go_roundw
      case rel => exact ⟨k + 1, by omega, by go_num, (Below.drew hB).trans (hB2.mono (by simpa using hsz))⟩
      case measure => simp [intOf]; omega
    · go_wp2
      go_ret
      exact ⟨rfl, hB⟩

set_option maxHeartbeats 1000000 in
theorem equalEntries_same (w : World) (va vb : Value) (es : List Ent) (ha : Ents w 0 va es) (hb : Ents w 0 vb es) :
    Calls Try.prog 19 #[va, vb] w fun e' w' => e' = .returned (.bool true) ∧ Below w.heap.size w w' := by
  obtain ⟨ao, cap, rfl, hcap, hm⟩ := ha.form
  obtain ⟨ao', cap', rfl, hcap', hm'⟩ := hb.form
  go_enter Try.func19, Try.ntmps19
  go_wp2
  go_loopw [5] (fun i wr => ∃ k : Nat, k ≤ es.length ∧ i = .int .i64 k ∧ Below w.heap.size w wr) (fun i _ => es.length - (intOf i).toNat)
  case atStart => exact ⟨0, Nat.zero_le _, rfl, Below.refl _ _⟩
  case round =>
    obtain ⟨k, hk, rfl, hB⟩ := hrel
    by_cases hlt : k < es.length
    · obtain ⟨b, off, rfl, _, hb1, hc⟩ := Ents.spot (Rd.below ha hB (Nat.le_refl _) (by decide)) (by omega)
      obtain ⟨b', off', rfl, _, hb2, hc'⟩ := Ents.spot (Rd.below hb hB (Nat.le_refl _) (by decide)) (by omega)
      obtain ⟨s1, s2, s3⟩ := hc k hlt
      obtain ⟨r1, r2, r3⟩ := hc' k hlt
      obtain ⟨en, hen⟩ : ∃ en, en = es.getD k e0 := ⟨_, rfl⟩
      rw [← hen] at s1 s2 s3 r1 r2 r3
      obtain ⟨et, eu, es'⟩ := en
      clear hc hc' hen ha hb
      have hk0 : (0 : Int) ≤ (k : Int) := by omega
      have hk1 : (k : Int) < (es.length : Int) := by omega
      have hsz := hB.size
      go_wp2_with fail
      go_quiet (fail)
      go_wp2
      go_roundw
      case rel => exact ⟨k + 1, by omega, by go_num, below_drewN hB _⟩
      case measure => simp [intOf]; omega
    · go_wp2
      go_ret
      exact ⟨rfl, hB⟩

/-- What markEntryS leaves. -/
def markE (k i : Nat) : List Value := [.int .i64 ((k : Int) + 3 * (i : Int)), .int .i64 ((k : Int) + 3 * (i : Int) + 1), .bool (((k : Int) + 3 * (i : Int) + 1 + 1) % 3 == 0)]
def marksE (k n : Nat) : List Value := (List.range n).flatMap (markE k)
theorem markE_len (k i : Nat) : (markE k i).length = 3 := rfl
theorem marksE_len (k n : Nat) : (marksE k n).length = n * 3 := by unfold marksE; rw [flat_len (markE_len k)]; simp
theorem marksE_get {k n i j : Nat} (hi : i < n) (hj : j < 3) : (marksE k n)[i * 3 + j]? = (markE k i)[j]? := by
  unfold marksE; rw [flat_get (markE_len k) _ i j hj]; simp [hi]
theorem mset3 {cs : List Value} {n k i : Nat} (hl : cs.length = n * 3) (hi : i < n) (h : ∀ j, j < i * 3 → cs[j]? = (marksE k n)[j]?) :
    ∀ j, j < (i + 1) * 3 → (((cs.set (i * 3) (.int .i64 ((k : Int) + 3 * (i : Int)))).set (i * 3 + 1) (.int .i64 ((k : Int) + 3 * (i : Int) + 1))).set (i * 3 + 2) (.bool (((k : Int) + 3 * (i : Int) + 1 + 1) % 3 == 0)))[j]? = (marksE k n)[j]? := by
  intro j hj
  by_cases h1 : j < i * 3
  · rw [List.getElem?_set_ne (by omega), List.getElem?_set_ne (by omega), List.getElem?_set_ne (by omega)]; exact h j h1
  · obtain ⟨q, hq, rfl⟩ : ∃ q, q < 3 ∧ j = i * 3 + q := ⟨j - i * 3, by rw [Nat.add_mul] at hj; omega, by omega⟩
    rw [marksE_get hi hq]
    match q, hq with
    | 0, _ => simp only [Nat.add_zero]; rw [List.getElem?_set_ne (by omega), List.getElem?_set_ne (by omega), List.getElem?_set_self (by omega)]; rfl
    | 1, _ => rw [List.getElem?_set_ne (by omega), List.getElem?_set_self (by simp; omega)]; rfl
    | 2, _ => rw [List.getElem?_set_self (by simp; omega)]; rfl

set_option maxHeartbeats 1000000 in
theorem markEntryS_any (w : World) (lo : Nat) (v : Value) (n k : Nat) (cs : List Value) (hv : Own w lo 34 3 v n cs) (hk : k + 3 * n ≤ 1000000000000) :
    Calls Try.prog 22 #[v, .int .i64 k] w fun e w' => e = .returned (.int .i64 ((k : Int) + 3 * n)) ∧ Own w' lo 34 3 v n (marksE k n) ∧ w.grownBy w' (wblk v) := by
  obtain ⟨ao, cap, rfl, hcap, hm⟩ := hv.form
  go_enter Try.func22, Try.ntmps22
  go_wp2
  go_loopw [1, 5] (fun kk i wo => ∃ j : Nat, ∃ cs, j ≤ n ∧ i = .int .i64 j ∧ kk = .int .i64 ((k : Int) + 3 * j) ∧ Own wo lo 34 3 (.slice ao n cap) n cs ∧ (∀ i, i < j * 3 → cs[i]? = (marksE k n)[i]?) ∧ w.grownBy wo (wblk (.slice ao n cap)))
    (fun _ i _ => n - (intOf i).toNat)
  case atStart => exact ⟨0, cs, Nat.zero_le _, rfl, by simp, hv, fun i hi => by omega, grownBy_refl _ _⟩
  case round =>
    clear hv
    obtain ⟨j, cs, hj, rfl, rfl, hO, hcs, hG⟩ := hrel
    have hlen := hO.len
    by_cases hlt : j < n
    · obtain ⟨g, rfl, _, hg2, hcell, hfr, hset⟩ := hO.parts (by omega)
      have hd1 := hcell (j * 3) (by omega)
      have hd2 := hcell (j * 3 + 1) (by omega)
      have hd3 := hcell (j * 3 + 2) (by omega)
      have hf1 := hfr (j * 3)
      have hf2 := hfr (j * 3 + 1)
      have hf3 := hfr (j * 3 + 2)
      have HS3 := Lib.hid (mset3 (k := k) hlen hlt hcs)
      have g1 := hO.store (by omega) (j * 3) (.int .i64 ((k : Int) + 3 * (j : Int)))
      have g2 := g1.1.store (by omega) (j * 3 + 1) (.int .i64 ((k : Int) + 3 * (j : Int) + 1))
      have g3 := g2.1.store (by omega) (j * 3 + 2) (.bool (((k : Int) + 3 * (j : Int) + 1 + 1) % 3 == 0))
      have G3 := Lib.hid (And.intro g3.1 (And.intro g1.2 (And.intro g2.2 g3.2)))
      have HO := Lib.hid hO
      clear hcell hfr hset hcs hO g1 g2 g3
      go_wp2
      go_roundw
      case rel => exact ⟨j + 1, _, by omega, by go_num, by go_num, G3.out.1, HS3.out, grownBy_trans hG (grownBy_trans (grownBy_trans G3.out.2.1 G3.out.2.2.1 (fun x hx => .inl hx)) G3.out.2.2.2 (fun x hx => .inl hx)) (fun x hx => .inl (by cases hx; simp [wblk]; omega))⟩
      case measure => simp [intOf]; omega
    · go_wp2
      go_ret
      obtain rfl : j = n := by omega
      refine ⟨rfl, ?_, hG⟩
      rw [← list_eq_of (cs := cs) (ds := marksE k j) (n := j * 3) (by omega) (marksE_len k j) (fun i hi => hcs i (by omega))]
      exact hO

set_option maxHeartbeats 1000000 in
theorem heldEntryS_any (w : World) (lo : Nat) (v : Value) (n k : Nat) (hv : Rd w lo v 3 n (marksE k n)) (hk : k + 3 * n ≤ 1000000000000) :
    Calls Try.prog 23 #[v, .int .i64 k] w fun e w' => e = .returned (.int .i64 ((k : Int) + 3 * n)) ∧ w = w' := by
  obtain ⟨ao, cap, rfl, hcap, hm⟩ := hv.form
  have HV := Lib.hid hv
  clear hv
  go_enter Try.func23, Try.ntmps23
  go_wp2
  go_loop [1, 5] (fun kk i => ∃ j : Nat, j ≤ n ∧ i = .int .i64 j ∧ kk = .int .i64 ((k : Int) + 3 * j)) (fun _ i => n - (intOf i).toNat)
  case atStart => exact ⟨0, Nat.zero_le _, rfl, by simp⟩
  case round =>
    obtain ⟨j, hj, rfl, rfl⟩ := hrel
    by_cases hlt : j < n
    · obtain ⟨h1, ao', cap', h2, _, _, _, h6⟩ := HV.out
      cases h2
      obtain ⟨b, off, rfl, hb, hc⟩ := h6 (by omega)
      have key : ∀ q, q < 3 → w.cell? ⟨b, off + (j * 3 + q), none⟩ = (markE k j)[q]? := fun q hq => by
        have hl : j * 3 + q < (marksE k n).length := by rw [h1]; omega
        rw [hc _ hl, ← List.getElem?_eq_getElem hl, marksE_get hlt hq]
      have s1 : w.cell? ⟨b, off + j * 3, none⟩ = some (.int .i64 ((k : Int) + 3 * (j : Int))) := key 0 (by omega)
      have s2 : w.cell? ⟨b, off + j * 3 + 1, none⟩ = some (.int .i64 ((k : Int) + 3 * (j : Int) + 1)) := key 1 (by omega)
      have s3 : w.cell? ⟨b, off + j * 3 + 2, none⟩ = some (.bool (((k : Int) + 3 * (j : Int) + 1 + 1) % 3 == 0)) := key 2 (by omega)
      have t1 : (!((k : Int) + 3 * (j : Int) == (k : Int) + 3 * (j : Int))) = false := by simp
      have t2 : (!((k : Int) + 3 * (j : Int) + 1 == (k : Int) + 3 * (j : Int) + 1)) = false := by simp
      have t3 : (!((((k : Int) + 3 * (j : Int) + 1 + 1) % 3 == 0) == (((k : Int) + 3 * (j : Int) + 1 + 1) % 3 == 0))) = false := by simp
      clear hc key h6 h1
      go_wp2
      go_round
      case rel => exact ⟨j + 1, by omega, by go_num, by go_num⟩
      case measure => simp [intOf]; omega
    · go_wp2
      go_ret
      obtain rfl : j = n := by omega
      exact ⟨rfl, rfl⟩
end Go.Proofs.Ytfdnkfhldgcnmaa
