/- equalLists, equalStages, equalPlan. -/
import Derived.Test.YtokpgipbgkiepaaCp2
import Derived.Test.YtokpgipbgkiepaaEqI
namespace Go.Proofs.Ytokpgipbgkiepaa
open Go.RowKit
set_option linter.unusedVariables false
set_option linter.unusedSimpArgs false

set_option maxHeartbeats 2000000 in
theorem equalLists_same (w : World) (va vb : Value) (t : List (List Int)) (ha : IntSS w 0 va t) (hb : IntSS w 0 vb t) :
    Calls Try.prog 44 #[va, vb] w fun e w' => e = .returned (.bool true) ∧ Below w.heap.size w w' := by
  obtain ⟨ao, cap, rfl, hcap, hm⟩ := ha.form
  obtain ⟨ao', cap', rfl, hcap', hm'⟩ := hb.form
  have HA := Lib.hid ha
  have HB := Lib.hid hb
  clear ha hb
  go_enter Try.func44, Try.ntmps44
  go_wp2
  go_loopw [5] (fun i wo => ∃ k : Nat, k ≤ t.length ∧ i = .int .i64 k ∧ Below w.heap.size w wo) (fun i _ => t.length - (intOf i).toNat)
  case atStart => exact ⟨0, Nat.zero_le _, rfl, Below.refl _ _⟩
  case round =>
    obtain ⟨k, hk, rfl, hB⟩ := hrel
    by_cases hlt : k < t.length
    · obtain ⟨b, off, rfl, _, hb, hc⟩ := (HA.out.below hB (Nat.le_refl _)).spot (by omega)
      obtain ⟨b', off', rfl, _, hb', hc'⟩ := (HB.out.below hB (Nat.le_refl _)).spot (by omega)
      obtain ⟨a1, c1, h1, hI1⟩ := hc k hlt
      obtain ⟨a2, c2, h2, hI2⟩ := hc' k hlt
      obtain ⟨row, hrow⟩ : ∃ row, row = t.getD k [] := ⟨_, rfl⟩
      rw [← hrow] at h1 hI1 h2 hI2
      have hk0 : (0 : Int) ≤ (k : Int) := by omega
      have hk1 : (k : Int) < (t.length : Int) := by omega
      have hsz := hB.size
      have HI1 := Lib.hid hI1
      have HI2 := Lib.hid hI2
      have keepA : ∀ W, Below wr.heap.size wr W → (W.cell? ⟨b, off + k, none⟩ = some (.slice a1 row.length c1) ∧ W.cell? ⟨b', off' + k, none⟩ = some (.slice a2 row.length c2)) := fun W h => ⟨(h.cell (p := ⟨b, off + k, none⟩) hb).trans h1, (h.cell (p := ⟨b', off' + k, none⟩) hb').trans h2⟩
      have KA := Lib.hid keepA
      clear hc hc' hrow hI1 hI2 keepA
      go_wp2_with fail
      go_region_held3 (fun w' => w'.cell? ⟨b, off + k, none⟩ = some (.slice a1 row.length c1) ∧ w'.cell? ⟨b', off' + k, none⟩ = some (.slice a2 row.length c2))
        (first | exact KA.out _ hB5 | exact KA.out _ (Below.refl _ _) | go_keep | assumption)
        ((go_at_call 18; refine (equalInts_same _ _ _ row (Rd.below HI1.out (Below.drew (Below.refl wr.heap.size wr)) (Nat.le_refl _) (by decide)) (Rd.below HI2.out (Below.drew (Below.refl wr.heap.size wr)) (Nat.le_refl _) (by decide))).mono ?_; rintro e w5 ⟨rfl, hB5'⟩; have hB5 : Below wr.heap.size wr w5 := (Below.drew (Below.refl wr.heap.size wr)).trans hB5'))
      go_wp2
      go_roundw
      case rel => exact ⟨k + 1, by omega, by go_num, hB.trans (hB5.mono hB.size)⟩
      case measure => simp [intOf]; omega
    · go_wp2
      go_ret
      exact ⟨rfl, hB⟩

set_option maxHeartbeats 2000000 in
theorem equalStages_same (w : World) (va vb : Value) (t : List Stg) (ha : StgS w 0 va t) (hb : StgS w 0 vb t) :
    Calls Try.prog 61 #[va, vb] w fun e w' => e = .returned (.bool true) ∧ Below w.heap.size w w' := by
  obtain ⟨ao, cap, rfl, hcap, hm⟩ := ha.form
  obtain ⟨ao', cap', rfl, hcap', hm'⟩ := hb.form
  have HA := Lib.hid ha
  have HB := Lib.hid hb
  clear ha hb
  go_enter Try.func61, Try.ntmps61
  go_wp2
  go_loopw [5] (fun i wo => ∃ k : Nat, k ≤ t.length ∧ i = .int .i64 k ∧ Below w.heap.size w wo) (fun i _ => t.length - (intOf i).toNat)
  case atStart => exact ⟨0, Nat.zero_le _, rfl, Below.refl _ _⟩
  case round =>
    obtain ⟨k, hk, rfl, hB⟩ := hrel
    by_cases hlt : k < t.length
    · obtain ⟨b, off, rfl, _, hb, hc⟩ := (HA.out.below hB (Nat.le_refl _)).spot (by omega)
      obtain ⟨b', off', rfl, _, hb', hc'⟩ := (HB.out.below hB (Nat.le_refl _)).spot (by omega)
      obtain ⟨g1, a1, c1, h1, hI1⟩ := hc k hlt
      obtain ⟨g2, a2, c2, h2, hI2⟩ := hc' k hlt
      obtain ⟨row, hrow⟩ : ∃ row, row = (t.getD k s0).ph := ⟨_, rfl⟩
      obtain ⟨gr, hgr⟩ : ∃ gr, gr = (t.getD k s0).gr := ⟨_, rfl⟩
      rw [← hrow] at h1 hI1 h2 hI2
      rw [← hgr] at g1 g2
      have hk0 : (0 : Int) ≤ (k : Int) := by omega
      have hk1 : (k : Int) < (t.length : Int) := by omega
      have hsz := hB.size
      have HI1 := Lib.hid hI1
      have HI2 := Lib.hid hI2
      have keepA : ∀ W, Below wr.heap.size wr W → (W.cell? ⟨b, off + k * 2, none⟩ = some (.slice a1 row.length c1) ∧ W.cell? ⟨b, off + k * 2 + 1, none⟩ = some (.int .i64 gr) ∧ W.cell? ⟨b', off' + k * 2, none⟩ = some (.slice a2 row.length c2) ∧ W.cell? ⟨b', off' + k * 2 + 1, none⟩ = some (.int .i64 gr)) := fun W h => ⟨(h.cell (p := ⟨b, off + k * 2, none⟩) hb).trans h1, (h.cell (p := ⟨b, off + k * 2 + 1, none⟩) hb).trans g1, (h.cell (p := ⟨b', off' + k * 2, none⟩) hb').trans h2, (h.cell (p := ⟨b', off' + k * 2 + 1, none⟩) hb').trans g2⟩
      have KA := Lib.hid keepA
      have hne : (gr != gr) = false := by simp
      clear hc hc' hrow hgr hI1 hI2 keepA
      go_wp2_with fail
      go_region_held3 (fun w' => w'.cell? ⟨b, off + k * 2, none⟩ = some (.slice a1 row.length c1) ∧ w'.cell? ⟨b, off + k * 2 + 1, none⟩ = some (.int .i64 gr) ∧ w'.cell? ⟨b', off' + k * 2, none⟩ = some (.slice a2 row.length c2) ∧ w'.cell? ⟨b', off' + k * 2 + 1, none⟩ = some (.int .i64 gr))
        (first | exact KA.out _ hB5 | exact KA.out _ (Below.refl _ _) | go_keep | assumption)
        ((go_at_call 18; refine (equalInts_same _ _ _ row (Rd.below HI1.out (Below.drew (Below.refl wr.heap.size wr)) (Nat.le_refl _) (by decide)) (Rd.below HI2.out (Below.drew (Below.refl wr.heap.size wr)) (Nat.le_refl _) (by decide))).mono ?_; rintro e w5 ⟨rfl, hB5'⟩; have hB5 : Below wr.heap.size wr w5 := (Below.drew (Below.refl wr.heap.size wr)).trans hB5'))
      go_wp2
      go_roundw
      case rel => exact ⟨k + 1, by omega, by go_num, hB.trans (hB5.mono hB.size)⟩
      case measure => simp [intOf]; omega
    · go_wp2
      go_ret
      exact ⟨rfl, hB⟩

set_option maxHeartbeats 2000000 in
theorem equalPlan_same (w : World) (va vb : Value) (p : Pln) (ha : PlanR w 0 va p) (hb : PlanR w 0 vb p) :
    Calls Try.prog 17 #[va, vb] w fun e w' => e = .returned (.bool true) ∧ Below w.heap.size w w' := by
  obtain ⟨vc, vs, rfl, hc, hs⟩ := ha
  obtain ⟨vc', vs', rfl, hc', hs'⟩ := hb
  obtain ⟨a1, c1, rfl, _, _⟩ := hc.form
  obtain ⟨a2, c2, rfl, _, _⟩ := hs.form
  obtain ⟨a3, c3, rfl, _, _⟩ := hc'.form
  obtain ⟨a4, c4, rfl, _, _⟩ := hs'.form
  have hX1 := Own.made w [.slice a1 p.cl.length c1, .slice a2 p.st.length c2] 26 w.heap.size 2 1 rfl (Nat.le_refl _) (by decide)
  obtain ⟨w1, hw1⟩ : ∃ x, x = w.alloc (.cells #[.slice a1 p.cl.length c1, .slice a2 p.st.length c2] 26) := ⟨_, rfl⟩
  have hB1 : Below w.heap.size w w1 := by rw [hw1]; exact (Below.refl _ _).alloc (Nat.le_refl _) _
  have hs1 : w1.heap.size = w.heap.size + 1 := by rw [hw1]; simp
  have hX2 := Own.made w1 [.slice a3 p.cl.length c3, .slice a4 p.st.length c4] 26 w.heap.size 2 1 rfl (by omega) (by decide)
  obtain ⟨w2, hw2⟩ : ∃ x, x = w1.alloc (.cells #[.slice a3 p.cl.length c3, .slice a4 p.st.length c4] 26) := ⟨_, rfl⟩
  have hB2 : Below w1.heap.size w1 w2 := by rw [hw2]; exact (Below.refl _ _).alloc (Nat.le_refl _) _
  have hT2 := hB1.trans (hB2.mono hB1.size)
  rw [show (w.alloc (Obj.cells [Value.slice a1 p.cl.length c1, Value.slice a2 p.st.length c2].toArray 26)) = w1 from hw1.symm] at hX1
  rw [show (w1.alloc (Obj.cells [Value.slice a3 p.cl.length c3, Value.slice a4 p.st.length c4].toArray 26)) = w2 from hw2.symm, hs1] at hX2
  have HY1 := Lib.hid (hX1.below hB2 (Nat.le_refl _))
  have HY2 := Lib.hid hX2
  have HC := Lib.hid (hc.below hT2 (Nat.le_refl _))
  have HC' := Lib.hid (hc'.below hT2 (Nat.le_refl _))
  have HS := Lib.hid (hs.below hT2 (Nat.le_refl _))
  have HS' := Lib.hid (hs'.below hT2 (Nat.le_refl _))
  have HT2 := Lib.hid hT2
  have HW1 := Lib.hid hw1
  have HW2 := Lib.hid hw2
  clear hX1 hX2 hB1 hB2 hs1 hT2 hc hc' hs hs' hw1 hw2
  go_enter Try.func17, Try.ntmps17
  go_wp2_with fail
  rw [← HW1.out, ← HW2.out]
  clear HW1 HW2
  refine (equalLists_same _ _ _ p.cl (HC.out.mono (Nat.zero_le _)) (HC'.out.mono (Nat.zero_le _))).mono ?_; rintro e w3 ⟨rfl, hB3⟩
  obtain ⟨_, e1, _, _, p1, _, _⟩ := (HY1.out.below hB3 (Nat.le_refl _)).parts (by omega)
  cases e1
  obtain ⟨_, e1, _, _, p2, _, _⟩ := (HY2.out.below hB3 (Nat.le_refl _)).parts (by omega)
  cases e1
  have q11 := p1 1 (by simp)
  have q21 := p2 1 (by simp)
  simp only [List.getElem_cons_zero, List.getElem_cons_succ] at q11 q21
  clear p1 p2
  go_wp2_with fail
  refine (equalStages_same _ _ _ p.st (HS.out.below hB3 (Nat.le_refl _)) (HS'.out.below hB3 (Nat.le_refl _))).mono ?_; rintro e w4 ⟨rfl, hB4⟩
  have hT3 := HT2.out.trans (hB3.mono HT2.out.size)
  go_wp2_with fail
  go_ret
  exact ⟨rfl, hT3.trans (hB4.mono hT3.size)⟩

end Go.Proofs.Ytokpgipbgkiepaa
