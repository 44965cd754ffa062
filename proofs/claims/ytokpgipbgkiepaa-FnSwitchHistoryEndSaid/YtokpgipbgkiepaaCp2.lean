/- Sizes and comparisons of plans by the statements' functions: szPlan, eqPlan and what they call. -/
import Derived.Test.YtokpgipbgkiepaaCp1
import Derived.Deep.RegionHeld3
namespace Go.Proofs.Ytokpgipbgkiepaa
open Go.RowKit
set_option linter.unusedVariables false
set_option linter.unusedSimpArgs false

/-- What is left of a budget: less than nothing is -1. -/
def SzOk (left : Int) (r : Int) (Q : Prop) : Prop := r ≤ left ∧ (r < 0 → r = -1) ∧ (0 ≤ r → Q)
def SzRet (w : World) (left : Int) (Q : Prop) (e : Ending) (w' : World) : Prop := ∃ r : Int, e = .returned (.int .i64 r) ∧ SzOk left r Q ∧ Below w.heap.size w w'

theorem szIntS_any (w : World) (lo : Nat) (v : Value) (xs : List Int) (left : Int) (hv : Ints w lo v xs) (hl : 0 ≤ left ∧ left ≤ 1048576) :
    Calls Try.prog 107 #[v, .int .i64 left] w fun e w' => ∃ r : Int, e = .returned (.int .i64 r) ∧ SzOk left r ((xs.length : Int) ≤ left) ∧ w = w' := by
  obtain ⟨ao, cap, rfl, hcap, hm⟩ := hv.form
  obtain ⟨hl0, hl1⟩ := hl
  clear hv
  have wr1 : IntKind.i64.wrap (left - (xs.length : Int)) = left - (xs.length : Int) := IntWalk.i64_in _ (by omega)
  by_cases h : left - (xs.length : Int) < 0
  · have d : decide (left - (xs.length : Int) < 0) = true := decide_eq_true h
    go_enter Try.func107, Try.ntmps107
    go_wp2
    go_ret
    exact ⟨_, rfl, ⟨by omega, fun _ => rfl, fun h => by omega⟩, rfl⟩
  · have d : decide (left - (xs.length : Int) < 0) = false := decide_eq_false h
    go_enter Try.func107, Try.ntmps107
    go_wp2
    go_ret
    exact ⟨_, rfl, ⟨by omega, fun h => by omega, fun h => by omega⟩, rfl⟩

set_option maxHeartbeats 2000000 in
theorem szIntSS_any (w : World) (lo : Nat) (v : Value) (t : List (List Int)) (left : Int) (hv : IntSS w lo v t) (hl : 0 ≤ left ∧ left ≤ 1048576) :
    Calls Try.prog 66 #[v, .int .i64 left] w (SzRet w left ((t.length : Int) ≤ left ∧ ∀ i, i < t.length → ((t.getD i []).length : Int) ≤ left)) := by
  obtain ⟨ao, cap, rfl, hcap, hm⟩ := hv.form
  obtain ⟨hl0, hl1⟩ := hl
  have HV := Lib.hid hv
  clear hv
  have wr1 : IntKind.i64.wrap (left - (t.length : Int)) = left - (t.length : Int) := IntWalk.i64_in _ (by omega)
  by_cases h : left - (t.length : Int) < 0
  · have d : decide (left - (t.length : Int) < 0) = true := decide_eq_true h
    go_enter Try.func66, Try.ntmps66
    go_wp2
    go_ret
    exact ⟨_, rfl, ⟨by omega, fun _ => rfl, fun h => by omega⟩, Below.refl _ _⟩
  · have d : decide (left - (t.length : Int) < 0) = false := decide_eq_false h
    go_enter Try.func66, Try.ntmps66
    go_wp2_with fail
    go_loop [1, 5] (fun lv i => ∃ k : Nat, ∃ r : Int, k ≤ t.length ∧ i = .int .i64 k ∧ lv = .int .i64 r ∧ (0 ≤ r ∧ r ≤ left) ∧ Hid (∀ j, j < k → ((t.getD j []).length : Int) ≤ left)) (fun _ i => t.length - (intOf i).toNat)
    case atStart => exact ⟨0, _, Nat.zero_le _, rfl, rfl, ⟨by omega, by omega⟩, fun j hj => absurd hj (Nat.not_lt_zero _)⟩
    case round =>
      obtain ⟨k, r, hk, rfl, rfl, ⟨hr0, hr1⟩, HA⟩ := hrel
      by_cases hlt : k < t.length
      · obtain ⟨b, off, rfl, _, hb, hc⟩ := HV.out.spot (by omega)
        obtain ⟨ai, ci, h1, hI⟩ := hc k hlt
        obtain ⟨row, hrow⟩ : ∃ row, row = t.getD k [] := ⟨_, rfl⟩
        rw [← hrow] at h1 hI
        have HROW := Lib.hid hrow
        clear hc hrow
        go_wp2_with fail
        go_at_call 107
        refine (szIntS_any _ _ _ row r hI ⟨hr0, by omega⟩).mono ?_; rintro e w2 ⟨r2, rfl, ⟨hq1, hq2, hq3⟩, rfl⟩
        by_cases h2 : r2 < 0
        · have d2 : decide (r2 < 0) = true := decide_eq_true h2
          clear hq2 hq3
          go_wp2_with fail
          go_ret
          exact ⟨_, rfl, ⟨by omega, fun _ => rfl, fun h => by omega⟩, Below.refl _ _⟩
        · have d2 : decide (r2 < 0) = false := decide_eq_false h2
          have HQ := Lib.hid (hq3 (by omega))
          clear hq2 hq3
          go_wp2_with fail
          go_round
          case rel => exact ⟨k + 1, r2, by omega, by go_num, rfl, ⟨by omega, by omega⟩, fun j hj => by
            by_cases e : j = k
            · subst e; rw [← HROW.out]; have := HQ.out; omega
            · exact HA.out j (by omega)⟩
          case measure => simp [intOf]; omega
      · go_wp2_with fail
        go_ret
        exact ⟨_, rfl, ⟨by omega, fun h => by omega, fun _ => ⟨by omega, fun i hi => HA.out i (by omega)⟩⟩, Below.refl _ _⟩

set_option maxHeartbeats 2000000 in
theorem szStage_any (w : World) (lo : Nat) (v : Value) (row : List Int) (gr left : Int) (hv : Ints w lo v row) (hl : 0 ≤ left ∧ left ≤ 1048576) :
    Calls Try.prog 108 #[.agg #[v, .int .i64 gr], .int .i64 left] w (SzRet w left ((row.length : Int) ≤ left)) := by
  obtain ⟨ao, cap, rfl, hcap, hm⟩ := hv.form
  have HV : Hid (∀ o, Ints (w.alloc o) lo (.slice ao row.length cap) row) := fun o => Rd.below hv ((Below.refl _ _).alloc (Nat.le_refl _) _) (Nat.le_refl _) (by decide)
  clear hv
  go_enter Try.func108, Try.ntmps108
  go_wp2_with fail
  go_at_call 107
  refine (szIntS_any _ _ _ row left (HV.out _) hl).mono ?_; rintro e w2 ⟨r2, rfl, ⟨hq1, hq2, hq3⟩, rfl⟩
  have hB : Below w.heap.size w (w.alloc (.cells #[.slice ao row.length cap, .int .i64 gr] 114)) := (Below.refl _ _).alloc (Nat.le_refl _) _
  by_cases h2 : r2 < 0
  · have d2 : decide (r2 < 0) = true := decide_eq_true h2
    clear hq2 hq3
    go_wp2_with fail
    go_ret
    exact ⟨_, rfl, ⟨by omega, fun _ => rfl, fun h => by omega⟩, hB⟩
  · have d2 : decide (r2 < 0) = false := decide_eq_false h2
    have HQ := Lib.hid (hq3 (by omega))
    clear hq2 hq3
    go_wp2_with fail
    go_ret
    exact ⟨_, rfl, ⟨hq1, fun h => by omega, fun _ => HQ.out⟩, hB⟩

set_option maxHeartbeats 2000000 in
theorem szStageS_any (w : World) (lo : Nat) (v : Value) (ss : List Stg) (left : Int) (hv : StgS w lo v ss) (hl : 0 ≤ left ∧ left ≤ 1048576) :
    Calls Try.prog 67 #[v, .int .i64 left] w (SzRet w left ((ss.length : Int) ≤ left ∧ ∀ i, i < ss.length → ((ss.getD i s0).ph.length : Int) ≤ left)) := by
  obtain ⟨ao, cap, rfl, hcap, hm⟩ := hv.form
  obtain ⟨hl0, hl1⟩ := hl
  have HV := Lib.hid hv
  clear hv
  have wr1 : IntKind.i64.wrap (left - (ss.length : Int)) = left - (ss.length : Int) := IntWalk.i64_in _ (by omega)
  by_cases h : left - (ss.length : Int) < 0
  · have d : decide (left - (ss.length : Int) < 0) = true := decide_eq_true h
    go_enter Try.func67, Try.ntmps67
    go_wp2
    go_ret
    exact ⟨_, rfl, ⟨by omega, fun _ => rfl, fun h => by omega⟩, Below.refl _ _⟩
  · have d : decide (left - (ss.length : Int) < 0) = false := decide_eq_false h
    go_enter Try.func67, Try.ntmps67
    go_wp2_with fail
    go_loopw [1, 5] (fun lv i wo => ∃ k : Nat, ∃ r : Int, k ≤ ss.length ∧ i = .int .i64 k ∧ lv = .int .i64 r ∧ (0 ≤ r ∧ r ≤ left) ∧ Hid (∀ j, j < k → ((ss.getD j s0).ph.length : Int) ≤ left) ∧ Below w.heap.size w wo) (fun _ i _ => ss.length - (intOf i).toNat)
    case atStart => exact ⟨0, _, Nat.zero_le _, rfl, rfl, ⟨by omega, by omega⟩, fun j hj => absurd hj (Nat.not_lt_zero _), Below.refl _ _⟩
    case round =>
      obtain ⟨k, r, hk, rfl, rfl, ⟨hr0, hr1⟩, HA, hB⟩ := hrel
      by_cases hlt : k < ss.length
      · obtain ⟨b, off, rfl, _, hb, hc⟩ := HV.out.spot (by omega)
        obtain ⟨g1w, ai, ci, h1w, hIw⟩ := hc k hlt
        have h1 := (hB.cell (p := ⟨b, off + k * 2, none⟩) hb).trans h1w
        have h2 := (hB.cell (p := ⟨b, off + k * 2 + 1, none⟩) hb).trans g1w
        have hI : Ints wr lo _ _ := Rd.below hIw hB (Nat.le_refl _) (by decide)
        obtain ⟨row, hrow⟩ : ∃ row, row = (ss.getD k s0).ph := ⟨_, rfl⟩
        obtain ⟨gr, hgr⟩ : ∃ gr, gr = (ss.getD k s0).gr := ⟨_, rfl⟩
        rw [← hrow] at h1 hI
        rw [← hgr] at h2
        have HROW := Lib.hid hrow
        have HB := Lib.hid hB
        clear hc hrow hgr h1w g1w hIw hB
        go_wp2_with fail
        go_at_call 108
        refine (szStage_any _ _ _ row gr r hI ⟨hr0, by omega⟩).mono ?_; rintro e w2 ⟨r2, rfl, ⟨hq1, hq2, hq3⟩, hB2⟩
        have hB3 := HB.out.trans (hB2.mono HB.out.size)
        by_cases h2 : r2 < 0
        · have d2 : decide (r2 < 0) = true := decide_eq_true h2
          clear hq2 hq3
          go_wp2_with fail
          go_ret
          exact ⟨_, rfl, ⟨by omega, fun _ => rfl, fun h => by omega⟩, hB3⟩
        · have d2 : decide (r2 < 0) = false := decide_eq_false h2
          have HQ := Lib.hid (hq3 (by omega))
          clear hq2 hq3
          go_wp2_with fail
          go_roundw
          case rel => exact ⟨k + 1, r2, by omega, by go_num, rfl, ⟨by omega, by omega⟩, fun j hj => by
            by_cases e : j = k
            · subst e; rw [← HROW.out]; have := HQ.out; omega
            · exact HA.out j (by omega), hB3⟩
          case measure => simp [intOf]; omega
      · go_wp2_with fail
        go_ret
        exact ⟨_, rfl, ⟨by omega, fun h => by omega, fun _ => ⟨by omega, fun i hi => HA.out i (by omega)⟩⟩, hB⟩

set_option maxHeartbeats 2000000 in
theorem szPlan_any (w : World) (lo : Nat) (v : Value) (p : Pln) (left : Int) (hv : PlanR w lo v p) (hl : 0 ≤ left ∧ left ≤ 1048576) :
    Calls Try.prog 20 #[v, .int .i64 left] w (SzRet w left (PlSm p)) := by
  obtain ⟨vc, vs, rfl, hc, hs⟩ := hv
  obtain ⟨ao, cap, rfl, hcap, hm⟩ := hs.form
  obtain ⟨aoc, capc, rfl, hcapc, hmc⟩ := hc.form
  have hB : Below w.heap.size w (w.alloc (.cells #[.slice aoc p.cl.length capc, .slice ao p.st.length cap] 40)) := (Below.refl _ _).alloc (Nat.le_refl _) _
  have hX := Own.made w [.slice aoc p.cl.length capc, .slice ao p.st.length cap] 40 w.heap.size 2 1 rfl (Nat.le_refl _) (by decide)
  obtain ⟨w1, hw1⟩ : ∃ w1, w1 = w.alloc (.cells #[.slice aoc p.cl.length capc, .slice ao p.st.length cap] 40) := ⟨_, rfl⟩
  rw [show (w.alloc (Obj.cells [Value.slice aoc p.cl.length capc, Value.slice ao p.st.length cap].toArray 40)) = w1 from hw1.symm] at hX
  rw [← hw1] at hB
  have HB := Lib.hid hB
  have HX := Lib.hid hX
  have HC := Lib.hid (hc.below hB (Nat.le_refl _))
  have HS := Lib.hid hs
  have HW := Lib.hid hw1
  clear hB hX hc hs hw1
  go_enter Try.func20, Try.ntmps20
  go_wp2_with fail
  rw [← HW.out]
  refine (szIntSS_any _ lo _ p.cl left HC.out hl).mono ?_; rintro e w2 ⟨r2, rfl, ⟨hq1, hq2, hq3⟩, hB2⟩
  have hT2 := HB.out.trans (hB2.mono HB.out.size)
  obtain ⟨_, e1, _, _, p1, _, _⟩ := (HX.out.below hB2 (Nat.le_refl _)).parts (by omega)
  cases e1
  have q11 := p1 1 (by simp)
  simp only [List.getElem_cons_zero, List.getElem_cons_succ] at q11
  clear p1
  by_cases h2 : r2 < 0
  · have d2 : decide (r2 < 0) = true := decide_eq_true h2
    clear hq2 hq3
    go_wp2_with fail
    go_ret
    exact ⟨_, rfl, ⟨by omega, fun _ => rfl, fun h => by omega⟩, hT2⟩
  · have d2 : decide (r2 < 0) = false := decide_eq_false h2
    have HQ := Lib.hid (hq3 (by omega))
    clear hq2 hq3
    go_wp2_with fail
    refine (szStageS_any _ lo _ p.st r2 (HS.out.below hT2 (Nat.le_refl _)) (by omega)).mono ?_; rintro e w3 ⟨r3, rfl, ⟨hu1, hu2, hu3⟩, hB3⟩
    have hT3 := hT2.trans (hB3.mono hT2.size)
    by_cases h3 : r3 < 0
    · have d3 : decide (r3 < 0) = true := decide_eq_true h3
      clear hu2 hu3
      go_wp2_with fail
      go_ret
      exact ⟨_, rfl, ⟨by omega, fun _ => rfl, fun h => by omega⟩, hT3⟩
    · have d3 : decide (r3 < 0) = false := decide_eq_false h3
      have HU := Lib.hid (hu3 (by omega))
      clear hu2 hu3
      go_wp2_with fail
      go_ret
      exact ⟨_, rfl, ⟨by omega, fun h => by omega, fun _ => ⟨by have := HQ.out.1; omega, fun i hi => by have := HQ.out.2 i hi; omega, by have := HU.out.1; omega, fun i hi => by have := HU.out.2 i hi; omega⟩⟩, hT3⟩

/-! Comparisons of equal things. -/
set_option maxHeartbeats 2000000 in
theorem eqIntSS_same (w : World) (va vb : Value) (t : List (List Int)) (ha : IntSS w 0 va t) (hb : IntSS w 0 vb t) :
    Calls Try.prog 47 #[va, vb] w fun e w' => e = .returned (.bool true) ∧ Below w.heap.size w w' := by
  obtain ⟨ao, cap, rfl, hcap, hm⟩ := ha.form
  obtain ⟨ao', cap', rfl, hcap', hm'⟩ := hb.form
  have HA := Lib.hid ha
  have HB := Lib.hid hb
  clear ha hb
  go_enter Try.func47, Try.ntmps47
  go_wp2
  go_loopw [5] (fun i wo => ∃ k : Nat, k ≤ t.length ∧ i = .int .i64 k ∧ Below w.heap.size w wo) (fun i _ => t.length - (intOf i).toNat)
  case atStart => exact ⟨0, Nat.zero_le _, rfl, Below.refl _ _⟩
  case round =>
    obtain ⟨k, hk, rfl, hB⟩ := hrel
    by_cases hlt : k < t.length
    · obtain ⟨b, off, rfl, _, hb, hc⟩ := (HA.out.below hB (Nat.le_refl _)).spot (by omega)
      obtain ⟨b', off', rfl, _, hb', hc'⟩ := (HB.out.below hB (Nat.le_refl _)).spot (by omega)
      obtain ⟨a1, c1, h1, hI1⟩ := hc k hlt
      obtain ⟨a2, c2, h2, hI2⟩ := hc' k hlt
      obtain ⟨row, hrow⟩ : ∃ row, row = t.getD k [] := ⟨_, rfl⟩
      rw [← hrow] at h1 hI1 h2 hI2
      have hk0 : (0 : Int) ≤ (k : Int) := by omega
      have hk1 : (k : Int) < (t.length : Int) := by omega
      have hsz := hB.size
      have HI1 := Lib.hid hI1
      have HI2 := Lib.hid hI2
      have keepA : ∀ W, Below wr.heap.size wr W → (W.cell? ⟨b, off + k, none⟩ = some (.slice a1 row.length c1) ∧ W.cell? ⟨b', off' + k, none⟩ = some (.slice a2 row.length c2)) := fun W h => ⟨(h.cell (p := ⟨b, off + k, none⟩) hb).trans h1, (h.cell (p := ⟨b', off' + k, none⟩) hb').trans h2⟩
      have KA := Lib.hid keepA
      clear hc hc' hrow hI1 hI2 keepA
      go_wp2_with fail
      go_region_held3 (fun w' => w'.cell? ⟨b, off + k, none⟩ = some (.slice a1 row.length c1) ∧ w'.cell? ⟨b', off' + k, none⟩ = some (.slice a2 row.length c2))
        (first | exact KA.out _ hB5 | exact KA.out _ (Below.refl _ _) | go_keep | assumption)
        ((go_at_call 24; refine (eqIntS_same _ _ _ row (Rd.below HI1.out (Below.drew (Below.refl wr.heap.size wr)) (Nat.le_refl _) (by decide)) (Rd.below HI2.out (Below.drew (Below.refl wr.heap.size wr)) (Nat.le_refl _) (by decide))).mono ?_; rintro e w5 ⟨rfl, hB5'⟩; have hB5 : Below wr.heap.size wr w5 := (Below.drew (Below.refl wr.heap.size wr)).trans hB5'))
      go_wp2
      go_roundw
      case rel => exact ⟨k + 1, by omega, by go_num, hB.trans (hB5.mono hB.size)⟩
      case measure => simp [intOf]; omega
    · go_wp2
      go_ret
      exact ⟨rfl, hB⟩

set_option maxHeartbeats 2000000 in
theorem eqStage_same (w : World) (va vb : Value) (gr : Int) (row : List Int) (ha : Ints w 0 va row) (hb : Ints w 0 vb row) :
    Calls Try.prog 110 #[.agg #[va, .int .i64 gr], .agg #[vb, .int .i64 gr]] w fun e w' => e = .returned (.bool true) ∧ Below w.heap.size w w' := by
  obtain ⟨ao, cap, rfl, hcap, hm⟩ := ha.form
  obtain ⟨ao', cap', rfl, hcap', hm'⟩ := hb.form
  have hX1 := Own.made w [.slice ao row.length cap, .int .i64 gr] 34 w.heap.size 2 1 rfl (Nat.le_refl _) (by decide)
  obtain ⟨w1, hw1⟩ : ∃ x, x = w.alloc (.cells #[.slice ao row.length cap, .int .i64 gr] 34) := ⟨_, rfl⟩
  have hB1 : Below w.heap.size w w1 := by rw [hw1]; exact (Below.refl _ _).alloc (Nat.le_refl _) _
  have hs1 : w1.heap.size = w.heap.size + 1 := by rw [hw1]; simp
  have hX2 := Own.made w1 [.slice ao' row.length cap', .int .i64 gr] 34 w.heap.size 2 1 rfl (by omega) (by decide)
  obtain ⟨w2, hw2⟩ : ∃ x, x = w1.alloc (.cells #[.slice ao' row.length cap', .int .i64 gr] 34) := ⟨_, rfl⟩
  have hB2 : Below w1.heap.size w1 w2 := by rw [hw2]; exact (Below.refl _ _).alloc (Nat.le_refl _) _
  have hT2 := hB1.trans (hB2.mono hB1.size)
  rw [show (w.alloc (Obj.cells [Value.slice ao row.length cap, Value.int IntKind.i64 gr].toArray 34)) = w1 from hw1.symm] at hX1
  rw [show (w1.alloc (Obj.cells [Value.slice ao' row.length cap', Value.int IntKind.i64 gr].toArray 34)) = w2 from hw2.symm, hs1] at hX2
  have HY1 := Lib.hid (hX1.below hB2 (Nat.le_refl _))
  have HY2 := Lib.hid hX2
  have HA := Lib.hid (Rd.below ha hT2 (Nat.le_refl _) (by decide) : Ints w2 0 _ row)
  have HB := Lib.hid (Rd.below hb hT2 (Nat.le_refl _) (by decide) : Ints w2 0 _ row)
  have HT2 := Lib.hid hT2
  have HW1 := Lib.hid hw1
  have HW2 := Lib.hid hw2
  have hne : (gr != gr) = false := by simp
  clear hX1 hX2 hB1 hB2 hs1 hT2 ha hb hw1 hw2
  go_enter Try.func110, Try.ntmps110
  go_wp2_with fail
  rw [← HW1.out, ← HW2.out]
  clear HW1 HW2
  refine (eqIntS_same _ _ _ row HA.out HB.out).mono ?_; rintro e w3 ⟨rfl, hB3⟩
  obtain ⟨_, e1, _, _, p1, _, _⟩ := (HY1.out.below hB3 (Nat.le_refl _)).parts (by omega)
  cases e1
  obtain ⟨_, e1, _, _, p2, _, _⟩ := (HY2.out.below hB3 (Nat.le_refl _)).parts (by omega)
  cases e1
  have q11 := p1 1 (by simp)
  have q21 := p2 1 (by simp)
  simp only [List.getElem_cons_zero, List.getElem_cons_succ] at q11 q21
  clear p1 p2
  go_wp2_with fail
  go_ret
  exact ⟨rfl, HT2.out.trans (hB3.mono HT2.out.size)⟩

set_option maxHeartbeats 2000000 in
theorem eqStageS_same (w : World) (va vb : Value) (t : List Stg) (ha : StgS w 0 va t) (hb : StgS w 0 vb t) :
    Calls Try.prog 70 #[va, vb] w fun e w' => e = .returned (.bool true) ∧ Below w.heap.size w w' := by
  obtain ⟨ao, cap, rfl, hcap, hm⟩ := ha.form
  obtain ⟨ao', cap', rfl, hcap', hm'⟩ := hb.form
  have HA := Lib.hid ha
  have HB := Lib.hid hb
  clear ha hb
  go_enter Try.func70, Try.ntmps70
  go_wp2
  go_loopw [5] (fun i wo => ∃ k : Nat, k ≤ t.length ∧ i = .int .i64 k ∧ Below w.heap.size w wo) (fun i _ => t.length - (intOf i).toNat)
  case atStart => exact ⟨0, Nat.zero_le _, rfl, Below.refl _ _⟩
  case round =>
    obtain ⟨k, hk, rfl, hB⟩ := hrel
    by_cases hlt : k < t.length
    · obtain ⟨b, off, rfl, _, hb, hc⟩ := (HA.out.below hB (Nat.le_refl _)).spot (by omega)
      obtain ⟨b', off', rfl, _, hb', hc'⟩ := (HB.out.below hB (Nat.le_refl _)).spot (by omega)
      obtain ⟨g1, a1, c1, h1, hI1⟩ := hc k hlt
      obtain ⟨g2, a2, c2, h2, hI2⟩ := hc' k hlt
      obtain ⟨row, hrow⟩ : ∃ row, row = (t.getD k s0).ph := ⟨_, rfl⟩
      obtain ⟨gr, hgr⟩ : ∃ gr, gr = (t.getD k s0).gr := ⟨_, rfl⟩
      rw [← hrow] at h1 hI1 h2 hI2
      rw [← hgr] at g1 g2
      have hk0 : (0 : Int) ≤ (k : Int) := by omega
      have hk1 : (k : Int) < (t.length : Int) := by omega
      have hsz := hB.size
      have HI1 := Lib.hid hI1
      have HI2 := Lib.hid hI2
      have keepA : ∀ W, Below wr.heap.size wr W → (W.cell? ⟨b, off + k * 2, none⟩ = some (.slice a1 row.length c1) ∧ W.cell? ⟨b, off + k * 2 + 1, none⟩ = some (.int .i64 gr) ∧ W.cell? ⟨b', off' + k * 2, none⟩ = some (.slice a2 row.length c2) ∧ W.cell? ⟨b', off' + k * 2 + 1, none⟩ = some (.int .i64 gr)) := fun W h => ⟨(h.cell (p := ⟨b, off + k * 2, none⟩) hb).trans h1, (h.cell (p := ⟨b, off + k * 2 + 1, none⟩) hb).trans g1, (h.cell (p := ⟨b', off' + k * 2, none⟩) hb').trans h2, (h.cell (p := ⟨b', off' + k * 2 + 1, none⟩) hb').trans g2⟩
      have KA := Lib.hid keepA
      clear hc hc' hrow hgr hI1 hI2 keepA
      go_wp2_with fail
      go_region_held3 (fun w' => w'.cell? ⟨b, off + k * 2, none⟩ = some (.slice a1 row.length c1) ∧ w'.cell? ⟨b, off + k * 2 + 1, none⟩ = some (.int .i64 gr) ∧ w'.cell? ⟨b', off' + k * 2, none⟩ = some (.slice a2 row.length c2) ∧ w'.cell? ⟨b', off' + k * 2 + 1, none⟩ = some (.int .i64 gr))
        (first | exact KA.out _ hB5 | exact KA.out _ (Below.refl _ _) | go_keep | assumption)
        ((go_at_call 110; refine (eqStage_same _ _ _ gr row (Rd.below HI1.out (Below.drew (Below.refl wr.heap.size wr)) (Nat.le_refl _) (by decide)) (Rd.below HI2.out (Below.drew (Below.refl wr.heap.size wr)) (Nat.le_refl _) (by decide))).mono ?_; rintro e w5 ⟨rfl, hB5'⟩; have hB5 : Below wr.heap.size wr w5 := (Below.drew (Below.refl wr.heap.size wr)).trans hB5'))
      go_wp2
      go_roundw
      case rel => exact ⟨k + 1, by omega, by go_num, hB.trans (hB5.mono hB.size)⟩
      case measure => simp [intOf]; omega
    · go_wp2
      go_ret
      exact ⟨rfl, hB⟩

set_option maxHeartbeats 2000000 in
theorem eqPlan_same (w : World) (va vb : Value) (p : Pln) (ha : PlanR w 0 va p) (hb : PlanR w 0 vb p) :
    Calls Try.prog 23 #[va, vb] w fun e w' => e = .returned (.bool true) ∧ Below w.heap.size w w' := by
  obtain ⟨vc, vs, rfl, hc, hs⟩ := ha
  obtain ⟨vc', vs', rfl, hc', hs'⟩ := hb
  obtain ⟨a1, c1, rfl, _, _⟩ := hc.form
  obtain ⟨a2, c2, rfl, _, _⟩ := hs.form
  obtain ⟨a3, c3, rfl, _, _⟩ := hc'.form
  obtain ⟨a4, c4, rfl, _, _⟩ := hs'.form
  have hX1 := Own.made w [.slice a1 p.cl.length c1, .slice a2 p.st.length c2] 26 w.heap.size 2 1 rfl (Nat.le_refl _) (by decide)
  obtain ⟨w1, hw1⟩ : ∃ x, x = w.alloc (.cells #[.slice a1 p.cl.length c1, .slice a2 p.st.length c2] 26) := ⟨_, rfl⟩
  have hB1 : Below w.heap.size w w1 := by rw [hw1]; exact (Below.refl _ _).alloc (Nat.le_refl _) _
  have hs1 : w1.heap.size = w.heap.size + 1 := by rw [hw1]; simp
  have hX2 := Own.made w1 [.slice a3 p.cl.length c3, .slice a4 p.st.length c4] 26 w.heap.size 2 1 rfl (by omega) (by decide)
  obtain ⟨w2, hw2⟩ : ∃ x, x = w1.alloc (.cells #[.slice a3 p.cl.length c3, .slice a4 p.st.length c4] 26) := ⟨_, rfl⟩
  have hB2 : Below w1.heap.size w1 w2 := by rw [hw2]; exact (Below.refl _ _).alloc (Nat.le_refl _) _
  have hT2 := hB1.trans (hB2.mono hB1.size)
  rw [show (w.alloc (Obj.cells [Value.slice a1 p.cl.length c1, Value.slice a2 p.st.length c2].toArray 26)) = w1 from hw1.symm] at hX1
  rw [show (w1.alloc (Obj.cells [Value.slice a3 p.cl.length c3, Value.slice a4 p.st.length c4].toArray 26)) = w2 from hw2.symm, hs1] at hX2
  have HY1 := Lib.hid (hX1.below hB2 (Nat.le_refl _))
  have HY2 := Lib.hid hX2
  have HC := Lib.hid (hc.below hT2 (Nat.le_refl _))
  have HC' := Lib.hid (hc'.below hT2 (Nat.le_refl _))
  have HS := Lib.hid (hs.below hT2 (Nat.le_refl _))
  have HS' := Lib.hid (hs'.below hT2 (Nat.le_refl _))
  have HT2 := Lib.hid hT2
  have HW1 := Lib.hid hw1
  have HW2 := Lib.hid hw2
  clear hX1 hX2 hB1 hB2 hs1 hT2 hc hc' hs hs' hw1 hw2
  go_enter Try.func23, Try.ntmps23
  go_wp2_with fail
  rw [← HW1.out, ← HW2.out]
  clear HW1 HW2
  refine (eqIntSS_same _ _ _ p.cl (HC.out.mono (Nat.zero_le _)) (HC'.out.mono (Nat.zero_le _))).mono ?_; rintro e w3 ⟨rfl, hB3⟩
  obtain ⟨_, e1, _, _, p1, _, _⟩ := (HY1.out.below hB3 (Nat.le_refl _)).parts (by omega)
  cases e1
  obtain ⟨_, e1, _, _, p2, _, _⟩ := (HY2.out.below hB3 (Nat.le_refl _)).parts (by omega)
  cases e1
  have q11 := p1 1 (by simp)
  have q21 := p2 1 (by simp)
  simp only [List.getElem_cons_zero, List.getElem_cons_succ] at q11 q21
  clear p1 p2
  go_wp2_with fail
  refine (eqStageS_same _ _ _ p.st (HS.out.below hB3 (Nat.le_refl _)) (HS'.out.below hB3 (Nat.le_refl _))).mono ?_; rintro e w4 ⟨rfl, hB4⟩
  have hT3 := HT2.out.trans (hB3.mono HT2.out.size)
  go_wp2_with fail
  go_ret
  exact ⟨rfl, hT3.trans (hB4.mono hT3.size)⟩
end Go.Proofs.Ytokpgipbgkiepaa
