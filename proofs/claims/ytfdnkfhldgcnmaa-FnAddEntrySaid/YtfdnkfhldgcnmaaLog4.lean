/- ValidLog, of the program and of the reference. -/
import Derived.Test.YtfdnkfhldgcnmaaLog2
import Derived.Test.YtfdnkfhldgcnmaaSmall
namespace Go.Proofs.Ytfdnkfhldgcnmaa
open Go.RowKit

theorem inRange_dec (a b c : Int) (v : Bool) (w : World) (h : (decide (b ≤ a) && decide (a ≤ c)) = v) :
    Calls Try.prog 39 #[.int .i64 a, .int .i64 b, .int .i64 c] w fun e w' => e = .returned (.bool v) ∧ w = w' := by
  rw [← h]; exact inRange_any a b c w
theorem within_dec (a b c : Int) (v : Bool) (w : World) (h : (decide (b ≤ a) && decide (a ≤ c)) = v) :
    Calls Try.prog 32 #[.int .i64 a, .int .i64 b, .int .i64 c] w fun e w' => e = .returned (.bool v) ∧ w = w' := by
  rw [← h]; exact within_any a b c w

set_option maxHeartbeats 2000000 in
theorem impl_validLog (w : World) (lo : Nat) (v : Value) (es : List Ent) (hv : Ents w lo v es) :
    Calls Try.prog 15 #[v] w fun e w' => e = .returned (.bool (validL es)) ∧ Below w.heap.size w w' := by
  obtain ⟨ao, cap, rfl, hcap, hm⟩ := hv.form
  by_cases h30 : es.length ≤ 30
  · go_enter Try.func15, Try.ntmps15
    go_wp2
    go_loopw [3, 11] (fun b i wo => ∃ k : Nat, k ≤ es.length ∧ i = .int .i64 k ∧ b = .int .i64 (prevT es k) ∧ (∀ j, j < k → okE es j = true) ∧ Below w.heap.size w wo) (fun _ i _ => es.length - (intOf i).toNat)
    case atStart => exact ⟨0, Nat.zero_le _, rfl, rfl, fun j hj => by omega, Below.refl _ _⟩
    case round =>
      obtain ⟨k, hk, rfl, rfl, hall, hB⟩ := hrel
      have hsz := hB.size
      by_cases hlt : k < es.length
      · have heq := okI_eq (es := es) (i := k) hall
        have HA := Lib.hid hall
        obtain ⟨b, off, rfl, _, hb1, hc⟩ := Ents.spot (Rd.below hv hB (Nat.le_refl _) (by decide)) (by omega)
        obtain ⟨s1, s2, s3⟩ := hc k hlt
        have hp : Hid (prevT es (k + 1) = (es.getD k e0).t) := by unfold Hid prevT; rw [if_neg (by omega)]; rfl
        have hiff := okI_iff (es := es) (i := k)
        obtain ⟨t, ht⟩ : ∃ t, t = (es.getD k e0).t := ⟨_, rfl⟩
        obtain ⟨u, hu⟩ : ∃ u, u = (es.getD k e0).u := ⟨_, rfl⟩
        obtain ⟨ss, hs⟩ : ∃ ss, ss = (es.getD k e0).s := ⟨_, rfl⟩
        obtain ⟨p, hpp⟩ : ∃ p, p = prevT es k := ⟨_, rfl⟩
        rw [← ht] at s1 hp
        rw [← hu] at s2
        rw [← hs] at s3
        rw [← hpp, ← ht, ← hu] at hiff
        rw [← hpp]
        clear hc hv hall ht hu hs hpp
        by_cases h1 : p ≤ t ∧ t ≤ 9999
        · have d1 : (decide (p ≤ t) && decide (t ≤ 9999)) = true := by simp; omega
          by_cases h2 : 0 ≤ u ∧ u ≤ 7
          · have d2 : (decide (0 ≤ u) && decide (u ≤ 7)) = true := by simp; omega
            have hok : okE es k = true := by rw [← heq]; exact hiff.2 ⟨h1.1, h1.2, h2.1, h2.2⟩
            have HOK := Lib.hid hok
            clear hok hiff heq h1 h2
            go_wp2_with (first
              | (go_at_call 32; with_reducible refine (within_dec t p 9999 true _ d1).mono ?_; rintro e' w2 ⟨rfl, rfl⟩)
              | (go_at_call 32; with_reducible refine (within_dec u 0 7 true _ d2).mono ?_; rintro e' w2 ⟨rfl, rfl⟩))
            go_roundw
            case rel => exact ⟨k + 1, by omega, by go_num, by rw [hp.out], fun j hj => by
              by_cases h : j = k
              · subst h; exact HOK.out
              · exact HA.out j (by omega), hB.alloc (by omega) _⟩
            case measure => simp [intOf]; omega
          · have d2 : (decide (0 ≤ u) && decide (u ≤ 7)) = false := by simp; omega
            have hno : validL es = false := validL_no hlt (by rw [← heq, Bool.eq_false_iff]; intro h; have := hiff.1 h; omega)
            have HNO := Lib.hid hno
            clear hno hiff heq h1 h2
            go_wp2_with (first
              | (go_at_call 32; with_reducible refine (within_dec t p 9999 true _ d1).mono ?_; rintro e' w2 ⟨rfl, rfl⟩)
              | (go_at_call 32; with_reducible refine (within_dec u 0 7 false _ d2).mono ?_; rintro e' w2 ⟨rfl, rfl⟩))
            go_ret
            exact ⟨by rw [HNO.out]; rfl, hB.alloc (by omega) _⟩
        · have d1 : (decide (p ≤ t) && decide (t ≤ 9999)) = false := by simp; omega
          have hno : validL es = false := validL_no hlt (by rw [← heq, Bool.eq_false_iff]; intro h; have := hiff.1 h; omega)
          have HNO := Lib.hid hno
          clear hno hiff heq h1
          go_wp2_with (go_at_call 32; with_reducible refine (within_dec t p 9999 false _ d1).mono ?_; rintro e' w2 ⟨rfl, rfl⟩)
          go_ret
          exact ⟨by rw [HNO.out]; rfl, hB.alloc (by omega) _⟩
      · have hyes : Hid (validL es = true) := validL_iff.2 ⟨h30, fun i hi => hall i (by omega)⟩
        clear hall
        go_wp2
        go_ret
        exact ⟨by rw [hyes.out]; rfl, hB⟩
  · have hno : Hid (validL es = false) := by unfold Hid; rw [Bool.eq_false_iff]; intro h; exact h30 (validL_iff.1 h).1
    go_enter Try.func15, Try.ntmps15
    go_wp2
    go_ret
    exact ⟨by rw [hno.out]; rfl, Below.refl _ _⟩

set_option maxHeartbeats 2000000 in
theorem spec_validLog0 (w : World) (lo : Nat) (v : Value) (es : List Ent) (hv : Ents w lo v es) :
    Calls Try.prog 31 #[v] w fun e w' => e = .returned (.bool (validL es)) ∧ Below w.heap.size w w' := by
  obtain ⟨ao, cap, rfl, hcap, hm⟩ := hv.form
  go_enter Try.func31, Try.ntmps31
  go_wp2
  go_loopw [3] (fun i wo => ∃ k : Nat, k ≤ es.length ∧ i = .int .i64 k ∧ (∀ j, j < k → okE es j = true) ∧ Below w.heap.size w wo) (fun i _ => es.length - (intOf i).toNat)
  case atStart => exact ⟨0, Nat.zero_le _, rfl, fun j hj => by omega, Below.refl _ _⟩
  case round =>
    obtain ⟨k, hk, rfl, hall, hB⟩ := hrel
    have hsz := hB.size
    by_cases hlt : k < es.length
    · have HA := Lib.hid hall
      obtain ⟨b, off, rfl, _, hb1, hc⟩ := Ents.spot (Rd.below hv hB (Nat.le_refl _) (by decide)) (by omega)
      obtain ⟨s1, s2, s3⟩ := hc k hlt
      have hiff := okE_iff (es := es) (i := k)
      have q1 : 0 < k → wr.cell? ⟨b, off + (k - 1) * 3, none⟩ = some (.int .i64 (es.getD (k - 1) e0).t) := fun h => (hc (k - 1) (by omega)).1
      obtain ⟨t, ht⟩ : ∃ t, t = (es.getD k e0).t := ⟨_, rfl⟩
      obtain ⟨u, hu⟩ : ∃ u, u = (es.getD k e0).u := ⟨_, rfl⟩
      obtain ⟨q, hq⟩ : ∃ q, q = (es.getD (k - 1) e0).t := ⟨_, rfl⟩
      rw [← ht] at s1
      rw [← hu] at s2
      rw [← hq] at q1
      rw [← ht, ← hu, ← hq] at hiff
      clear hc hv hall ht hu hq s3
      have hk0 : (0 : Int) ≤ (k : Int) := by omega
      have hk1 : (k : Int) < (es.length : Int) := by omega
      by_cases h1 : 0 ≤ t ∧ t ≤ 9999
      · have d1 : (decide (0 ≤ t) && decide (t ≤ 9999)) = true := by simp; omega
        by_cases h2 : 0 ≤ u ∧ u ≤ 7
        · have d2 : (decide (0 ≤ u) && decide (u ≤ 7)) = true := by simp; omega
          by_cases h3 : 0 < k
          · have q1 := q1 h3
            have d3 : decide (0 < k) = true := decide_eq_true h3
            have e1 : ((k : Int) - 1).toNat = k - 1 := by omega
            have g1 : 0 ≤ (k : Int) - 1 := by omega
            have g2 : (k : Int) - 1 < es.length := by omega
            have w1' : IntKind.i64.wrap ((k : Int) - 1) = (k : Int) - 1 := IntWalk.i64_in _ (by omega)
            by_cases h4 : t < q
            · have hno : validL es = false := validL_no hlt (by rw [Bool.eq_false_iff]; intro h; have := hiff.1 h; omega)
              have HNO := Lib.hid hno
              clear hno hiff h1 h2
              go_wp2_with fail
              go_quiet ((go_at_call 39; first | (with_reducible exact quiet_eq (inRange_dec t 0 9999 true _ d1)) | (with_reducible exact quiet_eq (inRange_dec u 0 7 true _ d2))))
              go_wp2
              go_ret
              exact ⟨by rw [HNO.out]; rfl, below_drewN hB _⟩
            · have hok : okE es k = true := hiff.2 ⟨h1.1, h1.2, h2.1, h2.2, .inr (by omega)⟩
              have HOK := Lib.hid hok
              clear hok hiff h1 h2
              go_wp2_with fail
              go_quiet ((go_at_call 39; first | (with_reducible exact quiet_eq (inRange_dec t 0 9999 true _ d1)) | (with_reducible exact quiet_eq (inRange_dec u 0 7 true _ d2))))
              go_wp2
              go_roundw
              case rel => exact ⟨k + 1, by omega, by go_num, fun j hj => by
                by_cases h : j = k
                · subst h; exact HOK.out
                · exact HA.out j (by omega), below_drewN hB _⟩
              case measure => simp [intOf]; omega
          · have d3 : decide (0 < k) = false := decide_eq_false h3
            have hok : okE es k = true := hiff.2 ⟨h1.1, h1.2, h2.1, h2.2, .inl (by omega)⟩
            have HOK := Lib.hid hok
            clear hok hiff h1 h2 q1
            go_wp2_with fail
            go_quiet ((go_at_call 39; first | (with_reducible exact quiet_eq (inRange_dec t 0 9999 true _ d1)) | (with_reducible exact quiet_eq (inRange_dec u 0 7 true _ d2))))
            go_wp2
            go_roundw
            case rel => exact ⟨k + 1, by omega, by go_num, fun j hj => by
              by_cases h : j = k
              · subst h; exact HOK.out
              · exact HA.out j (by omega), below_drewN hB _⟩
            case measure => simp [intOf]; omega
        · have d2 : (decide (0 ≤ u) && decide (u ≤ 7)) = false := by simp; omega
          have hno : validL es = false := validL_no hlt (by rw [Bool.eq_false_iff]; intro h; have := hiff.1 h; omega)
          have HNO := Lib.hid hno
          clear hno hiff h1 h2 q1
          go_wp2_with fail
          go_quiet ((go_at_call 39; first | (with_reducible exact quiet_eq (inRange_dec t 0 9999 true _ d1)) | (with_reducible exact quiet_eq (inRange_dec u 0 7 false _ d2))))
          go_wp2
          go_ret
          exact ⟨by rw [HNO.out]; rfl, below_drewN hB _⟩
      · have d1 : (decide (0 ≤ t) && decide (t ≤ 9999)) = false := by simp; omega
        have hno : validL es = false := validL_no hlt (by rw [Bool.eq_false_iff]; intro h; have := hiff.1 h; omega)
        have HNO := Lib.hid hno
        clear hno hiff h1 q1
        go_wp2_with fail
        go_quiet ((go_at_call 39; first | (with_reducible exact quiet_eq (inRange_dec t 0 9999 false _ d1))))
        go_wp2
        go_ret
        exact ⟨by rw [HNO.out]; rfl, below_drewN hB _⟩
    · have hyes : Hid (validL es = decide ((es.length : Int) ≤ 30)) := by
        unfold Hid
        rw [Bool.eq_iff_iff, validL_iff, decide_eq_true_eq]
        exact ⟨fun h => by omega, fun h => ⟨by omega, fun i hi => hall i (by omega)⟩⟩
      clear hall
      go_wp2
      go_ret
      exact ⟨by rw [hyes.out]; rfl, hB⟩

theorem spec_validLog (w : World) (lo : Nat) (v : Value) (es : List Ent) (hv : Ents w lo v es) :
    Calls Try.prog 13 #[v] w fun e w' => e = .returned (.bool (validL es)) ∧ Below w.heap.size w w' := by
  go_enter Try.func13, Try.ntmps13
  go_wp2_with fail
  go_at_call 31
  refine (spec_validLog0 _ _ _ es hv).mono ?_; rintro e' w2 ⟨rfl, hB⟩
  go_wp2
  go_ret
  exact ⟨rfl, hB⟩
end Go.Proofs.Ytfdnkfhldgcnmaa
