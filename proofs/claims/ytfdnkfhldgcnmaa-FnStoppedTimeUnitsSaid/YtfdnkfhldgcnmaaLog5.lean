/- The stopped time: the program's loop and the model's. -/
import Derived.Test.YtfdnkfhldgcnmaaLog4
import Derived.ProofKit
import Derived.BigQuiet
namespace Go.Proofs.Ytfdnkfhldgcnmaa
open Go.RowKit

theorem drop_ent {es : List Ent} {k : Nat} (h : k < es.length) : es.drop k = es.getD k e0 :: es.drop (k + 1) := by
  rw [List.drop_eq_getElem_cons h]; simp [h]
theorem stoppedT_no {es : List Ent} {U T : Int} (h : ¬ (validL es = true ∧ 0 ≤ U ∧ U ≤ 7 ∧ 0 ≤ T ∧ T ≤ 9999)) : stoppedT es U T = -1 := by
  unfold stoppedT; rw [if_neg h]
theorem stoppedT_yes {es : List Ent} {U T : Int} (h1 : validL es = true) (h2 : 0 ≤ U ∧ U ≤ 7) (h3 : 0 ≤ T ∧ T ≤ 9999) : stoppedT es U T = F U T (-1) es := by
  unfold stoppedT; rw [if_pos ⟨h1, h2.1, h2.2, h3.1, h3.2⟩]

def SI (es : List Ent) (U T : Int) (k : Nat) (tot since : Int) (st : Bool) : Prop :=
  tot + H U T st since (es.drop k) = F U T (-1) es ∧ (-10000 * (k : Int) ≤ tot ∧ tot ≤ 10000 * (k : Int)) ∧ 0 ≤ since ∧ since ≤ 9999
theorem SI.start {es : List Ent} {U T : Int} (h : validL es = true) : SI es U T 0 0 0 false :=
  ⟨by rw [List.drop_zero, H_eq (validL_sorted h) (by decide) false 0 (fun h => by cases h)]; simp, by simp, by decide, by decide⟩
theorem SI.skip {es : List Ent} {U T : Int} {k : Nat} {tot since : Int} {st : Bool} (h : SI es U T k tot since st) (hk : k < es.length) (hs : (es.getD k e0).u ≠ U ∨ T < (es.getD k e0).t) : SI es U T (k + 1) tot since st := by
  obtain ⟨h1, h2, h3, h4⟩ := h
  rw [drop_ent hk] at h1
  simp only [H] at h1
  rw [if_pos hs] at h1
  exact ⟨h1, by push_cast; omega, h3, h4⟩
theorem SI.take {es : List Ent} {U T : Int} {k : Nat} {tot since : Int} {st : Bool} (h : SI es U T k tot since st) (hk : k < es.length) (hu : (es.getD k e0).u = U) (ht : ¬ T < (es.getD k e0).t)
    (hb : 0 ≤ (es.getD k e0).t ∧ (es.getD k e0).t ≤ 9999) : SI es U T (k + 1) (tot + (if st then (es.getD k e0).t - since else 0)) (es.getD k e0).t (es.getD k e0).s := by
  obtain ⟨h1, h2, h3, h4⟩ := h
  rw [drop_ent hk] at h1
  simp only [H] at h1
  rw [if_neg (by rintro (h | h); exact h hu; exact ht h)] at h1
  refine ⟨by rw [← h1]; omega, ?_, hb.1, hb.2⟩
  push_cast; split <;> omega
theorem SI.last {es : List Ent} {U T : Int} {k : Nat} {tot since : Int} {st : Bool} (h : SI es U T k tot since st) (hk : ¬ k < es.length) : tot + (if st then T - since else 0) = F U T (-1) es := by
  obtain ⟨h1, h2, h3, h4⟩ := h
  rw [List.drop_eq_nil_of_le (by omega)] at h1
  exact h1

set_option maxHeartbeats 4000000 in
theorem impl_stoppedTime (w : World) (lo : Nat) (v : Value) (es : List Ent) (U T : Int) (hv : Ents w lo v es) :
    Calls Try.prog 29 #[v, .int .i64 U, .int .i64 T] w fun e w' => e = .returned (.int .i64 (stoppedT es U T)) ∧ Below w.heap.size w w' := by
  obtain ⟨ao, cap, rfl, hcap, hm⟩ := hv.form
  by_cases hva : validL es = true
  · by_cases hU : 0 ≤ U ∧ U ≤ 7
    · have dU : (decide (0 ≤ U) && decide (U ≤ 7)) = true := by simp; omega
      by_cases hT : 0 ≤ T ∧ T ≤ 9999
      · have dT : (decide (0 ≤ T) && decide (T ≤ 9999)) = true := by simp; omega
        have hF := Lib.hid (stoppedT_yes hva hU hT)
        have h30 := (validL_iff.1 hva).1
        have hok : ∀ i, i < es.length → 0 ≤ (es.getD i e0).t ∧ (es.getD i e0).t ≤ 9999 := fun i hi => ⟨(okE_iff.1 ((validL_iff.1 hva).2 i hi)).1, (okE_iff.1 ((validL_iff.1 hva).2 i hi)).2.1⟩
        have hS := Lib.hid (SI.start (U := U) (T := T) hva)
        have HOK := Lib.hid hok
        clear hok
        go_enter Try.func29, Try.ntmps29
        go_wp2_with fail
        go_at_call 15
        refine (impl_validLog _ _ _ es hv).mono ?_; rintro e' w1 ⟨rfl, hB1⟩
        rw [hva]
        have hv1 : Ents w1 lo _ es := Rd.below hv hB1 (Nat.le_refl _) (by decide)
        go_wp2_with (first
          | (go_at_call 32; with_reducible refine (within_dec U 0 7 true _ dU).mono ?_; rintro e' w2 ⟨rfl, rfl⟩)
          | (go_at_call 32; with_reducible refine (within_dec T 0 9999 true _ dT).mono ?_; rintro e' w2 ⟨rfl, rfl⟩))
        go_loopw [7, 8, 9, 27] (fun a b c i wo => ∃ k : Nat, ∃ tot since : Int, ∃ st : Bool, k ≤ es.length ∧ i = .int .i64 k ∧ a = .int .i64 tot ∧ b = .int .i64 since ∧ c = .bool st ∧ SI es U T k tot since st ∧ Below w.heap.size w wo) (fun _ _ _ i _ => es.length - (intOf i).toNat)
        case atStart => exact ⟨0, 0, 0, false, Nat.zero_le _, rfl, rfl, rfl, rfl, hS.out, hB1⟩
        case round =>
          obtain ⟨k, tot, since, st, hk, rfl, rfl, rfl, rfl, hSI, hB⟩ := hrel
          have hsz := hB.size
          have b2 := hSI.2.1
          have b3 := hSI.2.2
          by_cases hlt : k < es.length
          · obtain ⟨b, off, rfl, _, hb1, hc⟩ := Ents.spot (Rd.below hv hB (Nat.le_refl _) (by decide)) (by omega)
            obtain ⟨s1, s2, s3⟩ := hc k hlt
            have hb := HOK.out k hlt
            have n1 := Lib.hid (fun h => hSI.skip hlt h)
            have n2 := Lib.hid (fun hu ht => hSI.take hlt hu ht hb)
            obtain ⟨t, ht⟩ : ∃ t, t = (es.getD k e0).t := ⟨_, rfl⟩
            obtain ⟨u, hu⟩ : ∃ u, u = (es.getD k e0).u := ⟨_, rfl⟩
            obtain ⟨ss, hs⟩ : ∃ ss, ss = (es.getD k e0).s := ⟨_, rfl⟩
            rw [← ht] at s1 hb n1 n2
            rw [← hu] at s2 n1 n2
            rw [← hs] at s3 n2
            clear hc hv hv1 ht hu hs hSI
            by_cases hu : u = U
            · have d1 : (!(u == U)) = false := by simp [hu]
              by_cases hl : T < t
              · have d2 : decide (T < t) = true := decide_eq_true hl
                have n3 := Lib.hid (n1.out (.inr hl))
                clear n1 n2
                go_wp2
                go_roundw
                case rel => exact ⟨k + 1, tot, since, st, by omega, by go_num, rfl, rfl, rfl, n3.out, hB.alloc (by omega) _⟩
                case measure => simp [intOf]; omega
              · have d2 : decide (T < t) = false := decide_eq_false hl
                have n3 := Lib.hid (n2.out hu hl)
                clear n1 n2
                cases st with
                | false =>
                  go_wp2_with fail
                  go_quiet (fail)
                  go_wp2
                  go_roundw
                  case rel => exact ⟨k + 1, tot, t, ss, by omega, by go_num, rfl, rfl, rfl, by have := n3.out; simpa using this, below_drewN (hB.alloc (by omega) _) _⟩
                  case measure => simp [intOf]; omega
                | true =>
                  go_wp2_with fail
                  go_quiet (fail)
                  go_wp2
                  go_roundw
                  case rel => exact ⟨k + 1, tot + (t - since), t, ss, by omega, by go_num, by go_num, rfl, rfl, by have := n3.out; simpa using this, below_drewN (hB.alloc (by omega) _) _⟩
                  case measure => simp [intOf]; omega
            · have d1 : (!(u == U)) = true := by simp [hu]
              have n3 := Lib.hid (n1.out (.inl hu))
              clear n1 n2
              go_wp2
              go_roundw
              case rel => exact ⟨k + 1, tot, since, st, by omega, by go_num, rfl, rfl, rfl, n3.out, hB.alloc (by omega) _⟩
              case measure => simp [intOf]; omega
          · have hl := Lib.hid (hSI.last hlt)
            clear hSI
            cases st with
            | false =>
              go_wp2
              go_ret
              exact ⟨by rw [hF.out, ← hl.out]; simp, hB⟩
            | true =>
              go_wp2
              go_ret
              refine ⟨?_, hB⟩
              rw [hF.out, ← hl.out]
              go_num
      · have hF := Lib.hid (stoppedT_no (es := es) (U := U) (T := T) (by omega))
        have dT : (decide (0 ≤ T) && decide (T ≤ 9999)) = false := by simp; omega
        go_enter Try.func29, Try.ntmps29
        go_wp2_with fail
        go_at_call 15
        refine (impl_validLog _ _ _ es hv).mono ?_; rintro e' w1 ⟨rfl, hB1⟩
        rw [hva]
        go_wp2_with (first
          | (go_at_call 32; with_reducible refine (within_dec U 0 7 true _ dU).mono ?_; rintro e' w2 ⟨rfl, rfl⟩)
          | (go_at_call 32; with_reducible refine (within_dec T 0 9999 false _ dT).mono ?_; rintro e' w2 ⟨rfl, rfl⟩))
        go_ret
        exact ⟨by rw [hF.out]; rfl, hB1⟩
    · have hF := Lib.hid (stoppedT_no (es := es) (U := U) (T := T) (by omega))
      have dU : (decide (0 ≤ U) && decide (U ≤ 7)) = false := by simp; omega
      go_enter Try.func29, Try.ntmps29
      go_wp2_with fail
      go_at_call 15
      refine (impl_validLog _ _ _ es hv).mono ?_; rintro e' w1 ⟨rfl, hB1⟩
      rw [hva]
      go_wp2_with (first
          | (go_at_call 32; with_reducible refine (within_dec U 0 7 false _ dU).mono ?_; rintro e' w2 ⟨rfl, rfl⟩))
      go_ret
      exact ⟨by rw [hF.out]; rfl, hB1⟩
  · have hF := Lib.hid (stoppedT_no (es := es) (U := U) (T := T) (fun h => hva h.1))
    have hva : validL es = false := by simpa using hva
    go_enter Try.func29, Try.ntmps29
    go_wp2_with fail
    go_at_call 15
    refine (impl_validLog _ _ _ es hv).mono ?_; rintro e' w1 ⟨rfl, hB1⟩
    rw [hva]
    go_wp2
    go_ret
    exact ⟨by rw [hF.out]; rfl, hB1⟩

end Go.Proofs.Ytfdnkfhldgcnmaa
