/- The stopped time: the model's. -/
import Derived.Test.YtfdnkfhldgcnmaaLog5
import Derived.Test.YtfdnkfhldgcnmaaLog3
import Derived.ProofKit
namespace Go.Proofs.Ytfdnkfhldgcnmaa
open Go.RowKit

def SM (es : List Ent) (U T : Int) (k : Nat) (n since : Int) : Prop :=
  n + F U T since (es.drop k) = F U T (-1) es ∧ (-10000 * (k : Int) ≤ n ∧ n ≤ 10000 * (k : Int)) ∧ -1 ≤ since ∧ since ≤ 9999
theorem SM.start {es : List Ent} {U T : Int} : SM es U T 0 0 (-1) := ⟨by simp, by simp, by decide, by decide⟩
theorem SM.step {es : List Ent} {U T : Int} {k : Nat} {n since : Int} (h : SM es U T k n since) (hk : k < es.length) (ht : ¬ T < (es.getD k e0).t) (hb : 0 ≤ (es.getD k e0).t ∧ (es.getD k e0).t ≤ 9999) :
    ((es.getD k e0).u ≠ U → SM es U T (k + 1) n since) ∧
    ((es.getD k e0).u = U → 0 ≤ since → (es.getD k e0).s = false → SM es U T (k + 1) (n + (es.getD k e0).t - since) (-1)) ∧
    ((es.getD k e0).u = U → since < 0 → (es.getD k e0).s = true → SM es U T (k + 1) n (es.getD k e0).t) ∧
    ((es.getD k e0).u = U → 0 ≤ since → (es.getD k e0).s = true → SM es U T (k + 1) n since) ∧
    ((es.getD k e0).u = U → since < 0 → (es.getD k e0).s = false → SM es U T (k + 1) n since) := by
  obtain ⟨h1, h2, h3, h4⟩ := h
  rw [drop_ent hk] at h1
  simp only [F] at h1
  rw [if_neg ht] at h1
  refine ⟨fun hu => ?_, fun hu hs hss => ?_, fun hu hs hss => ?_, fun hu hs hss => ?_, fun hu hs hss => ?_⟩
  · rw [if_pos hu] at h1
    exact ⟨h1, by push_cast; omega, h3, h4⟩
  · rw [if_neg (by simpa using hu), if_pos ⟨hs, hss⟩] at h1
    exact ⟨by rw [← h1]; omega, by push_cast; omega, by omega, by omega⟩
  · rw [if_neg (by simpa using hu), if_neg (by rw [hss]; rintro ⟨_, h⟩; cases h), if_pos ⟨hs, hss⟩] at h1
    exact ⟨h1, by push_cast; omega, by omega, by omega⟩
  · rw [if_neg (by simpa using hu), if_neg (by rw [hss]; rintro ⟨_, h⟩; cases h), if_neg (by omega)] at h1
    exact ⟨h1, by push_cast; omega, h3, h4⟩
  · rw [if_neg (by simpa using hu), if_neg (by omega), if_neg (by rw [hss]; rintro ⟨_, h⟩; cases h)] at h1
    exact ⟨h1, by push_cast; omega, h3, h4⟩
theorem SM.last {es : List Ent} {U T : Int} {k : Nat} {n since : Int} (h : SM es U T k n since) (hk : ¬ k < es.length ∨ T < (es.getD k e0).t) :
    (0 ≤ since → n + T - since = F U T (-1) es) ∧ (since < 0 → n = F U T (-1) es) := by
  have hb : F U T since (es.drop k) = base T since := by
    by_cases h1 : k < es.length
    · rw [drop_ent h1]; simp only [F]; rw [if_pos (by rcases hk with h | h; exact absurd h1 h; exact h)]
    · rw [List.drop_eq_nil_of_le (by omega)]; rfl
  have h1 := h.1
  rw [hb] at h1; unfold base at h1
  refine ⟨fun hs => ?_, fun hs => ?_⟩
  · rw [if_pos hs] at h1; omega
  · rw [if_neg (by omega)] at h1; omega

set_option maxHeartbeats 4000000 in
theorem spec_stoppedTime (w : World) (lo : Nat) (v : Value) (es : List Ent) (U T : Int) (hv : Ents w lo v es) :
    Calls Try.prog 28 #[v, .int .i64 U, .int .i64 T] w fun e w' => e = .returned (.int .i64 (stoppedT es U T)) ∧ Below w.heap.size w w' := by
  obtain ⟨ao, cap, rfl, hcap, hm⟩ := hv.form
  by_cases hva : validL es = true
  · by_cases hU : 0 ≤ U ∧ U ≤ 7
    · have dU : (decide (0 ≤ U) && decide (U ≤ 7)) = true := by simp; omega
      by_cases hT : 0 ≤ T ∧ T ≤ 9999
      · have dT : (decide (0 ≤ T) && decide (T ≤ 9999)) = true := by simp; omega
        have hF := Lib.hid (stoppedT_yes hva hU hT)
        have h30 := (validL_iff.1 hva).1
        have hok : ∀ i, i < es.length → 0 ≤ (es.getD i e0).t ∧ (es.getD i e0).t ≤ 9999 := fun i hi => ⟨(okE_iff.1 ((validL_iff.1 hva).2 i hi)).1, (okE_iff.1 ((validL_iff.1 hva).2 i hi)).2.1⟩
        have hS := Lib.hid (SM.start (es := es) (U := U) (T := T))
        have HOK := Lib.hid hok
        clear hok
        go_enter Try.func28, Try.ntmps28
        go_wp2_with fail
        go_at_call 31
        refine (spec_validLog0 _ _ _ es hv).mono ?_; rintro e' w1 ⟨rfl, hB1⟩
        rw [hva]
        have hv1 : Ents w1 lo _ es := Rd.below hv hB1 (Nat.le_refl _) (by decide)
        go_wp2_with (first
          | (go_at_call 39; with_reducible refine (inRange_dec U 0 7 true _ dU).mono ?_; rintro e' w2 ⟨rfl, rfl⟩)
          | (go_at_call 39; with_reducible refine (inRange_dec T 0 9999 true _ dT).mono ?_; rintro e' w2 ⟨rfl, rfl⟩))
        go_loop [7, 8, 9] (fun a b i => ∃ k : Nat, ∃ n since : Int, k ≤ es.length ∧ i = .int .i64 k ∧ a = .int .i64 n ∧ b = .int .i64 since ∧ SM es U T k n since) (fun _ _ i => es.length - (intOf i).toNat)
        case atStart => exact ⟨0, 0, -1, Nat.zero_le _, rfl, rfl, rfl, hS.out⟩
        case round =>
          obtain ⟨k, n, since, hk, rfl, rfl, rfl, hSI⟩ := hrel
          have b2 := hSI.2.1
          have b3 := hSI.2.2
          by_cases hlt : k < es.length
          · obtain ⟨b, off, rfl, _, hb1, hc⟩ := Ents.spot hv1 (by omega)
            obtain ⟨s1, s2, s3⟩ := hc k hlt
            have hb := HOK.out k hlt
            have n1 := Lib.hid (fun ht => hSI.step hlt ht hb)
            have n2 := Lib.hid (fun ht => hSI.last (.inr ht))
            obtain ⟨t, ht⟩ : ∃ t, t = (es.getD k e0).t := ⟨_, rfl⟩
            obtain ⟨u, hu⟩ : ∃ u, u = (es.getD k e0).u := ⟨_, rfl⟩
            obtain ⟨ss, hs⟩ : ∃ ss, ss = (es.getD k e0).s := ⟨_, rfl⟩
            rw [← ht] at s1 hb n1 n2
            rw [← hu] at s2 n1
            rw [← hs] at s3 n1
            have hk0 : (0 : Int) ≤ (k : Int) := by omega
            have hk1 : (k : Int) < (es.length : Int) := by omega
            clear hc hv hv1 ht hu hs hSI
            by_cases hl : T < t
            · have d2 : decide (t ≤ T) = false := decide_eq_false (by omega)
              have n3 := Lib.hid (n2.out hl)
              clear n1 n2
              by_cases hs0 : 0 ≤ since
              · have n4 := Lib.hid (n3.out.1 hs0)
                clear n3
                have d3 : decide (0 ≤ since) = true := decide_eq_true hs0
                go_wp2
                go_ret
                exact ⟨by rw [hF.out, ← n4.out]; go_num, hB1⟩
              · have n4 := Lib.hid (n3.out.2 (by omega))
                clear n3
                have d3 : decide (0 ≤ since) = false := decide_eq_false hs0
                go_wp2
                go_ret
                exact ⟨by rw [hF.out, ← n4.out]; rfl, hB1⟩
            · have d2 : decide (t ≤ T) = true := decide_eq_true (by omega)
              have n3 := n1.out hl
              clear n1 n2
              by_cases hu : u = U
              · have d1 : (!(u == U)) = false := by simp [hu]
                by_cases hs0 : 0 ≤ since
                · have d3 : decide (0 ≤ since) = true := decide_eq_true hs0
                  have d4 : decide (since < 0) = false := decide_eq_false (by omega)
                  cases ss with
                  | false =>
                    have n4 := Lib.hid (n3.2.1 hu hs0 rfl)
                    clear n3
                    go_wp2
                    go_round
                    case rel => exact ⟨k + 1, n + t - since, -1, by omega, by go_num, by go_num, rfl, n4.out⟩
                    case measure => simp [intOf]; omega
                  | true =>
                    have n4 := Lib.hid (n3.2.2.2.1 hu hs0 rfl)
                    clear n3
                    go_wp2
                    go_round
                    case rel => exact ⟨k + 1, n, since, by omega, by go_num, rfl, rfl, n4.out⟩
                    case measure => simp [intOf]; omega
                · have d3 : decide (0 ≤ since) = false := decide_eq_false hs0
                  have d4 : decide (since < 0) = true := decide_eq_true (by omega)
                  cases ss with
                  | false =>
                    have n4 := Lib.hid (n3.2.2.2.2 hu (by omega) rfl)
                    clear n3
                    go_wp2
                    go_round
                    case rel => exact ⟨k + 1, n, since, by omega, by go_num, rfl, rfl, n4.out⟩
                    case measure => simp [intOf]; omega
                  | true =>
                    have n4 := Lib.hid (n3.2.2.1 hu (by omega) rfl)
                    clear n3
                    go_wp2
                    go_round
                    case rel => exact ⟨k + 1, n, t, by omega, by go_num, rfl, rfl, n4.out⟩
                    case measure => simp [intOf]; omega
              · have d1 : (!(u == U)) = true := by simp [hu]
                have n4 := Lib.hid (n3.1 hu)
                clear n3
                go_wp2
                go_round
                case rel => exact ⟨k + 1, n, since, by omega, by go_num, rfl, rfl, n4.out⟩
                case measure => simp [intOf]; omega
          · have n3 := Lib.hid (hSI.last (.inl hlt))
            clear hSI
            by_cases hs0 : 0 ≤ since
            · have n4 := Lib.hid (n3.out.1 hs0)
              clear n3
              have d3 : decide (0 ≤ since) = true := decide_eq_true hs0
              go_wp2
              go_ret
              exact ⟨by rw [hF.out, ← n4.out]; go_num, hB1⟩
            · have n4 := Lib.hid (n3.out.2 (by omega))
              clear n3
              have d3 : decide (0 ≤ since) = false := decide_eq_false hs0
              go_wp2
              go_ret
              exact ⟨by rw [hF.out, ← n4.out]; rfl, hB1⟩
      · have hF := Lib.hid (stoppedT_no (es := es) (U := U) (T := T) (by omega))
        have dT : (decide (0 ≤ T) && decide (T ≤ 9999)) = false := by simp; omega
        go_enter Try.func28, Try.ntmps28
        go_wp2_with fail
        go_at_call 31
        refine (spec_validLog0 _ _ _ es hv).mono ?_; rintro e' w1 ⟨rfl, hB1⟩
        rw [hva]
        go_wp2_with (first
          | (go_at_call 39; with_reducible refine (inRange_dec U 0 7 true _ dU).mono ?_; rintro e' w2 ⟨rfl, rfl⟩)
          | (go_at_call 39; with_reducible refine (inRange_dec T 0 9999 false _ dT).mono ?_; rintro e' w2 ⟨rfl, rfl⟩))
        go_ret
        exact ⟨by rw [hF.out]; rfl, hB1⟩
    · have hF := Lib.hid (stoppedT_no (es := es) (U := U) (T := T) (by omega))
      have dU : (decide (0 ≤ U) && decide (U ≤ 7)) = false := by simp; omega
      go_enter Try.func28, Try.ntmps28
      go_wp2_with fail
      go_at_call 31
      refine (spec_validLog0 _ _ _ es hv).mono ?_; rintro e' w1 ⟨rfl, hB1⟩
      rw [hva]
      go_wp2_with (first
          | (go_at_call 39; with_reducible refine (inRange_dec U 0 7 false _ dU).mono ?_; rintro e' w2 ⟨rfl, rfl⟩))
      go_ret
      exact ⟨by rw [hF.out]; rfl, hB1⟩
  · have hF := Lib.hid (stoppedT_no (es := es) (U := U) (T := T) (fun h => hva h.1))
    have hva : validL es = false := by simpa using hva
    go_enter Try.func28, Try.ntmps28
    go_wp2_with fail
    go_at_call 31
    refine (spec_validLog0 _ _ _ es hv).mono ?_; rintro e' w1 ⟨rfl, hB1⟩
    rw [hva]
    go_wp2
    go_ret
    exact ⟨by rw [hF.out]; rfl, hB1⟩

theorem exactStoppedTime_walk (w : World) (v : Value) (es : List Ent) (U T : Int) (hv : Ents w 0 v es) (_hx : ∀ x ∈ es, EntOk x) (_hU : in64 U) (_hT : in64 T) :
    Calls Try.prog 9 #[v, .int .i64 U, .int .i64 T] w fun e w' => e = .returned (.bool true) ∧ Below w.heap.size w w' := by
  obtain ⟨ao, cap, rfl, hcap, hm⟩ := hv.form
  by_cases hlen : es.length ≤ 1048576
  · go_enter Try.func9, Try.ntmps9
    go_wp2_with fail
    go_at_call 12
    refine (szEntryS_any _ _ _ es hv).mono ?_; rintro e w0 ⟨rfl, hw0⟩
    subst hw0
    rw [if_pos hlen]
    go_wp2_with fail
    go_at_call 14
    refine (toEntryS_any _ _ es hv (by omega)).mono ?_; rintro e w1 ⟨v1, rfl, hO1, hB1⟩
    go_wp2_with fail
    go_at_call 28
    refine (spec_stoppedTime _ _ _ es U T hO1.rd).mono ?_; rintro e w2 ⟨rfl, hB2⟩
    have hT := hB1.trans (hB2.mono hB1.size)
    go_wp2_with fail
    go_at_call 14
    refine (toEntryS_any _ _ es (Rd.below hv hT (Nat.le_refl _) (by decide)) (by omega)).mono ?_; rintro e w3 ⟨v3, rfl, hO3, hB3⟩
    have hT3 := hT.trans (hB3.mono hT.size)
    go_wp2_with fail
    go_at_call 29
    refine (impl_stoppedTime _ _ _ es U T hO3.rd).mono ?_; rintro e w4 ⟨rfl, hB4⟩
    have hT4 := hT3.trans (hB4.mono hT3.size)
    have hR4 := Rd.below hO3.rd hB4 (Nat.le_refl _) (by decide)
    go_wp2_with fail
    go_at_call 14
    refine (toEntryS_any _ _ es (Rd.below hv hT4 (Nat.le_refl _) (by decide)) (by omega)).mono ?_; rintro e w5 ⟨v5, rfl, hO5, hB5⟩
    have hT5 := hT4.trans (hB5.mono hT4.size)
    go_wp2_with fail
    go_at_call 16
    refine (eqEntryS_same _ _ _ es ((Rd.below hR4 hB5 (Nat.le_refl _) (by decide)).mono (Nat.zero_le _)) (hO5.rd.mono (Nat.zero_le _))).mono ?_; rintro e w6 ⟨rfl, hB6⟩
    go_wp2
    go_ret
    exact ⟨rfl, hT5.trans (hB6.mono hT5.size)⟩
  · go_enter Try.func9, Try.ntmps9
    go_wp2_with fail
    go_at_call 12
    refine (szEntryS_any _ _ _ es hv).mono ?_; rintro e w0 ⟨rfl, hw0⟩
    subst hw0
    rw [if_neg hlen]
    go_wp2
    go_ret
    exact ⟨rfl, Below.refl _ _⟩

end Go.Proofs.Ytfdnkfhldgcnmaa
