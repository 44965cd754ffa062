/- The laws FnShareWithin, FnShareWithinParts, FnWaitRank, walked. -/
import Derived.Test.YtiiaccigoilddaaFairL2
namespace Go.Proofs.Ytiiaccigoilddaa
open Go.RowKit

set_option maxHeartbeats 1000000 in
theorem fnShare_walk (w : World) (v : Value) (bs : List UInt8) (hv : Bytes w 0 v bs) :
    Calls Try.prog 8 #[v] w fun e w' => e = .returned (.bool true) ∧ Below w.heap.size w w' := by
  obtain ⟨ao, cap, rfl, hcap, hm⟩ := hv.form
  by_cases hlen : bs.length ≤ 1048576
  · go_enter Try.func8, Try.ntmps8
    go_wp2_with fail
    go_at_call 21
    refine (drawShare _ _ bs hv).mono ?_; rintro e w1 ⟨v1, xs, n, rfl, hr, hxs, ht, hn, hB⟩
    clear hv
    obtain ⟨ao1, cap1, rfl, hcap1, hm1⟩ := hr.form
    have HX := Lib.hid ht
    clear ht
    cases hval : validW xs
    · have hp : share xs n < 0 := by have := (share_bd xs n).2.2.2 hval; omega
      have hne : (!(share xs n == share xs n)) = false := by simp
      go_wp2_with (first | (go_at_call 20; refine (impl_share _ _ _ xs _ hr).mono ?_; rintro e w2 ⟨rfl, rfl⟩) | (go_at_call 19; refine (spec_share _ _ _ xs _ hr).mono ?_; rintro e w2 ⟨rfl, rfl⟩))
      go_ret
      exact ⟨by simp, hB⟩
    · have hp : 0 ≤ share xs n := (share_bd xs n).2.2.1 hval
      have hp2 := (share_bd xs n).2.1
      have hne : (!(share xs n == share xs n)) = false := by simp
      have hself : (share xs n == share xs n) = true := by simp
      have hmono := share_mono xs (show n ≤ n + 1 by omega)
      have hl : longest xs = maxN xs xs.length := by unfold longest; rw [if_pos hval]
      have hfull : share xs (longest xs) = 1000 := by rw [hl]; exact share_full hval
      have HFL := Lib.hid hfull
      clear hl hfull
      by_cases hlim : 98901 < n
      · go_wp2_with (first | (go_at_call 20; refine (impl_share _ _ _ xs _ hr).mono ?_; rintro e w2 ⟨rfl, rfl⟩) | (go_at_call 19; refine (spec_share _ _ _ xs _ hr).mono ?_; rintro e w2 ⟨rfl, rfl⟩))
        go_ret
        exact ⟨rfl, hB⟩
      · go_wp2_with (first | (go_at_call 15; refine (impl_longest _ _ _ xs hr).mono ?_; rintro e w2 ⟨rfl, rfl⟩) | (go_at_call 20; with_reducible refine (impl_share _ _ _ xs (longest xs) hr).mono ?_; rintro e w2 ⟨rfl, rfl⟩; rw [HFL.out]) | (go_at_call 20; refine (impl_share _ _ _ xs _ hr).mono ?_; rintro e w2 ⟨rfl, rfl⟩) | (go_at_call 19; refine (spec_share _ _ _ xs _ hr).mono ?_; rintro e w2 ⟨rfl, rfl⟩))
        go_ret
        exact ⟨rfl, hB⟩
  · go_enter Try.func8, Try.ntmps8
    go_wp2
    go_ret
    exact ⟨rfl, Below.refl _ _⟩

set_option maxHeartbeats 1000000 in
theorem fnShareParts_walk (w : World) (v : Value) (bs : List UInt8) (hv : Bytes w 0 v bs) :
    Calls Try.prog 7 #[v] w fun e w' => e = .returned (.bool true) ∧ Below w.heap.size w w' := by
  obtain ⟨ao, cap, rfl, hcap, hm⟩ := hv.form
  by_cases hlen : bs.length ≤ 1048576
  · go_enter Try.func7, Try.ntmps7
    go_wp2_with fail
    go_at_call 21
    refine (drawShare _ _ bs hv).mono ?_; rintro e w1 ⟨v1, xs, n, rfl, hr, hxs, ht, hn, hB⟩
    clear hv
    obtain ⟨ao1, cap1, rfl, hcap1, hm1⟩ := hr.form
    have HX := Lib.hid ht
    clear ht
    cases hval : validW xs
    · have hp : share xs n < 0 := by have := (share_bd xs n).2.2.2 hval; omega
      have hne : (!(share xs n == share xs n)) = false := by simp
      go_wp2_with (first | (go_at_call 20; refine (impl_share _ _ _ xs _ hr).mono ?_; rintro e w2 ⟨rfl, rfl⟩) | (go_at_call 19; refine (spec_share _ _ _ xs _ hr).mono ?_; rintro e w2 ⟨rfl, rfl⟩))
      go_ret
      exact ⟨by simp, hB⟩
    · have hp : 0 ≤ share xs n := (share_bd xs n).2.2.1 hval
      have hp2 := (share_bd xs n).2.1
      have hne : (!(share xs n == share xs n)) = false := by simp
      have hself : (share xs n == share xs n) = true := by simp
      have h60 : xs.length ≤ 60 := (validW_iff.1 hval).1
      by_cases h0 : xs.length = 0
      · have h00 : ((xs.length : Int) == 0) = true := by rw [h0]; rfl
        have H0 := Lib.hid h0
        clear h0
        go_wp2_with (first | (go_at_call 20; refine (impl_share _ _ _ xs _ hr).mono ?_; rintro e w2 ⟨rfl, rfl⟩) | (go_at_call 19; refine (spec_share _ _ _ xs _ hr).mono ?_; rintro e w2 ⟨rfl, rfl⟩))
        go_ret
        exact ⟨rfl, hB⟩
      · have h00 : ((xs.length : Int) == 0) = false := beq_eq_false_iff_ne.mpr (by omega)
        obtain ⟨p1, p2⟩ := share_parts hval h0 n
        have hle0 := cntN_le xs n xs.length
        have hq1 : 0 ≤ share xs n * (xs.length : Int) := Int.mul_nonneg hp (by omega)
        have hq2 : share xs n * (xs.length : Int) ≤ 100000 := by omega
        have hq3 : 0 ≤ (share xs n + 1) * (xs.length : Int) := Int.mul_nonneg (by omega) (by omega)
        have hq4 : (share xs n + 1) * (xs.length : Int) ≤ 100000 := by
          have : (share xs n + 1) * (xs.length : Int) = share xs n * xs.length + xs.length := by rw [Int.add_mul]; omega
          omega
        go_wp2_with (first | (go_at_call 20; refine (impl_share _ _ _ xs _ hr).mono ?_; rintro e w2 ⟨rfl, rfl⟩) | (go_at_call 19; refine (spec_share _ _ _ xs _ hr).mono ?_; rintro e w2 ⟨rfl, rfl⟩))
        go_loop [6, 7] (fun c i => ∃ k : Nat, k ≤ xs.length ∧ i = .int .i64 k ∧ c = .int .i64 (cntN xs n k)) (fun _ i => xs.length - (intOf i).toNat)
        case atStart => exact ⟨0, Nat.zero_le _, rfl, rfl⟩
        case round =>
          obtain ⟨k, hk, rfl, rfl⟩ := hrel
          by_cases hlt : k < xs.length
          · have HR := Lib.hid hr
            clear hr
            obtain ⟨b0, off, rfl, _, hb, hc⟩ := HR.out.spot 0 (by omega)
            have hck := hc k hlt
            clear hc
            have HM : Hid (cntN xs n (k + 1) = cntN xs n k + (if xs.getD k 0 ≤ n then 1 else 0)) := rfl
            have hle := cntN_le xs n k
            obtain ⟨x, hx⟩ : ∃ x, x = xs.getD k 0 := ⟨_, rfl⟩
            rw [← hx] at hck HM
            clear hx
            by_cases hxl : x ≤ n
            · have HM2 : Hid (cntN xs n (k + 1) = cntN xs n k + 1) := by unfold Hid; rw [HM.out, if_pos hxl]
              clear HM
              go_wp2
              go_round
              case rel => exact ⟨k + 1, by omega, by go_num, (by rw [HM2.out]; first | done | go_num)⟩
              case measure => simp [intOf]; omega
            · have HM2 : Hid (cntN xs n (k + 1) = cntN xs n k) := by unfold Hid; rw [HM.out, if_neg hxl]; rfl
              clear HM
              go_wp2
              go_round
              case rel => exact ⟨k + 1, by omega, by go_num, (by rw [HM2.out]; first | done | go_num)⟩
              case measure => simp [intOf]; omega
          · obtain rfl : k = xs.length := by omega
            go_wp2
            go_ret
            exact ⟨rfl, hB⟩
  · go_enter Try.func7, Try.ntmps7
    go_wp2
    go_ret
    exact ⟨rfl, Below.refl _ _⟩

set_option maxHeartbeats 1000000 in
theorem fnRank_walk (w : World) (v : Value) (bs : List UInt8) (hv : Bytes w 0 v bs) :
    Calls Try.prog 10 #[v] w fun e w' => e = .returned (.bool true) ∧ Below w.heap.size w w' := by
  obtain ⟨ao, cap, rfl, hcap, hm⟩ := hv.form
  by_cases hlen : bs.length ≤ 1048576
  · go_enter Try.func10, Try.ntmps10
    go_wp2_with fail
    go_at_call 24
    refine (drawRank _ _ bs hv).mono ?_; rintro e w1 ⟨v1, xs, n, rfl, hr, hxs, ht, hn, hB⟩
    clear hv
    obtain ⟨ao1, cap1, rfl, hcap1, hm1⟩ := hr.form
    have HX := Lib.hid ht
    clear ht
    by_cases hval : validW xs = true ∧ xs.length ≠ 0 ∧ 0 ≤ n ∧ n ≤ 1000
    · obtain ⟨hval, h0, hn0, hn1⟩ := hval
      obtain ⟨q1, q2, q3⟩ := rank_law hval h0 hn0 hn1
      have hfull := rank_full hval h0
      have hp2 := (rank_bd xs n).2
      have hp : 0 ≤ rankW xs n := by
        rw [(rank_eq hval h0 hn0 hn1).2]; exact rk_pos hval h0 hn1
      obtain ⟨r, hrr⟩ : ∃ r, r = rankW xs n := ⟨_, rfl⟩
      rw [← hrr] at q1 q2 q3 hp hp2
      have HRR := Lib.hid hrr
      have Q1 := Lib.hid q1; have Q3 := Lib.hid q3; have HFL := Lib.hid hfull
      have hne : (!(r == r)) = false := by simp
      clear hrr q1 q3 hfull
      have hlong := (longest_bd xs).2.1
      have hlong2 := (longest_bd xs).1
      have hsh := (share_bd xs r).2.1
      have hsh2 := (share_bd xs (r - 1)).2.1
      have hsh3 := (share_bd xs (r - 1)).1
      have HR := Lib.hid hr
      obtain ⟨b0, off, rfl, _, hb, hc⟩ := HR.out.spot 0 (by omega)
      have hc0 := hc 0 (by omega)
      simp only [Nat.add_zero] at hc0
      obtain ⟨x0, hx0⟩ : ∃ x, x = xs.getD 0 0 := ⟨_, rfl⟩
      rw [← hx0] at hc0
      have HX0 := Lib.hid hx0
      have HC := Lib.hid hc
      clear hx0 hc
      go_wp2_with (first | (go_at_call 23; refine (impl_rank _ _ _ xs _ hr).mono ?_; rintro e w2 ⟨rfl, rfl⟩; rw [← HRR.out]) | (go_at_call 22; refine (spec_rank _ _ _ xs _ hr).mono ?_; rintro e w2 ⟨rfl, rfl⟩; rw [← HRR.out]))
      go_loop [6, 7] (fun c i => ∃ k : Nat, k ≤ xs.length ∧ i = .int .i64 k ∧ c = .int .i64 (minN xs k)) (fun _ i => xs.length - (intOf i).toNat)
      case atStart => exact ⟨0, Nat.zero_le _, rfl, by rw [HX0.out]; rfl⟩
      case round =>
        clear hc0
        obtain ⟨k, hk, rfl, rfl⟩ := hrel
        by_cases hlt : k < xs.length
        · have hck := HC.out k hlt
          have HM : Hid (minN xs (k + 1) = min (minN xs k) (xs.getD k 0)) := rfl
          obtain ⟨m, hmm⟩ : ∃ m, m = minN xs k := ⟨_, rfl⟩
          rw [← hmm] at HM ⊢
          obtain ⟨x, hx⟩ : ∃ x, x = xs.getD k 0 := ⟨_, rfl⟩
          rw [← hx] at hck HM
          clear hx hmm
          by_cases hmx : x < m
          · have HM2 : Hid (minN xs (k + 1) = x) := by unfold Hid; rw [HM.out]; omega
            clear HM
            go_wp2
            go_round
            case rel => exact ⟨k + 1, by omega, by go_num, by rw [HM2.out]⟩
            case measure => simp [intOf]; omega
          · have HM2 : Hid (minN xs (k + 1) = m) := by unfold Hid; rw [HM.out]; omega
            clear HM
            go_wp2
            go_round
            case rel => exact ⟨k + 1, by omega, by go_num, by rw [HM2.out]⟩
            case measure => simp [intOf]; omega
        · obtain rfl : k = xs.length := by omega
          obtain ⟨m, hmm⟩ : ∃ m, m = minN xs xs.length := ⟨_, rfl⟩
          rw [← hmm] at Q3 ⊢
          clear hmm
          have hfl : (longest xs == longest xs) = true := by simp
          by_cases hrm : r = m
          · have hrm0 : (r == m) = true := by simp [hrm]
            have HRM := Lib.hid hrm
            clear hrm
            go_wp2_with (first | (go_at_call 18; refine (isIn_yes _ _ _ xs r hr Q1.out).mono ?_; rintro e w2 ⟨rfl, rfl⟩) | (go_at_call 20; refine (impl_share _ _ _ xs _ hr).mono ?_; rintro e w2 ⟨rfl, rfl⟩) | (go_at_call 23; refine (impl_rank _ _ _ xs 1000 hr).mono ?_; rintro e w2 ⟨rfl, rfl⟩; rw [HFL.out]) | (go_at_call 15; refine (impl_longest _ _ _ xs hr).mono ?_; rintro e w2 ⟨rfl, rfl⟩))
            go_ret
            exact ⟨rfl, hB⟩
          · have hrm0 : (r == m) = false := beq_eq_false_iff_ne.mpr hrm
            have hlt2 : share xs (r - 1) < n := Q3.out.resolve_left hrm
            clear hrm
            go_wp2_with (first | (go_at_call 18; refine (isIn_yes _ _ _ xs r hr Q1.out).mono ?_; rintro e w2 ⟨rfl, rfl⟩) | (go_at_call 20; refine (impl_share _ _ _ xs _ hr).mono ?_; rintro e w2 ⟨rfl, rfl⟩) | (go_at_call 23; refine (impl_rank _ _ _ xs 1000 hr).mono ?_; rintro e w2 ⟨rfl, rfl⟩; rw [HFL.out]) | (go_at_call 15; refine (impl_longest _ _ _ xs hr).mono ?_; rintro e w2 ⟨rfl, rfl⟩))
            go_ret
            exact ⟨rfl, hB⟩
    · have hno : rankW xs n = -1 := by
        refine rank_no ?_
        cases hv : validW xs
        · exact .inr (.inl rfl)
        · by_cases h0 : xs.length = 0
          · exact .inl h0
          · right; right; intro h; exact hval ⟨hv, h0, h⟩
      have hp : rankW xs n < 0 := by omega
      have hne : (!(rankW xs n == rankW xs n)) = false := by simp
      have hself : (rankW xs n == rankW xs n) = true := by simp
      clear hno hval
      go_wp2_with (first | (go_at_call 23; refine (impl_rank _ _ _ xs _ hr).mono ?_; rintro e w2 ⟨rfl, rfl⟩) | (go_at_call 22; refine (spec_rank _ _ _ xs _ hr).mono ?_; rintro e w2 ⟨rfl, rfl⟩))
      go_ret
      exact ⟨rfl, hB⟩
  · go_enter Try.func10, Try.ntmps10
    go_wp2
    go_ret
    exact ⟨rfl, Below.refl _ _⟩

end Go.Proofs.Ytiiaccigoilddaa
