/- The laws FnLongestWait, FnLongestWaitParts, FnShareWithin, FnShareWithinParts, FnWaitRank, walked. -/
import Derived.Test.YtiiaccigoilddaaFair2
import Derived.Test.YtiiaccigoilddaaFairD
namespace Go.Proofs.Ytiiaccigoilddaa
open Go.RowKit

theorem isIn_yes (w : World) (lo : Nat) (v : Value) (xs : List Int) (n : Int) (hv : Ints w lo v xs) (hin : ∃ j, j < xs.length ∧ xs.getD j 0 = n) :
    Calls Try.prog 18 #[v, .int .i64 n] w fun e w' => e = .returned (.bool true) ∧ w = w' := by
  obtain ⟨ao, cap, rfl, hcap, hm⟩ := hv.form
  have HV := Lib.hid hv
  have HI := Lib.hid hin
  clear hv hin
  go_enter Try.func18, Try.ntmps18
  go_wp2
  go_loop [5] (fun i => ∃ k : Nat, k ≤ xs.length ∧ i = .int .i64 k ∧ ∀ j, j < k → xs.getD j 0 ≠ n) (fun i => xs.length - (intOf i).toNat)
  case atStart => exact ⟨0, Nat.zero_le _, rfl, fun j hj => by omega⟩
  case round =>
    obtain ⟨k, hk, rfl, hall⟩ := hrel
    have HA := Lib.hid hall
    clear hall
    by_cases hlt : k < xs.length
    · obtain ⟨b0, off, rfl, _, hb, hc⟩ := HV.out.spot 0 (by omega)
      have hck := hc k hlt
      clear hc
      obtain ⟨x, hx⟩ : ∃ x, x = xs.getD k 0 := ⟨_, rfl⟩
      rw [← hx] at hck
      have HX := Lib.hid hx
      clear hx
      by_cases hxn : x = n
      · have t : (x == n) = true := by simp [hxn]
        clear hxn
        go_wp2
        go_ret
        exact ⟨rfl, rfl⟩
      · have t : (x == n) = false := beq_eq_false_iff_ne.mpr hxn
        have HN := Lib.hid hxn
        clear hxn
        go_wp2
        go_round
        case rel => exact ⟨k + 1, by omega, by go_num, fun j hj => by
          by_cases h : j = k
          · subst h; rw [← HX.out]; exact HN.out
          · exact HA.out j (by omega)⟩
        case measure => simp [intOf]; omega
    · exfalso
      obtain ⟨j, hj, e⟩ := HI.out
      exact HA.out j (by omega) e

set_option maxHeartbeats 1000000 in
theorem fnLongest_walk (w : World) (v : Value) (bs : List UInt8) (hv : Bytes w 0 v bs) :
    Calls Try.prog 5 #[v] w fun e w' => e = .returned (.bool true) ∧ Below w.heap.size w w' := by
  obtain ⟨ao, cap, rfl, hcap, hm⟩ := hv.form
  by_cases hlen : bs.length ≤ 1048576
  · go_enter Try.func5, Try.ntmps5
    go_wp2_with fail
    go_at_call 17
    refine (drawLongest _ _ bs hv).mono ?_; rintro e w1 ⟨v1, xs, rfl, hr, hxs, ht, hB⟩
    clear hv
    obtain ⟨ao1, cap1, rfl, hcap1, hm1⟩ := hr.form
    have HX := Lib.hid ht
    clear ht
    cases hval : validW xs
    · have hp : longest xs < 0 := by have := (longest_bd xs).2.2.2 hval; omega
      have hne : (!(longest xs == longest xs)) = false := by simp
      go_wp2_with (first | (go_at_call 15; refine (impl_longest _ _ _ xs hr).mono ?_; rintro e w2 ⟨rfl, rfl⟩) | (go_at_call 13; refine (spec_longest _ _ _ xs hr).mono ?_; rintro e w2 ⟨rfl, rfl⟩))
      go_ret
      exact ⟨by simp, hB⟩
    · have hp : 0 ≤ longest xs := (longest_bd xs).2.2.1 hval
      have hp2 := (longest_bd xs).2.1
      have hne : (!(longest xs == longest xs)) = false := by simp
      obtain ⟨l1, l2, l3⟩ := (longest_iff hval _).1 rfl
      obtain ⟨m, hm0⟩ : ∃ m, m = longest xs := ⟨_, rfl⟩
      have HL : Hid ((∀ x ∈ xs, x ≤ m) ∧ (m = 0 ∨ m ∈ xs)) := by rw [hm0]; exact ⟨l2, l3⟩
      have HM := Lib.hid hm0
      clear l1 l2 l3 hm0
      go_wp2_with (first | (go_at_call 15; refine (impl_longest _ _ _ xs hr).mono ?_; rintro e w2 ⟨rfl, rfl⟩) | (go_at_call 13; refine (spec_longest _ _ _ xs hr).mono ?_; rintro e w2 ⟨rfl, rfl⟩))
      rw [← HM.out] at hp hp2 hne ⊢
      go_loop [5] (fun i => ∃ k : Nat, k ≤ xs.length ∧ i = .int .i64 k) (fun i => xs.length - (intOf i).toNat)
      case atStart => exact ⟨0, Nat.zero_le _, rfl⟩
      case round =>
        obtain ⟨k, hk, rfl⟩ := hrel
        by_cases hlt : k < xs.length
        · have HR := Lib.hid hr
          clear hr
          obtain ⟨b0, off, rfl, _, hb, hc⟩ := HR.out.spot 0 (by omega)
          have hck := hc k hlt
          clear hc
          have hle := HL.out.1 (xs.getD k 0) (getD_mem hlt)
          obtain ⟨x, hx⟩ : ∃ x, x = xs.getD k 0 := ⟨_, rfl⟩
          rw [← hx] at hck hle
          clear hx
          go_wp2
          go_round
          case rel => exact ⟨k + 1, by omega, by go_num⟩
          case measure => simp [intOf]; omega
        · by_cases h0 : xs.length = 0
          · have h00 : ((xs.length : Int) == 0) = true := by rw [h0]; rfl
            have hm1' : m = 0 := by
              rw [HM.out]; unfold longest; rw [if_pos hval, h0]; rfl
            have hmm : (m == 0) = true := by rw [hm1']; rfl
            have H0 := Lib.hid h0
            clear h0 hm1'
            go_wp2
            go_ret
            exact ⟨rfl, hB⟩
          · have h00 : ((xs.length : Int) == 0) = false := beq_eq_false_iff_ne.mpr (by omega)
            have hin : ∃ j, j < xs.length ∧ xs.getD j 0 = m := by
              rcases maxN_mem hval xs.length (Nat.le_refl _) with ⟨h, _⟩ | ⟨j, hj, e⟩
              · exact absurd h h0
              · exact ⟨j, hj, by rw [HM.out]; unfold longest; rw [if_pos hval, e]⟩
            have HIN := Lib.hid hin
            clear hin h0
            go_wp2_with (go_at_call 18; refine (isIn_yes _ _ _ xs m hr HIN.out).mono ?_; rintro e w2 ⟨rfl, rfl⟩)
            go_ret
            exact ⟨rfl, hB⟩
  · go_enter Try.func5, Try.ntmps5
    go_wp2
    go_ret
    exact ⟨rfl, Below.refl _ _⟩

set_option maxHeartbeats 1000000 in
theorem fnParts_walk (w : World) (v : Value) (bs : List UInt8) (hv : Bytes w 0 v bs) :
    Calls Try.prog 4 #[v] w fun e w' => e = .returned (.bool true) ∧ Below w.heap.size w w' := by
  obtain ⟨ao, cap, rfl, hcap, hm⟩ := hv.form
  by_cases hlen : bs.length ≤ 1048576
  · go_enter Try.func4, Try.ntmps4
    go_wp2_with fail
    go_at_call 17
    refine (drawLongest _ _ bs hv).mono ?_; rintro e w1 ⟨v1, xs, rfl, hr, hxs, ht, hB⟩
    clear hv
    obtain ⟨ao1, cap1, rfl, hcap1, hm1⟩ := hr.form
    have HX := Lib.hid ht
    clear ht
    cases hval : validW xs
    · have hp : longest xs < 0 := by have := (longest_bd xs).2.2.2 hval; omega
      have hne : (!(longest xs == longest xs)) = false := by simp
      go_wp2_with (first | (go_at_call 15; refine (impl_longest _ _ _ xs hr).mono ?_; rintro e w2 ⟨rfl, rfl⟩) | (go_at_call 13; refine (spec_longest _ _ _ xs hr).mono ?_; rintro e w2 ⟨rfl, rfl⟩))
      go_ret
      exact ⟨by simp, hB⟩
    · have hp : 0 ≤ longest xs := (longest_bd xs).2.2.1 hval
      have hp2 := (longest_bd xs).2.1
      have hne : (!(longest xs == longest xs)) = false := by simp
      obtain ⟨k, hk⟩ : ∃ k, k = xs.length / 2 := ⟨_, rfl⟩
      have hkk : ((xs.length : Int) / 2) = (k : Int) := by omega
      have hkl : k ≤ xs.length := by omega
      have hlaw := longest_parts hval k
      have hka := (longest_bd (xs.take k))
      have hkb := (longest_bd (xs.drop k))
      have HT : Hid (∀ W : World, Ints W 0 (.slice ao1 xs.length cap1) xs → Ints W 0 (.slice ao1 k cap1) (xs.take k)) := fun W h => by
        have := Rd.take h hkl
        unfold Ints; rw [List.length_take, Nat.min_eq_left hkl, List.map_take]; exact this
      obtain ⟨A, hA⟩ : ∃ A, A = longest (xs.take k) := ⟨_, rfl⟩
      obtain ⟨B, hBB⟩ : ∃ B, B = longest (xs.drop k) := ⟨_, rfl⟩
      rw [← hA, ← hBB] at hlaw
      rw [← hA] at hka
      rw [← hBB] at hkb
      have hmx : (if A < B then B else A) = longest xs := by rw [← hlaw]; split <;> omega
      have hmx2 : ((if A < B then B else A) == longest xs) = true := by rw [hmx]; simp
      have HA := Lib.hid hA; have HB := Lib.hid hBB; have HK := Lib.hid hk; have HMX := Lib.hid hmx; have HMX2 := Lib.hid hmx2
      have c1 : ∀ n, Calls Try.prog 15 #[.slice ao1 k cap1] (w1.drewN n) fun e w' => e = .returned (.int .i64 A) ∧ w1.drewN n = w' := fun n => by
        rw [HA.out]; exact impl_longest _ 0 _ _ (HT.out _ (Rd.drewN hr n))
      have C1 := Lib.hid c1
      clear hA hBB hk c1 hka hkb hlaw hmx hmx2
      have hkk2 : ((xs.length : Int)).tdiv 2 = (k : Int) := by rw [Int.tdiv_eq_ediv_of_nonneg (by omega)]; exact hkk
      by_cases hn0 : 0 < xs.length
      · have HR := Lib.hid hr
        obtain ⟨b0, off, rfl, _, hb, hc⟩ := HR.out.spot 0 hn0
        clear hc
        by_cases hkc : k < xs.length
        · have c2 : ∀ n, Calls Try.prog 15 #[.slice (some ⟨b0, off + k, none⟩) (xs.length - k) (cap1 - k)] (w1.drewN n) fun e w' => e = .returned (.int .i64 B) ∧ w1.drewN n = w' := fun n => by
            rw [HB.out]
            refine impl_longest _ 0 _ _ ?_
            have := Rd.drop (Rd.drewN hr n) hkl (a := some ⟨b0, off + k, none⟩) (fun _ => rfl) (by simp)
            unfold Ints; rw [List.length_drop, List.map_drop]; exact this
          have C2 := Lib.hid c2
          clear c2
          have hkc2 : ¬ cap1 = k := by omega
          by_cases hab : A < B
          all_goals
            have heq : ((if A < B then B else A) == longest xs) = true := HMX2.out
            first | rw [if_pos hab] at heq | rw [if_neg hab] at heq
            go_wp2_with (first | (go_at_call 15; refine (impl_longest _ _ _ xs hr).mono ?_; rintro e w2 ⟨rfl, rfl⟩) | (go_at_call 13; refine (spec_longest _ _ _ xs hr).mono ?_; rintro e w2 ⟨rfl, rfl⟩))
            go_quiet ((go_at_call 15; first | (with_reducible exact quiet_eq (C1.out _)) | (with_reducible exact quiet_eq (C2.out _))))
            go_wp2
            go_ret
            exact ⟨rfl, below_drewN hB _⟩
        · exfalso; have := HK.out; omega
      · have hl0 : xs.length = 0 := by omega
        have hx0 : xs = [] := List.eq_nil_of_length_eq_zero hl0
        subst hx0
        have hL0 : longest [] = 0 := by unfold longest; rw [if_pos hval]; rfl
        have hkz : k = 0 := by simpa using hkl
        subst hkz
        obtain ⟨_, ao', cap', hq, hq1, hq2, hq3, _⟩ := hr
        cases hq
        have c0 : ∀ (W : World) a c, c ≤ maxLen → (a = none → c = 0) → Calls Try.prog 15 #[.slice a 0 c] W fun e w' => e = .returned (.int .i64 0) ∧ W = w' := fun W a c h1 h2 => by
          rw [← hL0]; exact impl_longest W 0 _ _ ⟨by simp, a, c, rfl, Nat.zero_le _, h1, h2, fun h => absurd h (by simp)⟩
        have hr0 : Ints w1 0 (.slice ao1 0 cap1) [] := ⟨by simp, ao1, cap1, rfl, Nat.zero_le _, hq2, hq3, fun h => absurd h (by simp)⟩
        have HL0 := Lib.hid hL0
        have cs0 : Calls Try.prog 13 #[.slice ao1 0 cap1] w1 fun e w' => e = .returned (.int .i64 0) ∧ w1 = w' := by
          rw [← hL0]; exact spec_longest w1 0 _ _ hr0
        have C0 := Lib.hid c0
        have CS0 := Lib.hid cs0
        have hq2' : cap1 ≤ 9223372036854775807 := hm1
        have HQ2 := Lib.hid hq2
        have HQ3 := Lib.hid hq3
        clear C1 c0 cs0 hL0 hp hp2 hne HA HMX HMX2 hr0 hq2 hkk hkk2 hxs HT hcap1 hkl
        simp only [List.length_nil]
        cases ao1 with
        | none =>
          have hcz := hq3 rfl
          subst hcz
          clear hq3
          go_wp2_with (first | (go_at_call 15; refine (C0.out _ _ _ HQ2.out HQ3.out).mono ?_; rintro e w2 ⟨rfl, rfl⟩) | (go_at_call 13; refine CS0.out.mono ?_; rintro e w2 ⟨rfl, rfl⟩))
          go_quiet ((go_at_call 15; exact quiet_eq (C0.out _ none 0 (Nat.zero_le _) (fun _ => rfl))))
          go_wp2
          go_ret
          exact ⟨rfl, below_drewN hB _⟩
        | some a =>
          clear hq3
          by_cases hcz : cap1 = 0
          · subst hcz
            go_wp2_with (first | (go_at_call 15; refine (C0.out _ _ _ HQ2.out HQ3.out).mono ?_; rintro e w2 ⟨rfl, rfl⟩) | (go_at_call 13; refine CS0.out.mono ?_; rintro e w2 ⟨rfl, rfl⟩))
            go_quiet ((go_at_call 15; exact quiet_eq (C0.out _ _ _ HQ2.out (fun h => by cases h))))
            go_wp2
            go_ret
            exact ⟨rfl, below_drewN hB _⟩
          · go_wp2_with (first | (go_at_call 15; refine (C0.out _ _ _ HQ2.out HQ3.out).mono ?_; rintro e w2 ⟨rfl, rfl⟩) | (go_at_call 13; refine CS0.out.mono ?_; rintro e w2 ⟨rfl, rfl⟩))
            go_quiet ((go_at_call 15; exact quiet_eq (C0.out _ _ _ (by have := HQ2.out; omega) (fun h => by cases h))))
            go_wp2
            go_ret
            exact ⟨rfl, below_drewN hB _⟩
  · go_enter Try.func4, Try.ntmps4
    go_wp2
    go_ret
    exact ⟨rfl, Below.refl _ _⟩

end Go.Proofs.Ytiiaccigoilddaa
