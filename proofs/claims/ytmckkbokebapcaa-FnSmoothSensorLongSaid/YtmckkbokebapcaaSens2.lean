/- The walks of the sensors' functions that only read. -/
import Derived.Test.YtmckkbokebapcaaProg
import Derived.Test.YtmckkbokebapcaaSens1
import Derived.Outline
import Derived.Deep.QuietTactic
import Derived.BigQuiet
namespace Go.Proofs.Ytmckkbokebapcaa
open Go.RowKit

theorem within_any (a b c : Int) (w : World) :
    Calls Try.prog 33 #[.int .i64 a, .int .i64 b, .int .i64 c] w fun e w' => e = .returned (.bool (decide (b ≤ a) && decide (a ≤ c))) ∧ w = w' := by
  go_enter Try.func33, Try.ntmps33
  go_wp2
  all_goals go_ret
  · have h : b ≤ a := by assumption
    simp [h]
  · have h : a < b := by assumption
    have h' : ¬ b ≤ a := by omega
    simp [h']

theorem inRange_any (a b c : Int) (w : World) :
    Calls Try.prog 32 #[.int .i64 a, .int .i64 b, .int .i64 c] w fun e w' => e = .returned (.bool (decide (b ≤ a) && decide (a ≤ c))) ∧ w = w' := by
  go_enter Try.func32, Try.ntmps32
  go_wp2
  all_goals go_ret
  · have h : b ≤ a := by assumption
    simp [h]
  · have h : a < b := by assumption
    have h' : ¬ b ≤ a := by omega
    simp [h']

theorem toInt_any (b : Bool) (w : World) : Calls Try.prog 34 #[.bool b] w fun e w' => e = .returned (.int .i64 (b2i b)) ∧ w = w' := by
  cases b
  all_goals
    go_enter Try.func34, Try.ntmps34
    go_wp2
    go_ret
    exact ⟨rfl, rfl⟩

theorem validSignals_any (w : World) (lo : Nat) (v : Value) (xs : List Bool) (hv : Bools w lo v xs) :
    Calls Try.prog 31 #[v] w fun e w' => e = .returned (.bool (decide ((xs.length : Int) ≤ 150))) ∧ w = w' := by
  obtain ⟨ao, cap, rfl, hcap, hm⟩ := hv.form
  go_enter Try.func31, Try.ntmps31
  go_wp2
  go_ret
  exact ⟨rfl, rfl⟩

theorem impl_stuck (w : World) (lo : Nat) (v : Value) (xs : List Bool) (n : Int) (hv : Bools w lo v xs) :
    Calls Try.prog 15 #[v, .int .i64 n] w fun e w' => e = .returned (.bool (stuck xs n)) ∧ w = w' := by
  obtain ⟨ao, cap, rfl, hcap, hm⟩ := hv.form
  obtain ⟨_, _, _, hc⟩ := hv.cellMap false
  clear hv
  by_cases h1 : xs.length ≤ 150
  · by_cases h2 : 1 ≤ n ∧ n ≤ xs.length
    · have hc2 := hc (by omega)
      clear hc
      obtain ⟨b, off, rfl, _, hb, hc⟩ := hc2
      obtain ⟨m, rfl⟩ : ∃ m : Nat, n = m := ⟨n.toNat, by omega⟩
      have h0 := hc (xs.length - m) (by omega)
      obtain ⟨c0, hc0⟩ : ∃ c, c = xs.getD (xs.length - m) false := ⟨_, rfl⟩
      rw [← hc0] at h0
      have HC0 : Hid _ := hc0
      clear hc0
      go_enter Try.func15, Try.ntmps15
      go_wp2_with (go_at_call 33; refine (within_any _ _ _ _).mono ?_; rintro e w' ⟨rfl, rfl⟩)
      go_loop [26] (fun i => ∃ k : Nat, k ≤ m ∧ i = .int .i64 k ∧ ∀ j, j < k → xs.getD (xs.length - m + j) false = c0) (fun i => m - (intOf i).toNat)
      case atStart => exact ⟨0, by omega, rfl, by intro j hj; omega⟩
      case round =>
        obtain ⟨k, hk, rfl, hall⟩ := hrel
        have HA := Lib.hid hall
        clear hall
        by_cases hlt : k < m
        · have hk := hc (xs.length - m + k) (by omega)
          clear hc
          rw [← Nat.add_assoc] at hk
          obtain ⟨c, hcc⟩ : ∃ c, c = xs.getD (xs.length - m + k) false := ⟨_, rfl⟩
          rw [← hcc] at hk
          have HC := Lib.hid hcc
          clear hcc
          by_cases he : c = c0
          · subst he
            have he : (!c == c) = false := by cases c <;> rfl
            go_wp2
            go_round
            case rel => exact ⟨k + 1, by omega, by go_num, fun j hj => by
              by_cases h : j = k
              · subst h; exact HC.out.symm
              · exact HA.out j (by omega)⟩
            case measure => simp [intOf]; omega
          · have hs : stuck xs m = false := stuck_first (j := k) (by simpa using hlt) (by omega) (by simp only [Int.toNat_natCast]; rw [← HC.out, ← HC0.out]; exact he)
            have HS := Lib.hid hs
            have hne : (!c == c0) = true := by cases c <;> cases c0 <;> simp_all
            clear hs he
            go_wp2
            go_ret
            exact ⟨by rw [HS.out]; rfl, rfl⟩
        · clear hc
          go_wp2
          go_ret
          refine ⟨?_, rfl⟩
          obtain rfl : k = m := by omega
          rw [stuck_true h1 h2.1 h2.2 (fun j hj => ?_)]
          · rfl
          · simp only [Int.toNat_natCast] at hj ⊢
            rw [HA.out j hj]
            have := HA.out (k - 1) (by omega)
            rw [← this]
            congr 1
            omega
    · have hs : stuck xs n = false := stuck_no (by omega)
      have HS := Lib.hid hs
      have ht : (decide (1 ≤ n) && decide (n ≤ (xs.length : Int))) = false := by simp; omega
      clear hs hc
      go_enter Try.func15, Try.ntmps15
      go_wp2_with (go_at_call 33; refine (within_any _ _ _ _).mono ?_; rintro e w' ⟨rfl, rfl⟩; rw [ht])
      go_ret
      exact ⟨by rw [HS.out]; rfl, rfl⟩
  · have hs : stuck xs n = false := stuck_no (by omega)
    have HS := Lib.hid hs
    clear hs hc
    go_enter Try.func15, Try.ntmps15
    go_wp2_with (go_at_call 33; refine (within_any _ _ _ _).mono ?_; rintro e w' ⟨rfl, rfl⟩)
    go_ret
    exact ⟨by rw [HS.out]; rfl, rfl⟩

theorem spec_stuck (w : World) (lo : Nat) (v : Value) (xs : List Bool) (n : Int) (hv : Bools w lo v xs) :
    Calls Try.prog 13 #[v, .int .i64 n] w fun e w' => e = .returned (.bool (stuck xs n)) ∧ Below w.heap.size w w' := by
  have hv0 := hv
  obtain ⟨ao, cap, rfl, hcap, hm⟩ := hv.form
  obtain ⟨_, _, _, hc⟩ := hv.cellMap false
  clear hv
  by_cases h1 : (xs.length : Int) ≤ 150
  · by_cases h2 : 1 ≤ n ∧ n ≤ xs.length
    · have hc2 := hc (by omega)
      clear hc
      obtain ⟨b, off, rfl, _, hb, hc⟩ := hc2
      obtain ⟨m, rfl⟩ : ∃ m : Nat, n = m := ⟨n.toNat, by omega⟩
      have h0 := hc (xs.length - 1) (by omega)
      obtain ⟨c0, hc0⟩ : ∃ c, c = xs.getD (xs.length - 1) false := ⟨_, rfl⟩
      rw [← hc0] at h0
      have HC0 := Lib.hid hc0
      clear hc0
      go_enter Try.func13, Try.ntmps13
      go_wp2_with (first | (go_at_call 32; refine (inRange_any _ _ _ _).mono ?_; rintro e w' ⟨rfl, rfl⟩) | (go_at_call 31; refine (validSignals_any w lo _ xs hv0).mono ?_; rintro e w' ⟨rfl, rfl⟩))
      go_loopw [5] (fun i wr => ∃ k : Nat, k ≤ m ∧ i = .int .i64 ((xs.length : Int) - m + k) ∧ (∀ j, j < k → xs.getD (xs.length - m + j) false = c0) ∧ Below w.heap.size w wr) (fun i _ => xs.length - (intOf i).toNat)
      case atStart => exact ⟨0, by omega, by simp, by (intro j hj; omega), Below.refl _ _⟩
      case round =>
        clear hv0
        obtain ⟨k, hk, rfl, hall, hB⟩ := hrel
        have HA := Lib.hid hall
        clear hall
        rw [← hB.cell (p := ⟨b, off + (xs.length - 1), none⟩) hb] at h0
        by_cases hlt : k < m
        · have hk := hc (xs.length - m + k) (by omega)
          clear hc
          obtain ⟨c, hcc⟩ : ∃ c, c = xs.getD (xs.length - m + k) false := ⟨_, rfl⟩
          rw [← hB.cell (p := ⟨b, off + (xs.length - m + k), none⟩) hb, ← hcc] at hk
          have HC := Lib.hid hcc
          clear hcc
          have e1 : ((xs.length : Int) - m + k).toNat = xs.length - m + k := by omega
          have e2 : ((xs.length : Int) - 1).toNat = xs.length - 1 := by omega
          by_cases he : c = c0
          · subst he
            have he : (!c == c) = false := by cases c <;> rfl
            go_wp2
            go_quiet (fail)
            go_wp2
            go_roundw
            case rel => exact ⟨k + 1, by omega, by go_num, fun j hj => (by
              by_cases h : j = k
              · subst h; exact HC.out.symm
              · exact HA.out j (by omega)), below_drewN hB _⟩
            case measure => simp [intOf]; omega
          · have hs : stuck xs m = false := stuck_false (j := k) (by simpa using hlt) (by simp only [Int.toNat_natCast]; rw [← HC.out, ← HC0.out]; exact he)
            have HS := Lib.hid hs
            have hne : (!c == c0) = true := by cases c <;> cases c0 <;> simp_all
            clear hs he
            go_wp2
            go_quiet (fail)
            go_wp2
            go_ret
            exact ⟨by rw [HS.out]; rfl, below_drewN hB _⟩
        · clear hc
          go_wp2
          go_ret
          refine ⟨?_, hB⟩
          obtain rfl : k = m := by omega
          rw [stuck_true (by omega) h2.1 h2.2 (fun j hj => ?_)]
          · rfl
          · simp only [Int.toNat_natCast] at hj ⊢
            rw [HA.out j hj]
            exact HC0.out
    · have hs : stuck xs n = false := stuck_no (by omega)
      have HS := Lib.hid hs
      clear hs hc
      by_cases h3 : 1 ≤ n ∧ n ≤ 150
      · have ht : (decide (1 ≤ n) && decide (n ≤ 150)) = true := by simp; omega
        have ht2 : ¬ n ≤ xs.length := by omega
        go_enter Try.func13, Try.ntmps13
        go_wp2_with (first | (go_at_call 32; refine (inRange_any _ _ _ _).mono ?_; rintro e w' ⟨rfl, rfl⟩; rw [ht]) | (go_at_call 31; refine (validSignals_any w lo _ xs hv0).mono ?_; rintro e w' ⟨rfl, rfl⟩))
        go_ret
        exact ⟨by rw [HS.out]; rfl, Below.refl _ _⟩
      · have ht : (decide (1 ≤ n) && decide (n ≤ 150)) = false := by simp; omega
        go_enter Try.func13, Try.ntmps13
        go_wp2_with (first | (go_at_call 32; refine (inRange_any _ _ _ _).mono ?_; rintro e w' ⟨rfl, rfl⟩; rw [ht]) | (go_at_call 31; refine (validSignals_any w lo _ xs hv0).mono ?_; rintro e w' ⟨rfl, rfl⟩))
        go_ret
        exact ⟨by rw [HS.out]; rfl, Below.refl _ _⟩
  · have hs : stuck xs n = false := stuck_no (by omega)
    have HS := Lib.hid hs
    clear hs hc
    go_enter Try.func13, Try.ntmps13
    go_wp2_with (first | (go_at_call 32; refine (inRange_any _ _ _ _).mono ?_; rintro e w' ⟨rfl, rfl⟩) | (go_at_call 31; refine (validSignals_any w lo _ xs hv0).mono ?_; rintro e w' ⟨rfl, rfl⟩))
    go_ret
    exact ⟨by rw [HS.out]; rfl, Below.refl _ _⟩

theorem impl_rises (w : World) (lo : Nat) (v : Value) (xs : List Bool) (hv : Bools w lo v xs) :
    Calls Try.prog 18 #[v] w fun e w' => e = .returned (.int .i64 (rises xs)) ∧ w = w' := by
  obtain ⟨ao, cap, rfl, hcap, hm⟩ := hv.form
  obtain ⟨_, _, _, hc⟩ := hv.cellMap false
  clear hv
  by_cases h1 : xs.length ≤ 150
  · have HS : Hid (rises xs = riseN xs xs.length) := by unfold Hid rises; rw [if_pos h1]
    go_enter Try.func18, Try.ntmps18
    go_wp2
    go_loop [3, 4, 12] (fun r p i => ∃ k : Nat, k ≤ xs.length ∧ i = .int .i64 k ∧ r = .int .i64 (riseN xs k) ∧ p = .bool (prevB xs k)) (fun _ _ i => xs.length - (intOf i).toNat)
    case atStart => exact ⟨0, by omega, rfl, rfl, rfl⟩
    case round =>
      obtain ⟨k, hk, rfl, rfl, rfl⟩ := hrel
      by_cases hlt : k < xs.length
      · have hc2 := hc (by omega)
        clear hc
        obtain ⟨b, off, rfl, _, hb, hc⟩ := hc2
        have hk := hc k (by omega)
        clear hc
        obtain ⟨c, hcc⟩ : ∃ c, c = xs.getD k false := ⟨_, rfl⟩
        rw [← hcc] at hk
        have hle := riseN_le xs k
        have hr : riseN xs (k + 1) = riseN xs k + (if c && !prevB xs k then 1 else 0) := by rw [hcc]; rfl
        have hp : prevB xs (k + 1) = c := by rw [hcc]; simp [prevB]
        have HR := Lib.hid hr
        have HP := Lib.hid hp
        obtain ⟨q, hq⟩ : ∃ q, q = prevB xs k := ⟨_, rfl⟩
        rw [← hq] at HR ⊢
        clear hr hp hcc hq
        cases c <;> cases q
        all_goals
          go_wp2
          go_round
          case rel => exact ⟨k + 1, by omega, by go_num, by (rw [HR.out]; go_num), by rw [HP.out]⟩
          case measure => simp [intOf]; omega
      · clear hc
        go_wp2
        go_ret
        obtain rfl : k = xs.length := by omega
        exact ⟨by rw [HS.out]; rfl, rfl⟩
  · have HS : Hid (rises xs = -1) := by unfold Hid rises; rw [if_neg h1]
    clear hc
    go_enter Try.func18, Try.ntmps18
    go_wp2
    go_ret
    exact ⟨by rw [HS.out]; rfl, rfl⟩

theorem spec_rises (w : World) (lo : Nat) (v : Value) (xs : List Bool) (hv : Bools w lo v xs) :
    Calls Try.prog 17 #[v] w fun e w' => e = .returned (.int .i64 (rises xs)) ∧ w = w' := by
  have hv0 := hv
  obtain ⟨ao, cap, rfl, hcap, hm⟩ := hv.form
  obtain ⟨_, _, _, hc⟩ := hv.cellMap false
  clear hv
  by_cases h1 : (xs.length : Int) ≤ 150
  · have HS : Hid (rises xs = riseN xs xs.length) := by unfold Hid rises; rw [if_pos (by omega)]
    go_enter Try.func17, Try.ntmps17
    go_wp2_with (go_at_call 31; refine (validSignals_any w lo _ xs hv0).mono ?_; rintro e w' ⟨rfl, rfl⟩)
    go_loop [3, 4] (fun r i => ∃ k : Nat, k ≤ xs.length ∧ i = .int .i64 k ∧ r = .int .i64 (riseN xs k)) (fun _ i => xs.length - (intOf i).toNat)
    case atStart => exact ⟨0, by omega, rfl, rfl⟩
    case round =>
      clear hv0
      obtain ⟨k, hk, rfl, rfl⟩ := hrel
      by_cases hlt : k < xs.length
      · have hc2 := hc (by omega)
        clear hc
        obtain ⟨b, off, rfl, _, hb, hc⟩ := hc2
        have hk := hc k (by omega)
        have hle := riseN_le xs k
        obtain ⟨c, hcc⟩ : ∃ c, c = xs.getD k false := ⟨_, rfl⟩
        rw [← hcc] at hk
        have hr : riseN xs (k + 1) = riseN xs k + (if c && !prevB xs k then 1 else 0) := by rw [hcc]; rfl
        have HR := Lib.hid hr
        clear hr hcc
        by_cases hk0 : k = 0
        · subst hk0
          simp only [Nat.add_zero] at hk
          have hb0 := b2i_bd c
          cases c
          all_goals
            clear hc
            go_wp2_with (go_at_call 34; refine (toInt_any _ _).mono ?_; rintro e w' ⟨rfl, rfl⟩)
            go_round
            case rel => exact ⟨0 + 1, by omega, by go_num, by (rw [HR.out]; simp [b2i, prevB])⟩
            case measure => simp [intOf]; omega
        · have hk2 := hc (k - 1) (by omega)
          clear hc
          obtain ⟨q, hq⟩ : ∃ q, q = prevB xs k := ⟨_, rfl⟩
          have hq2 : xs.getD (k - 1) false = q := by rw [hq]; simp [prevB, hk0]
          rw [hq2] at hk2
          rw [← hq] at HR
          clear hq hq2
          have e1 : ((k : Int) - 1).toNat = k - 1 := by omega
          have e0 : ((k : Int) == 0) = false := beq_eq_false_iff_ne.mpr (by omega)
          have hb1 := b2i_bd true
          have hb2 := b2i_bd false
          cases c <;> cases q
          all_goals
            go_wp2_with (go_at_call 34; refine (toInt_any _ _).mono ?_; rintro e w' ⟨rfl, rfl⟩)
            go_round
            case rel => exact ⟨k + 1, by omega, by go_num, by (rw [HR.out]; simp [b2i])⟩
            case measure => simp [intOf]; omega
      · clear hc
        go_wp2
        go_ret
        obtain rfl : k = xs.length := by omega
        exact ⟨by rw [HS.out]; rfl, rfl⟩
  · have HS : Hid (rises xs = -1) := by unfold Hid rises; rw [if_neg (by omega)]
    clear hc
    have ht : decide ((xs.length : Int) ≤ 150) = false := decide_eq_false h1
    go_enter Try.func17, Try.ntmps17
    go_wp2_with (go_at_call 31; refine (validSignals_any w lo _ xs hv0).mono ?_; rintro e w' ⟨rfl, rfl⟩; rw [ht])
    go_ret
    exact ⟨by rw [HS.out]; rfl, rfl⟩

theorem impl_busy (w : World) (lo : Nat) (v : Value) (xs : List Bool) (hv : Bools w lo v xs) :
    Calls Try.prog 20 #[v] w fun e w' => e = .returned (.int .i64 (busy xs)) ∧ w = w' := by
  obtain ⟨ao, cap, rfl, hcap, hm⟩ := hv.form
  obtain ⟨_, _, _, hc⟩ := hv.cellMap false
  clear hv
  by_cases h1 : xs.length ≤ 150
  · by_cases h2 : xs.length = 0
    · have HS : Hid (busy xs = 0) := by unfold Hid busy; rw [if_pos h1, if_pos h2]
      have h20 : ((xs.length : Int) == 0) = true := by rw [h2]; rfl
      have H2 := Lib.hid h2
      clear hc h2
      go_enter Try.func20, Try.ntmps20
      go_wp2
      go_ret
      exact ⟨by rw [HS.out]; rfl, rfl⟩
    · have HS : Hid (busy xs = (1000 * (busyN xs xs.length : Int)) / (xs.length : Int)) := by unfold Hid busy; rw [if_pos h1, if_neg h2]
      have hle0 := busyN_le xs xs.length
      have h20 : ((xs.length : Int) == 0) = false := beq_eq_false_iff_ne.mpr (by omega)
      go_enter Try.func20, Try.ntmps20
      go_wp2
      go_loop [3, 14] (fun r i => ∃ k : Nat, k ≤ xs.length ∧ i = .int .i64 k ∧ r = .int .i64 (busyN xs k)) (fun _ i => xs.length - (intOf i).toNat)
      case atStart => exact ⟨0, by omega, rfl, rfl⟩
      case round =>
        obtain ⟨k, hk, rfl, rfl⟩ := hrel
        by_cases hlt : k < xs.length
        · have hc2 := hc (by omega)
          clear hc
          obtain ⟨b, off, rfl, _, hb, hc⟩ := hc2
          have hk := hc k (by omega)
          clear hc
          obtain ⟨c, hcc⟩ : ∃ c, c = xs.getD k false := ⟨_, rfl⟩
          rw [← hcc] at hk
          have hle := busyN_le xs k
          have hr : busyN xs (k + 1) = busyN xs k + (if c then 1 else 0) := by rw [hcc]; rfl
          have HR := Lib.hid hr
          clear hr hcc
          cases c
          all_goals
            go_wp2
            go_round
            case rel => exact ⟨k + 1, by omega, by go_num, by (rw [HR.out]; go_num)⟩
            case measure => simp [intOf]; omega
        · clear hc
          obtain rfl : k = xs.length := by omega
          go_wp2
          go_ret
          exact ⟨by rw [HS.out]; rfl, rfl⟩
  · have HS : Hid (busy xs = -1) := by unfold Hid busy; rw [if_neg h1]
    clear hc
    go_enter Try.func20, Try.ntmps20
    go_wp2
    go_ret
    exact ⟨by rw [HS.out]; rfl, rfl⟩

theorem spec_busy (w : World) (lo : Nat) (v : Value) (xs : List Bool) (hv : Bools w lo v xs) :
    Calls Try.prog 19 #[v] w fun e w' => e = .returned (.int .i64 (busy xs)) ∧ w = w' := by
  have hv0 := hv
  obtain ⟨ao, cap, rfl, hcap, hm⟩ := hv.form
  obtain ⟨_, _, _, hc⟩ := hv.cellMap false
  clear hv
  by_cases h1 : (xs.length : Int) ≤ 150
  · have HS : Hid (busy xs = if xs.length = 0 then 0 else (1000 * (busyN xs xs.length : Int)) / (xs.length : Int)) := by unfold Hid busy; rw [if_pos (by omega)]
    have hle0 := busyN_le xs xs.length
    go_enter Try.func19, Try.ntmps19
    go_wp2_with (go_at_call 31; refine (validSignals_any w lo _ xs hv0).mono ?_; rintro e w' ⟨rfl, rfl⟩)
    go_loop [3, 4] (fun r i => ∃ k : Nat, k ≤ xs.length ∧ i = .int .i64 k ∧ r = .int .i64 (busyN xs k)) (fun _ i => xs.length - (intOf i).toNat)
    case atStart => exact ⟨0, by omega, rfl, rfl⟩
    case round =>
      clear hv0
      obtain ⟨k, hk, rfl, rfl⟩ := hrel
      by_cases hlt : k < xs.length
      · have hc2 := hc (by omega)
        clear hc
        obtain ⟨b, off, rfl, _, hb, hc⟩ := hc2
        have hk := hc k (by omega)
        clear hc
        obtain ⟨c, hcc⟩ : ∃ c, c = xs.getD k false := ⟨_, rfl⟩
        rw [← hcc] at hk
        have hle := busyN_le xs k
        have hb0 := b2i_bd c
        have hr : busyN xs (k + 1) = busyN xs k + (if c then 1 else 0) := by rw [hcc]; rfl
        have HR := Lib.hid hr
        clear hr hcc
        go_wp2_with (go_at_call 34; refine (toInt_any _ _).mono ?_; rintro e w' ⟨rfl, rfl⟩)
        go_round
        case rel => exact ⟨k + 1, by omega, by go_num, by (rw [HR.out]; cases c <;> simp [b2i])⟩
        case measure => simp [intOf]; omega
      · clear hc
        obtain rfl : k = xs.length := by omega
        by_cases h2 : xs.length = 0
        · have h20 : max (xs.length : Int) 1 = 1 := by omega
          have h21 : ¬ 1 ≤ (xs.length : Int) := by omega
          have H2 := Lib.hid h2
          clear h2
          go_wp2
          go_ret
          exact ⟨ret_int (by rw [HS.out, if_pos H2.out]; have := H2.out; omega), rfl⟩
        · have h20 : max (xs.length : Int) 1 = xs.length := by omega
          go_wp2
          go_ret
          exact ⟨ret_int (by rw [HS.out, if_neg h2]), rfl⟩
  · have HS : Hid (busy xs = -1) := by unfold Hid busy; rw [if_neg (by omega)]
    clear hc
    have ht : decide ((xs.length : Int) ≤ 150) = false := decide_eq_false h1
    go_enter Try.func19, Try.ntmps19
    go_wp2_with (go_at_call 31; refine (validSignals_any w lo _ xs hv0).mono ?_; rintro e w' ⟨rfl, rfl⟩; rw [ht])
    go_ret
    exact ⟨by rw [HS.out]; rfl, rfl⟩

end Go.Proofs.Ytmckkbokebapcaa
