/- The walks of UnfairnessOf, of the program and of the reference. -/
import Derived.Test.YtiiaccigoilddaaFair2
import Derived.Test.YtiiaccigoilddaaFair4
import Derived.Deep.QuietTactic
import Derived.BigQuiet
namespace Go.Proofs.Ytiiaccigoilddaa
open Go.RowKit

theorem implDist_any (a b : Int) (w : World) (ha : 0 ≤ a ∧ a ≤ 1000) (hb : 0 ≤ b ∧ b ≤ 1000) :
    Calls Try.prog 39 #[.int .i64 a, .int .i64 b] w fun e w' => e = .returned (.int .i64 (dist a b)) ∧ w = w' := by
  by_cases h : a < b
  · have HD : Hid (dist a b = b - a) := by unfold Hid dist; rw [if_pos h]
    go_enter Try.func39, Try.ntmps39
    go_wp2
    go_ret
    exact ⟨ret_int (by rw [HD.out]), rfl⟩
  · have HD : Hid (dist a b = a - b) := by unfold Hid dist; rw [if_neg h]
    go_enter Try.func39, Try.ntmps39
    go_wp2
    go_ret
    exact ⟨ret_int (by rw [HD.out]), rfl⟩

theorem specDist_any (a b : Int) (w : World) (ha : 0 ≤ a ∧ a ≤ 1000) (hb : 0 ≤ b ∧ b ≤ 1000) :
    Calls Try.prog 36 #[.int .i64 (a - b)] w fun e w' => e = .returned (.int .i64 (dist a b)) ∧ w = w' := by
  obtain ⟨n, hn⟩ : ∃ n, n = a - b := ⟨_, rfl⟩
  rw [← hn]
  by_cases h : n < 0
  · have HD : Hid (dist a b = -n) := by unfold Hid dist; rw [if_pos (by omega)]; omega
    have hb : -1000 ≤ n := by omega
    clear hn
    go_enter Try.func36, Try.ntmps36
    go_wp2
    go_ret
    exact ⟨ret_int (by rw [HD.out]), rfl⟩
  · have HD : Hid (dist a b = n) := by unfold Hid dist; rw [if_neg (by omega)]; omega
    clear hn
    go_enter Try.func36, Try.ntmps36
    go_wp2
    go_ret
    exact ⟨ret_int (by rw [HD.out]), rfl⟩

theorem sumOf_any (w : World) (lo : Nat) (v : Value) (xs : List Int) (hv : Ints w lo v xs) (hval : validW xs = true) :
    Calls Try.prog 38 #[v] w fun e w' => e = .returned (.int .i64 xs.sum) ∧ w = w' := by
  obtain ⟨ao, cap, rfl, hcap, hm⟩ := hv.form
  have HV := Lib.hid hv
  have HL : Hid (∀ x ∈ xs, 0 ≤ x ∧ x ≤ 999) := (validW_iff.1 hval).2
  have h60 := (validW_iff.1 hval).1
  clear hv hval
  go_enter Try.func38, Try.ntmps38
  go_wp2
  go_loop [3, 8] (fun t i => ∃ k : Nat, k ≤ xs.length ∧ i = .int .i64 k ∧ t = .int .i64 (xs.take k).sum) (fun _ i => xs.length - (intOf i).toNat)
  case atStart => exact ⟨0, Nat.zero_le _, rfl, by simp⟩
  case round =>
    obtain ⟨k, hk, rfl, rfl⟩ := hrel
    by_cases hlt : k < xs.length
    · obtain ⟨b0, off, rfl, _, hb, hc⟩ := HV.out.spot 0 (by omega)
      have hck := hc k hlt
      clear hc
      have hx1 := HL.out _ (getD_mem hlt)
      have hs1 := sum_nonneg (a := xs.take k) (fun y hy => HL.out y (List.mem_of_mem_take hy))
      have hlen : (xs.take k).length ≤ 60 := by have := List.length_take_le' k xs; omega
      have HS := Lib.hid (sum_succ hlt)
      obtain ⟨s, hs⟩ : ∃ s, s = (xs.take k).sum := ⟨_, rfl⟩
      rw [← hs] at HS hs1 ⊢
      obtain ⟨x, hx⟩ : ∃ x, x = xs.getD k 0 := ⟨_, rfl⟩
      rw [← hx] at hck HS hx1
      clear hs hx
      have hs2 : s ≤ 100000 := by omega
      clear hlen
      go_wp2
      go_round
      case rel => exact ⟨k + 1, by omega, by go_num, by rw [HS.out]⟩
      case measure => simp [intOf]; omega
    · have HT : Hid (xs.take k = xs) := List.take_of_length_le (by omega)
      go_wp2
      go_ret
      exact ⟨by rw [HT.out]; rfl, rfl⟩

theorem specSum_any (w : World) (lo : Nat) (v : Value) (xs : List Int) (hv : Ints w lo v xs) (hval : validW xs = true) :
    Calls Try.prog 37 #[v] w fun e w' => e = .returned (.int .i64 xs.sum) ∧ w = w' := by
  obtain ⟨ao, cap, rfl, hcap, hm⟩ := hv.form
  have HV := Lib.hid hv
  have HL : Hid (∀ x ∈ xs, 0 ≤ x ∧ x ≤ 999) := (validW_iff.1 hval).2
  have h60 := (validW_iff.1 hval).1
  clear hv hval
  go_enter Try.func37, Try.ntmps37
  go_wp2
  go_loop [3, 4] (fun t i => ∃ k : Nat, k ≤ xs.length ∧ i = .int .i64 k ∧ t = .int .i64 (xs.take k).sum) (fun _ i => xs.length - (intOf i).toNat)
  case atStart => exact ⟨0, Nat.zero_le _, rfl, by simp⟩
  case round =>
    obtain ⟨k, hk, rfl, rfl⟩ := hrel
    by_cases hlt : k < xs.length
    · obtain ⟨b0, off, rfl, _, hb, hc⟩ := HV.out.spot 0 (by omega)
      have hck := hc k hlt
      clear hc
      have hx1 := HL.out _ (getD_mem hlt)
      have hs1 := sum_nonneg (a := xs.take k) (fun y hy => HL.out y (List.mem_of_mem_take hy))
      have hlen : (xs.take k).length ≤ 60 := by have := List.length_take_le' k xs; omega
      have HS := Lib.hid (sum_succ hlt)
      obtain ⟨s, hs⟩ : ∃ s, s = (xs.take k).sum := ⟨_, rfl⟩
      rw [← hs] at HS hs1 ⊢
      obtain ⟨x, hx⟩ : ∃ x, x = xs.getD k 0 := ⟨_, rfl⟩
      rw [← hx] at hck HS hx1
      clear hs hx
      have hs2 : s ≤ 100000 := by omega
      clear hlen
      go_wp2
      go_round
      case rel => exact ⟨k + 1, by omega, by go_num, by rw [HS.out]⟩
      case measure => simp [intOf]; omega
    · have HT : Hid (xs.take k = xs) := List.take_of_length_le (by omega)
      go_wp2
      go_ret
      exact ⟨by rw [HT.out]; rfl, rfl⟩

theorem impl_unfair (w : World) (lo : Nat) (v : Value) (xs : List Int) (hv : Ints w lo v xs) :
    Calls Try.prog 26 #[v] w fun e w' => e = .returned (.int .i64 (unfair xs)) ∧ w = w' := by
  have hv0 := hv
  obtain ⟨ao, cap, rfl, hcap, hm⟩ := hv.form
  have HV := Lib.hid hv
  clear hv
  cases hval : validW xs
  · have HS : Hid (unfair xs = -1) := by unfold Hid unfair; simp [hval]
    go_enter Try.func26, Try.ntmps26
    go_wp2_with (go_at_call 29; refine (impl_validWaits _ _ _ xs hv0).mono ?_; rintro e w' ⟨rfl, rfl⟩; rw [hval])
    go_ret
    exact ⟨by rw [HS.out]; rfl, rfl⟩
  · obtain ⟨h60, hall⟩ := validW_iff.1 hval
    have HL := Lib.hid hall
    have hsum := sum_nonneg hall
    clear hall
    have hs2 : xs.sum ≤ 60000 := by omega
    have hq1 : 0 ≤ (xs.length : Int) * xs.sum := Int.mul_nonneg (by omega) hsum.1
    have hq2 : (xs.length : Int) * xs.sum ≤ 60 * 60000 := Int.mul_le_mul (by omega) hs2 hsum.1 (by omega)
    have hd := dN_bd hval
    by_cases hz : xs.sum = 0
    · have HS : Hid (unfair xs = 0) := by unfold Hid unfair; simp [hval, hz]
      have hz2 : ((xs.length : Int) * xs.sum == 0) = true := by rw [hz]; simp
      have HZ := Lib.hid hz
      clear hz
      go_enter Try.func26, Try.ntmps26
      go_wp2_with (first | (go_at_call 29; refine (impl_validWaits _ _ _ xs hv0).mono ?_; rintro e w' ⟨rfl, rfl⟩; rw [hval]) | (go_at_call 38; refine (sumOf_any _ _ _ xs hv0 hval).mono ?_; rintro e w' ⟨rfl, rfl⟩))
      go_ret
      exact ⟨by rw [HS.out]; rfl, rfl⟩
    · have hn0 : 0 < xs.length := by
        rcases Nat.eq_zero_or_pos xs.length with h | h
        · exfalso; apply hz; rw [List.eq_nil_of_length_eq_zero h]; rfl
        · exact h
      have hpos : 1 ≤ (xs.length : Int) * xs.sum := by
        have : 0 < (xs.length : Int) * xs.sum := Int.mul_pos (by omega) (by omega)
        omega
      have HS : Hid (unfair xs = (1000 * dsum xs) / (xs.length * xs.sum)) := by unfold Hid unfair; rw [if_pos hval, if_neg hz]
      have hz2 : ((xs.length : Int) * xs.sum == 0) = false := beq_eq_false_iff_ne.mpr (by omega)
      have HB : Hid (∀ i k, i ≤ xs.length → k ≤ i → i < xs.length → 0 ≤ dN xs i ∧ dN xs i ≤ 59940 * i ∧ 0 ≤ rsum (xs.getD i 0) (xs.take k) ∧ rsum (xs.getD i 0) (xs.take k) ≤ 59940) := loop_bd hval
      clear hz
      go_enter Try.func26, Try.ntmps26
      go_wp2_with (first | (go_at_call 29; refine (impl_validWaits _ _ _ xs hv0).mono ?_; rintro e w' ⟨rfl, rfl⟩; rw [hval]) | (go_at_call 38; refine (sumOf_any _ _ _ xs hv0 hval).mono ?_; rintro e w' ⟨rfl, rfl⟩))
      obtain ⟨M, hM⟩ : ∃ M, M = (xs.length : Int) * xs.sum := ⟨_, rfl⟩
      rw [← hM] at hq1 hq2 hpos hz2 HS ⊢
      clear hM hv0
      obtain ⟨b0, off, rfl, _, hb, hc⟩ := HV.out.spot 0 hn0
      have HC := Lib.hid hc
      clear hc
      go_loop [4, 21] (fun d i => ∃ k : Nat, k ≤ xs.length ∧ i = .int .i64 k ∧ d = .int .i64 (dN xs k)) (fun _ i => xs.length - (intOf i).toNat)
      case atStart => exact ⟨0, Nat.zero_le _, rfl, rfl⟩
      case round =>
        obtain ⟨i, hi, rfl, rfl⟩ := hrel
        by_cases hlt : i < xs.length
        · have hci := HC.out i hlt
          have hxi := HL.out _ (getD_mem hlt)
          have hbd := HB.out i 0 hi (by omega) hlt
          have HSi := Lib.hid (dN_succ hlt)
          obtain ⟨D, hD⟩ : ∃ D, D = dN xs i := ⟨_, rfl⟩
          rw [← hD] at HSi hbd ⊢
          obtain ⟨x, hx⟩ : ∃ x, x = xs.getD i 0 := ⟨_, rfl⟩
          rw [← hx] at hci HSi hxi hbd
          have HX := Lib.hid hx
          have HDD := Lib.hid hD
          clear hx hD
          have hbd1 := hbd.1
          have hbd2 : D ≤ 4000000 := by omega
          clear hbd
          go_wp2
          go_loop [4, 30] (fun d j => ∃ k : Nat, k ≤ i ∧ j = .int .i64 k ∧ d = .int .i64 (D + rsum x (xs.take k))) (fun _ j => i - (intOf j).toNat)
          case atStart => exact ⟨0, Nat.zero_le _, rfl, by simp [rsum]⟩
          case round =>
            obtain ⟨k, hk, rfl, rfl⟩ := hrel
            by_cases hkl : k < i
            · have hck := HC.out k (by omega)
              have hyk := HL.out _ (getD_mem (xs := xs) (k := k) (by omega))
              have hbk := HB.out i k hi hk hlt
              rw [← HX.out] at hbk
              have HSk := Lib.hid (rsum_succ (x := x) (xs := xs) (k := k) (by omega))
              have hdn := dist_nonneg x (xs.getD k 0)
              have hdl : dist x (xs.getD k 0) ≤ 1000 := by unfold dist; split <;> omega
              obtain ⟨R, hR⟩ : ∃ R, R = rsum x (xs.take k) := ⟨_, rfl⟩
              rw [← hR] at HSk hbk ⊢
              obtain ⟨y, hy⟩ : ∃ y, y = xs.getD k 0 := ⟨_, rfl⟩
              rw [← hy] at hck hyk HSk hdn hdl
              clear hR hy
              have hb3 := hbk.2.2.1
              have hb4 := hbk.2.2.2
              clear hbk
              go_wp2_with (go_at_call 39; refine (implDist_any x y _ (by omega) (by omega)).mono ?_; rintro e w' ⟨rfl, rfl⟩)
              go_round
              case rel => exact ⟨k + 1, by omega, by go_num, by (rw [HSk.out]; go_num)⟩
              case measure => simp [intOf]; omega
            · obtain rfl : k = i := by omega
              go_wp2
              go_round
              case rel => exact ⟨k + 1, by omega, by go_num, by rw [HSi.out]⟩
              case measure => simp [intOf]; omega
        · obtain rfl : i = xs.length := by omega
          have hT : dN xs xs.length = dsum xs := by unfold dN; rw [List.take_length]
          rw [hT]
          have HT := Lib.hid hT
          clear hT
          go_wp2
          go_ret
          exact ⟨ret_int (by rw [HS.out]), rfl⟩

theorem spec_unfair (w : World) (lo : Nat) (v : Value) (xs : List Int) (hv : Ints w lo v xs) :
    Calls Try.prog 25 #[v] w fun e w' => e = .returned (.int .i64 (unfair xs)) ∧ Below w.heap.size w w' := by
  have hv0 := hv
  obtain ⟨ao, cap, rfl, hcap, hm⟩ := hv.form
  have HV := Lib.hid hv
  clear hv
  cases hval : validW xs
  · have HS : Hid (unfair xs = -1) := by unfold Hid unfair; simp [hval]
    go_enter Try.func25, Try.ntmps25
    go_wp2_with (go_at_call 28; refine (spec_validWaits _ _ _ xs hv0).mono ?_; rintro e w' ⟨rfl, rfl⟩; rw [hval])
    go_ret
    exact ⟨by rw [HS.out]; rfl, Below.refl _ _⟩
  · obtain ⟨h60, hall⟩ := validW_iff.1 hval
    have HL := Lib.hid hall
    have hsum := sum_nonneg hall
    clear hall
    have hs2 : xs.sum ≤ 60000 := by omega
    have hq1 : 0 ≤ (xs.length : Int) * xs.sum := Int.mul_nonneg (by omega) hsum.1
    have hq2 : (xs.length : Int) * xs.sum ≤ 60 * 60000 := Int.mul_le_mul (by omega) hs2 hsum.1 (by omega)
    have hd := dN_bd hval
    have HS : Hid (unfair xs = if xs.sum = 0 then 0 else (1000 * dsum xs) / (xs.length * xs.sum)) := by unfold Hid unfair; rw [if_pos hval]
    have HB : Hid (∀ i k, i ≤ xs.length → k ≤ i → i < xs.length → 0 ≤ dN xs i ∧ dN xs i ≤ 59940 * i ∧ 0 ≤ rsum (xs.getD i 0) (xs.take k) ∧ rsum (xs.getD i 0) (xs.take k) ≤ 59940) := loop_bd hval
    go_enter Try.func25, Try.ntmps25
    go_wp2_with (first | (go_at_call 28; refine (spec_validWaits _ _ _ xs hv0).mono ?_; rintro e w' ⟨rfl, rfl⟩; rw [hval]))
    go_loopw [3, 4] (fun d i wo => ∃ k : Nat, k ≤ xs.length ∧ i = .int .i64 k ∧ d = .int .i64 (dN xs k) ∧ Below w.heap.size w wo) (fun _ i _ => xs.length - (intOf i).toNat)
    case atStart => exact ⟨0, Nat.zero_le _, rfl, rfl, Below.refl _ _⟩
    case round =>
      clear hv0
      obtain ⟨i, hi, rfl, rfl, hB⟩ := hrel
      by_cases hlt : i < xs.length
      · obtain ⟨b0, off, rfl, _, hb, hc⟩ := HV.out.spot 0 (by omega)
        have HC := Lib.hid hc
        clear hc
        have hxi := HL.out _ (getD_mem hlt)
        have hbd := HB.out i 0 hi (by omega) hlt
        have HSi := Lib.hid (dN_succ hlt)
        have hci0 := HC.out i hlt
        obtain ⟨D, hD⟩ : ∃ D, D = dN xs i := ⟨_, rfl⟩
        rw [← hD] at HSi hbd ⊢
        obtain ⟨x, hx⟩ : ∃ x, x = xs.getD i 0 := ⟨_, rfl⟩
        rw [← hx] at hci0 HSi hxi hbd
        have HX := Lib.hid hx
        have HDD := Lib.hid hD
        have HCI := Lib.hid hci0
        clear hx hD hci0
        have hbd1 := hbd.1
        have hbd2 : D ≤ 4000000 := by omega
        clear hbd
        go_wp2
        obtain ⟨wo, hwo⟩ : ∃ wo : World, wo = wr := ⟨_, rfl⟩
        subst hwo
        go_loopw [3, 5] (fun d j wi => ∃ k : Nat, k ≤ i ∧ j = .int .i64 k ∧ d = .int .i64 (D + rsum x (xs.take k)) ∧ Below w.heap.size w wi) (fun _ j _ => i - (intOf j).toNat)
        case atStart => exact ⟨0, Nat.zero_le _, rfl, by simp [rsum], hB⟩
        case round =>
          clear hB
          obtain ⟨k, hk, rfl, rfl, hB⟩ := hrel
          by_cases hkl : k < i
          · have hck := HC.out k (by omega)
            have hci := HCI.out
            have hyk := HL.out _ (getD_mem (xs := xs) (k := k) (by omega))
            have hbk := HB.out i k hi hk hlt
            rw [← HX.out] at hbk
            have HSk := Lib.hid (rsum_succ (x := x) (xs := xs) (k := k) (by omega))
            have hdn := dist_nonneg x (xs.getD k 0)
            have hdl : dist x (xs.getD k 0) ≤ 1000 := by unfold dist; split <;> omega
            obtain ⟨R, hR⟩ : ∃ R, R = rsum x (xs.take k) := ⟨_, rfl⟩
            rw [← hR] at HSk hbk ⊢
            obtain ⟨y, hy⟩ : ∃ y, y = xs.getD k 0 := ⟨_, rfl⟩
            rw [← hy, ← hB.cell (p := ⟨b0, off + k, none⟩) hb] at hck
            rw [← hB.cell (p := ⟨b0, off + i, none⟩) hb] at hci
            rw [← hy] at hyk HSk hdn hdl
            clear hR hy
            have hb3 := hbk.2.2.1
            have hb4 := hbk.2.2.2
            clear hbk
            have hw1 : IntKind.i64.wrap (x - y) = x - y := IntWalk.i64_in _ (by omega)
            have hil : i < xs.length := hlt
            have hkl2 : k < xs.length := by omega
            go_wp2
            go_quiet ((go_at_call 36; exact quiet_eq (specDist_any x y _ (by omega) (by omega))))
            go_wp2
            go_roundw
            case rel => exact ⟨k + 1, by omega, by go_num, by (rw [HSk.out]; go_num), below_drewN hB _⟩
            case measure => simp [intOf]; omega
          · obtain rfl : k = i := by omega
            go_wp2
            go_roundw
            case rel => exact ⟨k + 1, by omega, by go_num, by rw [HSi.out], hB⟩
            case measure => simp [intOf]; omega
      · obtain rfl : i = xs.length := by omega
        have hT : dN xs xs.length = dsum xs := by unfold dN; rw [List.take_length]
        rw [hT]
        have HT := Lib.hid hT
        clear hT
        have hv5 : Ints _ lo _ xs := Rd.below HV.out hB (Nat.le_refl _) (by decide)
        by_cases hz : xs.sum = 0
        · have hz2 : (xs.sum == 0) = true := by rw [hz]; rfl
          have HZ := Lib.hid hz
          clear hz
          go_wp2_with (go_at_call 37; refine (specSum_any _ _ _ xs hv5 hval).mono ?_; rintro e w' ⟨rfl, rfl⟩)
          go_ret
          exact ⟨by rw [HS.out, if_pos HZ.out]; rfl, hB⟩
        · have hn0 : 0 < xs.length := by
            rcases Nat.eq_zero_or_pos xs.length with h | h
            · exfalso; apply hz; rw [List.eq_nil_of_length_eq_zero h]; rfl
            · exact h
          have hpos : 1 ≤ (xs.length : Int) * xs.sum := by
            have : 0 < (xs.length : Int) * xs.sum := Int.mul_pos (by omega) (by omega)
            omega
          have hz2 : (xs.sum == 0) = false := beq_eq_false_iff_ne.mpr hz
          have HZ := Lib.hid hz
          clear hz
          go_wp2_with (go_at_call 37; refine (specSum_any _ _ _ xs hv5 hval).mono ?_; rintro e w' ⟨rfl, rfl⟩)
          go_ret
          exact ⟨ret_int (by rw [HS.out, if_neg HZ.out]), hB⟩
end Go.Proofs.Ytiiaccigoilddaa
