/- The walks of LongestWait, ShareWithin, WaitRank, of the program and of the reference. -/
import Derived.Test.YtiiaccigoilddaaFair1
import Derived.Outline
namespace Go.Proofs.Ytiiaccigoilddaa
open Go.RowKit

theorem impl_validWaits (w : World) (lo : Nat) (v : Value) (xs : List Int) (hv : Ints w lo v xs) :
    Calls Try.prog 29 #[v] w fun e w' => e = .returned (.bool (validW xs)) ∧ w = w' := by
  have hv0 := hv
  obtain ⟨ao, cap, rfl, hcap, hm⟩ := hv.form
  have HV : Hid (validW xs = (decide ((xs.length : Int) ≤ 60) && allB xs 0 999)) := rfl
  by_cases h : (xs.length : Int) ≤ 60
  all_goals
    go_enter Try.func29, Try.ntmps29
    go_wp2_with (go_at_call 41; refine (allWithin_any _ _ _ xs _ _ hv0).mono ?_; rintro e w' ⟨rfl, rfl⟩)
    go_ret
    refine ⟨?_, rfl⟩
    rw [HV.out]
    first | (simp [h]; done) | (simp; intro h'; omega)

theorem spec_validWaits (w : World) (lo : Nat) (v : Value) (xs : List Int) (hv : Ints w lo v xs) :
    Calls Try.prog 28 #[v] w fun e w' => e = .returned (.bool (validW xs)) ∧ w = w' := by
  have hv0 := hv
  obtain ⟨ao, cap, rfl, hcap, hm⟩ := hv.form
  have HV : Hid (validW xs = (decide ((xs.length : Int) ≤ 60) && allB xs 0 999)) := rfl
  by_cases h : (xs.length : Int) ≤ 60
  all_goals
    go_enter Try.func28, Try.ntmps28
    go_wp2_with (go_at_call 40; refine (allIn_any _ _ _ xs _ _ hv0).mono ?_; rintro e w' ⟨rfl, rfl⟩)
    go_ret
    refine ⟨?_, rfl⟩
    rw [HV.out]
    first | (simp [h]; done) | (simp; intro h'; omega)

theorem impl_longest (w : World) (lo : Nat) (v : Value) (xs : List Int) (hv : Ints w lo v xs) :
    Calls Try.prog 15 #[v] w fun e w' => e = .returned (.int .i64 (longest xs)) ∧ w = w' := by
  have hv0 := hv
  obtain ⟨ao, cap, rfl, hcap, hm⟩ := hv.form
  have HV := Lib.hid hv
  clear hv
  cases hval : validW xs
  · have HS : Hid (longest xs = -1) := by unfold Hid longest; simp [hval]
    go_enter Try.func15, Try.ntmps15
    go_wp2_with (go_at_call 29; refine (impl_validWaits _ _ _ xs hv0).mono ?_; rintro e w' ⟨rfl, rfl⟩; rw [hval])
    go_ret
    exact ⟨by rw [HS.out]; rfl, rfl⟩
  · have HS : Hid (longest xs = maxN xs xs.length) := by unfold Hid longest; simp [hval]
    have HB : Hid (∀ k, k ≤ xs.length → 0 ≤ maxN xs k ∧ maxN xs k ≤ 999) := maxN_bd hval
    go_enter Try.func15, Try.ntmps15
    go_wp2_with (go_at_call 29; refine (impl_validWaits _ _ _ xs hv0).mono ?_; rintro e w' ⟨rfl, rfl⟩; rw [hval])
    go_loop [3, 11] (fun m i => ∃ k : Nat, k ≤ xs.length ∧ i = .int .i64 k ∧ m = .int .i64 (maxN xs k)) (fun _ i => xs.length - (intOf i).toNat)
    case atStart => exact ⟨0, Nat.zero_le _, rfl, rfl⟩
    case round =>
      clear hv0
      obtain ⟨k, hk, rfl, rfl⟩ := hrel
      by_cases hlt : k < xs.length
      · obtain ⟨b0, off, rfl, _, hb, hc⟩ := HV.out.spot 0 (by omega)
        have hck := hc k hlt
        clear hc
        have HM : Hid (maxN xs (k + 1) = max (maxN xs k) (xs.getD k 0)) := rfl
        have hbm := HB.out k hk
        obtain ⟨m, hmm⟩ : ∃ m, m = maxN xs k := ⟨_, rfl⟩
        rw [← hmm] at HM hbm ⊢
        obtain ⟨x, hx⟩ : ∃ x, x = xs.getD k 0 := ⟨_, rfl⟩
        rw [← hx] at hck HM
        clear hx hmm
        by_cases hmx : m < x
        · have e : max m x = x := by omega
          have HM2 : Hid (maxN xs (k + 1) = x) := by unfold Hid; rw [HM.out]; exact e
          clear HM e
          go_wp2
          go_round
          case rel => exact ⟨k + 1, by omega, by go_num, by rw [HM2.out]⟩
          case measure => simp [intOf]; omega
        · have e : max m x = m := by omega
          have HM2 : Hid (maxN xs (k + 1) = m) := by unfold Hid; rw [HM.out]; exact e
          clear HM e
          go_wp2
          go_round
          case rel => exact ⟨k + 1, by omega, by go_num, by rw [HM2.out]⟩
          case measure => simp [intOf]; omega
      · obtain rfl : k = xs.length := by omega
        go_wp2
        go_ret
        exact ⟨by rw [HS.out]; rfl, rfl⟩

theorem spec_longest (w : World) (lo : Nat) (v : Value) (xs : List Int) (hv : Ints w lo v xs) :
    Calls Try.prog 13 #[v] w fun e w' => e = .returned (.int .i64 (longest xs)) ∧ w = w' := by
  have hv0 := hv
  obtain ⟨ao, cap, rfl, hcap, hm⟩ := hv.form
  have HV := Lib.hid hv
  clear hv
  cases hval : validW xs
  · have HS : Hid (longest xs = -1) := by unfold Hid longest; simp [hval]
    go_enter Try.func13, Try.ntmps13
    go_wp2_with (go_at_call 28; refine (spec_validWaits _ _ _ xs hv0).mono ?_; rintro e w' ⟨rfl, rfl⟩; rw [hval])
    go_ret
    exact ⟨by rw [HS.out]; rfl, rfl⟩
  · have HS : Hid (longest xs = maxN xs xs.length) := by unfold Hid longest; simp [hval]
    have HB : Hid (∀ k, k ≤ xs.length → 0 ≤ maxN xs k ∧ maxN xs k ≤ 999) := maxN_bd hval
    go_enter Try.func13, Try.ntmps13
    go_wp2_with (go_at_call 28; refine (spec_validWaits _ _ _ xs hv0).mono ?_; rintro e w' ⟨rfl, rfl⟩; rw [hval])
    go_loop [3, 4] (fun m i => ∃ k : Nat, k ≤ xs.length ∧ i = .int .i64 k ∧ m = .int .i64 (maxN xs k)) (fun _ i => xs.length - (intOf i).toNat)
    case atStart => exact ⟨0, Nat.zero_le _, rfl, rfl⟩
    case round =>
      clear hv0
      obtain ⟨k, hk, rfl, rfl⟩ := hrel
      by_cases hlt : k < xs.length
      · obtain ⟨b0, off, rfl, _, hb, hc⟩ := HV.out.spot 0 (by omega)
        have hck := hc k hlt
        clear hc
        have HM : Hid (maxN xs (k + 1) = max (maxN xs k) (xs.getD k 0)) := rfl
        have hbm := HB.out k hk
        obtain ⟨m, hmm⟩ : ∃ m, m = maxN xs k := ⟨_, rfl⟩
        rw [← hmm] at HM hbm ⊢
        obtain ⟨x, hx⟩ : ∃ x, x = xs.getD k 0 := ⟨_, rfl⟩
        rw [← hx] at hck HM
        clear hx hmm
        by_cases hmx : m < x
        · have e : max m x = x := by omega
          have HM2 : Hid (maxN xs (k + 1) = x) := by unfold Hid; rw [HM.out]; exact e
          clear HM e
          go_wp2
          go_round
          case rel => exact ⟨k + 1, by omega, by go_num, by rw [HM2.out]⟩
          case measure => simp [intOf]; omega
        · have e : max m x = m := by omega
          have HM2 : Hid (maxN xs (k + 1) = m) := by unfold Hid; rw [HM.out]; exact e
          clear HM e
          go_wp2
          go_round
          case rel => exact ⟨k + 1, by omega, by go_num, by rw [HM2.out]⟩
          case measure => simp [intOf]; omega
      · obtain rfl : k = xs.length := by omega
        go_wp2
        go_ret
        exact ⟨by rw [HS.out]; rfl, rfl⟩

theorem impl_share (w : World) (lo : Nat) (v : Value) (xs : List Int) (l : Int) (hv : Ints w lo v xs) :
    Calls Try.prog 20 #[v, .int .i64 l] w fun e w' => e = .returned (.int .i64 (share xs l)) ∧ w = w' := by
  have hv0 := hv
  obtain ⟨ao, cap, rfl, hcap, hm⟩ := hv.form
  have HV := Lib.hid hv
  clear hv
  cases hval : validW xs
  · have HS : Hid (share xs l = -1) := by unfold Hid share; simp [hval]
    go_enter Try.func20, Try.ntmps20
    go_wp2_with (go_at_call 29; refine (impl_validWaits _ _ _ xs hv0).mono ?_; rintro e w' ⟨rfl, rfl⟩; rw [hval])
    go_ret
    exact ⟨by rw [HS.out]; rfl, rfl⟩
  · by_cases h0 : xs.length = 0
    · have HS : Hid (share xs l = 1000) := by unfold Hid share; rw [if_pos hval, if_pos h0]
      have h00 : ((xs.length : Int) == 0) = true := by rw [h0]; rfl
      have H0 := Lib.hid h0
      clear h0
      go_enter Try.func20, Try.ntmps20
      go_wp2_with (go_at_call 29; refine (impl_validWaits _ _ _ xs hv0).mono ?_; rintro e w' ⟨rfl, rfl⟩; rw [hval])
      go_ret
      exact ⟨by rw [HS.out]; rfl, rfl⟩
    · have HS : Hid (share xs l = (1000 * (cntN xs l xs.length : Int)) / (xs.length : Int)) := by unfold Hid share; rw [if_pos hval, if_neg h0]
      have h00 : ((xs.length : Int) == 0) = false := beq_eq_false_iff_ne.mpr (by omega)
      have h60 : xs.length ≤ 60 := (validW_iff.1 hval).1
      have hle0 := cntN_le xs l xs.length
      go_enter Try.func20, Try.ntmps20
      go_wp2_with (go_at_call 29; refine (impl_validWaits _ _ _ xs hv0).mono ?_; rintro e w' ⟨rfl, rfl⟩; rw [hval])
      go_loop [5, 16] (fun c i => ∃ k : Nat, k ≤ xs.length ∧ i = .int .i64 k ∧ c = .int .i64 (cntN xs l k)) (fun _ i => xs.length - (intOf i).toNat)
      case atStart => exact ⟨0, Nat.zero_le _, rfl, rfl⟩
      case round =>
        clear hv0
        obtain ⟨k, hk, rfl, rfl⟩ := hrel
        by_cases hlt : k < xs.length
        · obtain ⟨b0, off, rfl, _, hb, hc⟩ := HV.out.spot 0 (by omega)
          have hck := hc k hlt
          clear hc
          have HM : Hid (cntN xs l (k + 1) = cntN xs l k + (if xs.getD k 0 ≤ l then 1 else 0)) := rfl
          have hle := cntN_le xs l k
          obtain ⟨x, hx⟩ : ∃ x, x = xs.getD k 0 := ⟨_, rfl⟩
          rw [← hx] at hck HM
          clear hx
          have hb1 := b2i_bd (decide (x ≤ l))
          by_cases hxl : x ≤ l
          · have HM2 : Hid (cntN xs l (k + 1) = cntN xs l k + 1) := by unfold Hid; rw [HM.out, if_pos hxl]
            have hbt := b2i_bd true
            have eb : b2i true = 1 := rfl
            clear HM
            go_wp2
            go_round
            case rel => exact ⟨k + 1, by omega, by go_num, (by rw [HM2.out]; first | done | go_num)⟩
            case measure => simp [intOf]; omega
          · have HM2 : Hid (cntN xs l (k + 1) = cntN xs l k) := by unfold Hid; rw [HM.out, if_neg hxl]; rfl
            have hbt := b2i_bd false
            have eb : b2i false = 0 := rfl
            clear HM
            go_wp2
            go_round
            case rel => exact ⟨k + 1, by omega, by go_num, (by rw [HM2.out]; first | done | go_num)⟩
            case measure => simp [intOf]; omega
        · obtain rfl : k = xs.length := by omega
          go_wp2
          go_ret
          exact ⟨by rw [HS.out]; rfl, rfl⟩

theorem spec_share (w : World) (lo : Nat) (v : Value) (xs : List Int) (l : Int) (hv : Ints w lo v xs) :
    Calls Try.prog 19 #[v, .int .i64 l] w fun e w' => e = .returned (.int .i64 (share xs l)) ∧ w = w' := by
  have hv0 := hv
  obtain ⟨ao, cap, rfl, hcap, hm⟩ := hv.form
  have HV := Lib.hid hv
  clear hv
  cases hval : validW xs
  · have HS : Hid (share xs l = -1) := by unfold Hid share; simp [hval]
    go_enter Try.func19, Try.ntmps19
    go_wp2_with (go_at_call 28; refine (spec_validWaits _ _ _ xs hv0).mono ?_; rintro e w' ⟨rfl, rfl⟩; rw [hval])
    go_ret
    exact ⟨by rw [HS.out]; rfl, rfl⟩
  · by_cases h0 : xs.length = 0
    · have HS : Hid (share xs l = 1000) := by unfold Hid share; rw [if_pos hval, if_pos h0]
      have h00 : ((xs.length : Int) == 0) = true := by rw [h0]; rfl
      have H0 := Lib.hid h0
      clear h0
      go_enter Try.func19, Try.ntmps19
      go_wp2_with (go_at_call 28; refine (spec_validWaits _ _ _ xs hv0).mono ?_; rintro e w' ⟨rfl, rfl⟩; rw [hval])
      go_ret
      exact ⟨by rw [HS.out]; rfl, rfl⟩
    · have HS : Hid (share xs l = (1000 * (cntN xs l xs.length : Int)) / (xs.length : Int)) := by unfold Hid share; rw [if_pos hval, if_neg h0]
      have h00 : ((xs.length : Int) == 0) = false := beq_eq_false_iff_ne.mpr (by omega)
      have h60 : xs.length ≤ 60 := (validW_iff.1 hval).1
      have hle0 := cntN_le xs l xs.length
      go_enter Try.func19, Try.ntmps19
      go_wp2_with (go_at_call 28; refine (spec_validWaits _ _ _ xs hv0).mono ?_; rintro e w' ⟨rfl, rfl⟩; rw [hval])
      go_loop [5, 6] (fun c i => ∃ k : Nat, k ≤ xs.length ∧ i = .int .i64 k ∧ c = .int .i64 (cntN xs l k)) (fun _ i => xs.length - (intOf i).toNat)
      case atStart => exact ⟨0, Nat.zero_le _, rfl, rfl⟩
      case round =>
        clear hv0
        obtain ⟨k, hk, rfl, rfl⟩ := hrel
        by_cases hlt : k < xs.length
        · obtain ⟨b0, off, rfl, _, hb, hc⟩ := HV.out.spot 0 (by omega)
          have hck := hc k hlt
          clear hc
          have HM : Hid (cntN xs l (k + 1) = cntN xs l k + (if xs.getD k 0 ≤ l then 1 else 0)) := rfl
          have hle := cntN_le xs l k
          obtain ⟨x, hx⟩ : ∃ x, x = xs.getD k 0 := ⟨_, rfl⟩
          rw [← hx] at hck HM
          clear hx
          have hb1 := b2i_bd (decide (x ≤ l))
          by_cases hxl : x ≤ l
          · have HM2 : Hid (cntN xs l (k + 1) = cntN xs l k + 1) := by unfold Hid; rw [HM.out, if_pos hxl]
            have hbt := b2i_bd true
            have eb : b2i true = 1 := rfl
            clear HM
            go_wp2_with (go_at_call 32; refine (toInt_any _ _).mono ?_; rintro e w' ⟨rfl, rfl⟩)
            go_round
            case rel => exact ⟨k + 1, by omega, by go_num, (by rw [HM2.out]; first | done | go_num)⟩
            case measure => simp [intOf]; omega
          · have HM2 : Hid (cntN xs l (k + 1) = cntN xs l k) := by unfold Hid; rw [HM.out, if_neg hxl]; rfl
            have hbt := b2i_bd false
            have eb : b2i false = 0 := rfl
            clear HM
            go_wp2_with (go_at_call 32; refine (toInt_any _ _).mono ?_; rintro e w' ⟨rfl, rfl⟩)
            go_round
            case rel => exact ⟨k + 1, by omega, by go_num, (by rw [HM2.out]; first | done | go_num)⟩
            case measure => simp [intOf]; omega
        · obtain rfl : k = xs.length := by omega
          go_wp2
          go_ret
          exact ⟨by rw [HS.out]; rfl, rfl⟩

theorem impl_rank (w : World) (lo : Nat) (v : Value) (xs : List Int) (p : Int) (hv : Ints w lo v xs) :
    Calls Try.prog 23 #[v, .int .i64 p] w fun e w' => e = .returned (.int .i64 (rankW xs p)) ∧ w = w' := by
  have hv0 := hv
  obtain ⟨ao, cap, rfl, hcap, hm⟩ := hv.form
  have HV := Lib.hid hv
  clear hv
  by_cases h0 : xs.length = 0
  · have HS : Hid (rankW xs p = -1) := rank_no (.inl h0)
    have h00 : ((xs.length : Int) == 0) = true := by rw [h0]; rfl
    have H0 := Lib.hid h0
    clear h0
    cases hval : validW xs
    all_goals
      go_enter Try.func23, Try.ntmps23
      go_wp2_with (go_at_call 29; refine (impl_validWaits _ _ _ xs hv0).mono ?_; rintro e w' ⟨rfl, rfl⟩; rw [hval])
      go_ret
      exact ⟨by rw [HS.out]; rfl, rfl⟩
  · have h00 : ((xs.length : Int) == 0) = false := beq_eq_false_iff_ne.mpr (by omega)
    cases hval : validW xs
    · have HS : Hid (rankW xs p = -1) := rank_no (.inr (.inl hval))
      go_enter Try.func23, Try.ntmps23
      go_wp2_with (go_at_call 29; refine (impl_validWaits _ _ _ xs hv0).mono ?_; rintro e w' ⟨rfl, rfl⟩; rw [hval])
      go_ret
      exact ⟨by rw [HS.out]; rfl, rfl⟩
    · by_cases hp : 0 ≤ p ∧ p ≤ 1000
      · have ht : (decide (0 ≤ p) && decide (p ≤ 1000)) = true := by simp; omega
        have HS := Lib.hid (rank_eq hval h0 hp.1 hp.2)
        have HLG : Hid (longest xs = maxN xs xs.length) := by unfold Hid longest; rw [if_pos hval]
        have h60 : xs.length ≤ 60 := (validW_iff.1 hval).1
        have HB : Hid (∀ k, k ≤ xs.length → 0 ≤ rkI xs p k ∧ rkI xs p k ≤ 999) := rkI_bd hval p
        go_enter Try.func23, Try.ntmps23
        go_wp2_with (first | (go_at_call 29; refine (impl_validWaits _ _ _ xs hv0).mono ?_; rintro e w' ⟨rfl, rfl⟩; rw [hval]) | (go_at_call 35; refine (within_any _ _ _ _).mono ?_; rintro e w' ⟨rfl, rfl⟩; rw [ht]) | (go_at_call 15; refine (impl_longest _ _ _ xs hv0).mono ?_; rintro e w' ⟨rfl, rfl⟩; rw [HLG.out]))
        go_loop [5, 25] (fun m i => ∃ k : Nat, k ≤ xs.length ∧ i = .int .i64 k ∧ m = .int .i64 (rkI xs p k)) (fun _ i => xs.length - (intOf i).toNat)
        case atStart => exact ⟨0, Nat.zero_le _, rfl, rfl⟩
        case round =>
          obtain ⟨k, hk, rfl, rfl⟩ := hrel
          by_cases hlt : k < xs.length
          · obtain ⟨b0, off, rfl, _, hb, hc⟩ := HV.out.spot 0 (by omega)
            have hck := hc k hlt
            clear hc
            have HM : Hid (rkI xs p (k + 1) = if xs.getD k 0 < rkI xs p k ∧ p ≤ share xs (xs.getD k 0) then xs.getD k 0 else rkI xs p k) := rfl
            have hbm := HB.out k hk
            obtain ⟨m, hmm⟩ : ∃ m, m = rkI xs p k := ⟨_, rfl⟩
            rw [← hmm] at HM hbm ⊢
            obtain ⟨x, hx⟩ : ∃ x, x = xs.getD k 0 := ⟨_, rfl⟩
            rw [← hx] at hck HM
            clear hx hmm
            by_cases h1 : x < m
            · by_cases h2 : p ≤ share xs x
              · have HM2 : Hid (rkI xs p (k + 1) = x) := by unfold Hid; rw [HM.out, if_pos ⟨h1, h2⟩]
                clear HM
                go_wp2_with (go_at_call 20; refine (impl_share _ _ _ xs x hv0).mono ?_; rintro e w' ⟨rfl, rfl⟩)
                go_round
                case rel => exact ⟨k + 1, by omega, by go_num, by rw [HM2.out]⟩
                case measure => simp [intOf]; omega
              · have HM2 : Hid (rkI xs p (k + 1) = m) := by unfold Hid; rw [HM.out, if_neg (fun h => h2 h.2)]
                clear HM
                go_wp2_with (go_at_call 20; refine (impl_share _ _ _ xs x hv0).mono ?_; rintro e w' ⟨rfl, rfl⟩)
                go_round
                case rel => exact ⟨k + 1, by omega, by go_num, by rw [HM2.out]⟩
                case measure => simp [intOf]; omega
            · have HM2 : Hid (rkI xs p (k + 1) = m) := by unfold Hid; rw [HM.out, if_neg (fun h => h1 h.1)]
              clear HM
              go_wp2_with (go_at_call 20; refine (impl_share _ _ _ xs x hv0).mono ?_; rintro e w' ⟨rfl, rfl⟩)
              go_round
              case rel => exact ⟨k + 1, by omega, by go_num, by rw [HM2.out]⟩
              case measure => simp [intOf]; omega
          · obtain rfl : k = xs.length := by omega
            go_wp2
            go_ret
            exact ⟨by rw [HS.out.1]; rfl, rfl⟩
      · have HS : Hid (rankW xs p = -1) := rank_no (.inr (.inr hp))
        have ht : (decide (0 ≤ p) && decide (p ≤ 1000)) = false := by simp; omega
        clear hp
        go_enter Try.func23, Try.ntmps23
        go_wp2_with (first | (go_at_call 29; refine (impl_validWaits _ _ _ xs hv0).mono ?_; rintro e w' ⟨rfl, rfl⟩; rw [hval]) | (go_at_call 35; refine (within_any _ _ _ _).mono ?_; rintro e w' ⟨rfl, rfl⟩; rw [ht]))
        go_ret
        exact ⟨by rw [HS.out]; rfl, rfl⟩

theorem spec_rank (w : World) (lo : Nat) (v : Value) (xs : List Int) (p : Int) (hv : Ints w lo v xs) :
    Calls Try.prog 22 #[v, .int .i64 p] w fun e w' => e = .returned (.int .i64 (rankW xs p)) ∧ w = w' := by
  have hv0 := hv
  obtain ⟨ao, cap, rfl, hcap, hm⟩ := hv.form
  have HV := Lib.hid hv
  clear hv
  by_cases h0 : xs.length = 0
  · have HS : Hid (rankW xs p = -1) := rank_no (.inl h0)
    have h00 : ((xs.length : Int) == 0) = true := by rw [h0]; rfl
    have H0 := Lib.hid h0
    clear h0
    cases hval : validW xs
    all_goals
      go_enter Try.func22, Try.ntmps22
      go_wp2_with (go_at_call 28; refine (spec_validWaits _ _ _ xs hv0).mono ?_; rintro e w' ⟨rfl, rfl⟩; rw [hval])
      go_ret
      exact ⟨by rw [HS.out]; rfl, rfl⟩
  · have h00 : ((xs.length : Int) == 0) = false := beq_eq_false_iff_ne.mpr (by omega)
    cases hval : validW xs
    · have HS : Hid (rankW xs p = -1) := rank_no (.inr (.inl hval))
      go_enter Try.func22, Try.ntmps22
      go_wp2_with (go_at_call 28; refine (spec_validWaits _ _ _ xs hv0).mono ?_; rintro e w' ⟨rfl, rfl⟩; rw [hval])
      go_ret
      exact ⟨by rw [HS.out]; rfl, rfl⟩
    · by_cases hp : 0 ≤ p ∧ p ≤ 1000
      · have ht : (decide (0 ≤ p) && decide (p ≤ 1000)) = true := by simp; omega
        have HS := Lib.hid (rank_eq hval h0 hp.1 hp.2)
        have HLG : Hid (longest xs = maxN xs xs.length) := by unfold Hid longest; rw [if_pos hval]
        have h60 : xs.length ≤ 60 := (validW_iff.1 hval).1
        have HB : Hid (∀ k, k ≤ xs.length → -1 ≤ rkN xs p k ∧ rkN xs p k ≤ 999) := rkN_bd hval p
        go_enter Try.func22, Try.ntmps22
        go_wp2_with (first | (go_at_call 28; refine (spec_validWaits _ _ _ xs hv0).mono ?_; rintro e w' ⟨rfl, rfl⟩; rw [hval]) | (go_at_call 34; refine (inRange_any _ _ _ _).mono ?_; rintro e w' ⟨rfl, rfl⟩; rw [ht]))
        go_loop [5, 6] (fun m i => ∃ k : Nat, k ≤ xs.length ∧ i = .int .i64 k ∧ m = .int .i64 (rkN xs p k)) (fun _ i => xs.length - (intOf i).toNat)
        case atStart => exact ⟨0, Nat.zero_le _, rfl, rfl⟩
        case round =>
          obtain ⟨k, hk, rfl, rfl⟩ := hrel
          by_cases hlt : k < xs.length
          · obtain ⟨b0, off, rfl, _, hb, hc⟩ := HV.out.spot 0 (by omega)
            have hck := hc k hlt
            clear hc
            have HM : Hid (rkN xs p (k + 1) = if p ≤ share xs (xs.getD k 0) ∧ (rkN xs p k < 0 ∨ xs.getD k 0 < rkN xs p k) then xs.getD k 0 else rkN xs p k) := rfl
            have hbm := HB.out k hk
            obtain ⟨m, hmm⟩ : ∃ m, m = rkN xs p k := ⟨_, rfl⟩
            rw [← hmm] at HM hbm ⊢
            obtain ⟨x, hx⟩ : ∃ x, x = xs.getD k 0 := ⟨_, rfl⟩
            rw [← hx] at hck HM
            clear hx hmm
            by_cases h2 : p ≤ share xs x
            · by_cases h1 : m < 0
              · have HM2 : Hid (rkN xs p (k + 1) = x) := by unfold Hid; rw [HM.out, if_pos ⟨h2, .inl h1⟩]
                clear HM
                go_wp2_with (go_at_call 19; refine (spec_share _ _ _ xs x hv0).mono ?_; rintro e w' ⟨rfl, rfl⟩)
                go_round
                case rel => exact ⟨k + 1, by omega, by go_num, by rw [HM2.out]⟩
                case measure => simp [intOf]; omega
              · by_cases h3 : x < m
                · have HM2 : Hid (rkN xs p (k + 1) = x) := by unfold Hid; rw [HM.out, if_pos ⟨h2, .inr h3⟩]
                  clear HM
                  go_wp2_with (go_at_call 19; refine (spec_share _ _ _ xs x hv0).mono ?_; rintro e w' ⟨rfl, rfl⟩)
                  go_round
                  case rel => exact ⟨k + 1, by omega, by go_num, by rw [HM2.out]⟩
                  case measure => simp [intOf]; omega
                · have HM2 : Hid (rkN xs p (k + 1) = m) := by unfold Hid; rw [HM.out, if_neg (fun h => by rcases h.2 with h | h; exact h1 h; exact h3 h)]
                  clear HM
                  go_wp2_with (go_at_call 19; refine (spec_share _ _ _ xs x hv0).mono ?_; rintro e w' ⟨rfl, rfl⟩)
                  go_round
                  case rel => exact ⟨k + 1, by omega, by go_num, by rw [HM2.out]⟩
                  case measure => simp [intOf]; omega
            · have HM2 : Hid (rkN xs p (k + 1) = m) := by unfold Hid; rw [HM.out, if_neg (fun h => h2 h.1)]
              clear HM
              go_wp2_with (go_at_call 19; refine (spec_share _ _ _ xs x hv0).mono ?_; rintro e w' ⟨rfl, rfl⟩)
              go_round
              case rel => exact ⟨k + 1, by omega, by go_num, by rw [HM2.out]⟩
              case measure => simp [intOf]; omega
          · obtain rfl : k = xs.length := by omega
            go_wp2
            go_ret
            exact ⟨by rw [HS.out.2]; rfl, rfl⟩
      · have HS : Hid (rankW xs p = -1) := rank_no (.inr (.inr hp))
        have ht : (decide (0 ≤ p) && decide (p ≤ 1000)) = false := by simp; omega
        clear hp
        go_enter Try.func22, Try.ntmps22
        go_wp2_with (first | (go_at_call 28; refine (spec_validWaits _ _ _ xs hv0).mono ?_; rintro e w' ⟨rfl, rfl⟩; rw [hval]) | (go_at_call 34; refine (inRange_any _ _ _ _).mono ?_; rintro e w' ⟨rfl, rfl⟩; rw [ht]))
        go_ret
        exact ⟨by rw [HS.out]; rfl, rfl⟩

end Go.Proofs.Ytiiaccigoilddaa
