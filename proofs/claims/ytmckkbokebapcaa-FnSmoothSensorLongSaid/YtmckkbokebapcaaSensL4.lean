/- The laws FnSmoothSensorCalm, FnSmoothSensor, FnSmoothSensorLong, walked. -/
import Derived.Test.YtmckkbokebapcaaSensSm
import Derived.Test.YtmckkbokebapcaaSlB
import Derived.Test.YtmckkbokebapcaaSensD
namespace Go.Proofs.Ytmckkbokebapcaa
open Go.RowKit

set_option maxHeartbeats 1000000 in
theorem fnCalm_walk (w : World) (v : Value) (bs : List UInt8) (hv : Bytes w 0 v bs) :
    Calls Try.prog 10 #[v] w fun e w' => e = .returned (.bool true) ∧ Below w.heap.size w w' := by
  obtain ⟨ao, cap, rfl, hcap, hm⟩ := hv.form
  by_cases hlen : bs.length ≤ 1048576
  · go_enter Try.func10, Try.ntmps10
    go_wp2_with fail
    go_at_call 29
    refine (drawSmooth _ _ bs hv).mono ?_; rintro e w1 ⟨v1, xs, n, rfl, hO, hxs, hn, hB⟩
    clear hv
    have hr : Bools w1 0 v1 xs := hO.rd.mono (Nat.zero_le _)
    clear hO
    go_wp2_with fail
    go_at_call 26
    refine (impl_smooth _ _ xs n hr).mono ?_; rintro e w2 ⟨v2, rfl, hG, hB2⟩
    have hG2 : Bools w2 0 v2 (sm xs n) := hG.rd.mono (Nat.zero_le _)
    have hr2 : Bools w2 0 v1 xs := Rd.below hr hB2 (Nat.le_refl _) (by decide)
    have T2 := hB.trans (hB2.mono hB.size)
    go_wp2_with fail
    go_at_call 25
    refine (spec_smooth _ _ xs n hr2).mono ?_; rintro e w3 ⟨v3, rfl, hS, hB3⟩
    have hG3 : Bools w3 0 v2 (sm xs n) := Rd.below hG2 hB3 (Nat.le_refl _) (by decide)
    have hr3 : Bools w3 0 v1 xs := Rd.below hr2 hB3 (Nat.le_refl _) (by decide)
    have T3 := T2.trans (hB3.mono T2.size)
    go_wp2_with fail
    go_at_call 30
    refine (equalBools_same _ _ _ (sm xs n) hG3 (hS.rd.mono (Nat.zero_le _))).mono ?_; rintro e w4 ⟨rfl, hB4⟩
    have hG4 : Bools w4 0 v2 (sm xs n) := Rd.below hG3 hB4 (Nat.le_refl _) (by decide)
    have hr4 : Bools w4 0 v1 xs := Rd.below hr3 hB4 (Nat.le_refl _) (by decide)
    have T4 := T3.trans (hB4.mono T3.size)
    clear hG hG2 hr2 hB2 hS hG3 hr3 hB3 hB4 T2 T3 hr hB
    obtain ⟨ao1, cap1, rfl, hcap1, hm1⟩ := hr4.form
    obtain ⟨ao2, cap2, rfl, hcap2, hm2⟩ := hG4.form
    by_cases h0 : (sm xs n).length = 0
    · have h00 : (((sm xs n).length : Int) == 0) = true := by rw [h0]; rfl
      have H0 := Lib.hid h0
      clear h0
      go_wp2_with (first
        | (go_at_call 25; refine (spec_smooth _ _ xs n hr4).mono ?_; rintro e w5 ⟨v5, rfl, hS5, hB5⟩)
        | (go_at_call 30; refine (equalBools_same _ _ _ (sm xs n) (Rd.below hG4 hB5 (Nat.le_refl _) (by decide)) (hS5.rd.mono (Nat.zero_le _))).mono ?_; rintro e w6 ⟨rfl, hB6⟩))
      go_ret
      exact ⟨rfl, (T4.trans (hB5.mono T4.size)).trans (hB6.mono (by have := T4.size; have := hB5.size; omega))⟩
    · have h00 : (((sm xs n).length : Int) == 0) = false := beq_eq_false_iff_ne.mpr (by omega)
      obtain ⟨hv1, hv2, hv3⟩ : xs.length ≤ 150 ∧ 1 ≤ n ∧ n ≤ 9 := by
        by_cases h : xs.length ≤ 150 ∧ 1 ≤ n ∧ n ≤ 9
        · exact h
        · exfalso; apply h0; unfold sm; rw [if_neg h]; rfl
      have e : sm xs n = smOut xs n.toNat xs.length := by unfold sm; rw [if_pos ⟨hv1, hv2, hv3⟩]
      have hl : (sm xs n).length = xs.length := by rw [e, smOut_len]
      obtain ⟨b1, off1, rfl, _, _, hc1⟩ := hr4.spot false (by omega)
      obtain ⟨b2, off2, rfl, _, _, hc2⟩ := hG4.spot false (by omega)
      have k1 := hc1 (xs.length - 1) (by omega)
      have k2 := hc2 ((sm xs n).length - 1) (by omega)
      clear hc1 hc2
      obtain ⟨x, hx⟩ : ∃ x, x = xs.getD (xs.length - 1) false := ⟨_, rfl⟩
      obtain ⟨y, hy⟩ : ∃ y, y = (sm xs n).getD ((sm xs n).length - 1) false := ⟨_, rfl⟩
      rw [← hx] at k1
      rw [← hy] at k2
      have hq1 : ((xs.length : Int) - 1).toNat = xs.length - 1 := by omega
      have hq2 : (((sm xs n).length : Int) - 1).toNat = (sm xs n).length - 1 := by omega
      have g1 : 0 ≤ (xs.length : Int) - 1 := by omega
      have g2 : (xs.length : Int) - 1 < xs.length := by omega
      have g3 : 0 ≤ ((sm xs n).length : Int) - 1 := by omega
      have g4 : ((sm xs n).length : Int) - 1 < (sm xs n).length := by omega
      have w1' : IntKind.i64.wrap ((xs.length : Int) - 1) = (xs.length : Int) - 1 := IntWalk.i64_in _ (by omega)
      have w2' : IntKind.i64.wrap (((sm xs n).length : Int) - 1) = ((sm xs n).length : Int) - 1 := IntWalk.i64_in _ (by omega)
      have hcall0 : ∀ (W : World) (v : Value) (c : Bool), stuck xs n = c → Bools W 0 v xs → Calls Try.prog 15 #[v, .int .i64 n] W fun e w' => e = .returned (.bool c) ∧ W = w' := fun W v c h hh => h ▸ impl_stuck W 0 v xs n hh
      have HCALL := Lib.hid hcall0
      clear hcall0
      cases hst : stuck xs n
      · have HE := Lib.hid e; have HL := Lib.hid hl; have HX := Lib.hid hx; have HY := Lib.hid hy
        clear e hl hx hy
        go_wp2
        go_quiet ((go_at_call 15; exact quiet_eq (HCALL.out _ _ _ hst (Rd.drewN hr4 _))))
        go_wp2
        go_ret
        exact ⟨rfl, below_drewN T4 _⟩
      · have hyx : (y == x) = true := by
          obtain ⟨h, rfl⟩ : ∃ m : Nat, n = m := ⟨n.toNat, by omega⟩
          simp only [Int.toNat_natCast] at e
          have := sm_calm xs h (by omega) hst
          rw [hx, hy, hl, e, smOut_getD _ _ _ _ (by omega), show xs.length - 1 + 1 = xs.length by omega, this]
          simp
        have HE := Lib.hid e; have HL := Lib.hid hl; have HX := Lib.hid hx; have HY := Lib.hid hy
        clear e hl hx hy
        go_wp2
        go_quiet ((go_at_call 15; exact quiet_eq (HCALL.out _ _ _ hst (Rd.drewN hr4 _))))
        go_wp2
        go_ret
        exact ⟨rfl, below_drewN T4 _⟩
  · go_enter Try.func10, Try.ntmps10
    go_wp2
    go_ret
    exact ⟨rfl, Below.refl _ _⟩

set_option maxHeartbeats 2000000 in
theorem fnSmooth_walk (w : World) (v : Value) (bs : List UInt8) (hv : Bytes w 0 v bs) :
    Calls Try.prog 11 #[v] w fun e w' => e = .returned (.bool true) ∧ Below w.heap.size w w' := by
  obtain ⟨ao, cap, rfl, hcap, hm⟩ := hv.form
  by_cases hlen : bs.length ≤ 1048576
  · go_enter Try.func11, Try.ntmps11
    go_wp2_with fail
    go_at_call 29
    refine (drawSmooth _ _ bs hv).mono ?_; rintro e w1 ⟨v1, xs, n, rfl, hO, hxs, hn, hB⟩
    clear hv
    have hr : Bools w1 0 v1 xs := hO.rd.mono (Nat.zero_le _)
    clear hO
    go_wp2_with fail
    go_at_call 26
    refine (impl_smooth _ _ xs n hr).mono ?_; rintro e w2 ⟨v2, rfl, hG, hB2⟩
    have hG2 : Bools w2 0 v2 (sm xs n) := hG.rd.mono (Nat.zero_le _)
    have hr2 : Bools w2 0 v1 xs := Rd.below hr hB2 (Nat.le_refl _) (by decide)
    have T2 := hB.trans (hB2.mono hB.size)
    go_wp2_with fail
    go_at_call 25
    refine (spec_smooth _ _ xs n hr2).mono ?_; rintro e w3 ⟨v3, rfl, hS, hB3⟩
    have hG3 : Bools w3 0 v2 (sm xs n) := Rd.below hG2 hB3 (Nat.le_refl _) (by decide)
    have hr3 : Bools w3 0 v1 xs := Rd.below hr2 hB3 (Nat.le_refl _) (by decide)
    have T3 := T2.trans (hB3.mono T2.size)
    go_wp2_with fail
    go_at_call 30
    refine (equalBools_same _ _ _ (sm xs n) hG3 (hS.rd.mono (Nat.zero_le _))).mono ?_; rintro e w4 ⟨rfl, hB4⟩
    have hG4 : Bools w4 0 v2 (sm xs n) := Rd.below hG3 hB4 (Nat.le_refl _) (by decide)
    have hr4 : Bools w4 0 v1 xs := Rd.below hr3 hB4 (Nat.le_refl _) (by decide)
    have T4 := T3.trans (hB4.mono T3.size)
    clear hG hG2 hr2 hB2 hS hG3 hr3 hB3 hB4 T2 T3 hr hB
    obtain ⟨ao1, cap1, rfl, hcap1, hm1⟩ := hr4.form
    obtain ⟨ao2, cap2, rfl, hcap2, hm2⟩ := hG4.form
    by_cases h0 : (sm xs n).length = 0
    · have h00 : (((sm xs n).length : Int) == 0) = true := by rw [h0]; rfl
      have H0 := Lib.hid h0
      clear h0
      go_wp2_with (first
        | (go_at_call 25; refine (spec_smooth _ _ xs n hr4).mono ?_; rintro e w5 ⟨v5, rfl, hS5, hB5⟩)
        | (go_at_call 30; refine (equalBools_same _ _ _ (sm xs n) (Rd.below hG4 hB5 (Nat.le_refl _) (by decide)) (hS5.rd.mono (Nat.zero_le _))).mono ?_; rintro e w6 ⟨rfl, hB6⟩))
      go_ret
      exact ⟨rfl, (T4.trans (hB5.mono T4.size)).trans (hB6.mono (by have := T4.size; have := hB5.size; omega))⟩
    · have h00 : (((sm xs n).length : Int) == 0) = false := beq_eq_false_iff_ne.mpr (by omega)
      obtain ⟨hv1, hv2, hv3⟩ : xs.length ≤ 150 ∧ 1 ≤ n ∧ n ≤ 9 := by
        by_cases h : xs.length ≤ 150 ∧ 1 ≤ n ∧ n ≤ 9
        · exact h
        · exfalso; apply h0; unfold sm; rw [if_neg h]; rfl
      have e : sm xs n = smOut xs n.toNat xs.length := by unfold sm; rw [if_pos ⟨hv1, hv2, hv3⟩]
      have hl : (sm xs n).length = xs.length := by rw [e, smOut_len]
      have hpos : 0 < xs.length := by omega
      clear h0
      have hlaw := sm_law xs n.toNat hv1
      have hone : sm xs 1 = xs := by unfold sm; rw [if_pos ⟨hv1, by omega, by omega⟩]; exact smOut_one xs
      have hk : ∀ k, k < xs.length → (sm xs n).getD k false = prevB (sm xs n) k ∨ (sm xs n).getD k false = xs.getD k false := by
        intro k hk; rw [e]; exact sm_alt xs _ k hk
      rw [← e] at hlaw
      have HK := Lib.hid hk; have HONE := Lib.hid hone; have HL := Lib.hid hl
      have hl1 : ((sm xs n).length : Int) ≤ xs.length := by omega
      have hl2 : (xs.length : Int) ≤ (sm xs n).length := by omega
      have hl3 : (((sm xs n).length : Int) == (xs.length : Int)) = true := by rw [hl]; simp
      clear hk hone e hl
      obtain ⟨b1, off1, rfl, _, hb1, hc1⟩ := hr4.spot false (by omega)
      obtain ⟨b2, off2, rfl, _, hb2, hc2⟩ := hG4.spot false (by omega)
      go_wp2
      go_loopw [6] (fun i wo => ∃ k : Nat, k ≤ xs.length ∧ i = .int .i64 k ∧ Below w4.heap.size w4 wo) (fun i _ => xs.length - (intOf i).toNat)
      case atStart => exact ⟨0, Nat.zero_le _, rfl, Below.refl _ _⟩
      case round =>
        obtain ⟨k, hk, rfl, hB⟩ := hrel
        by_cases hkn : k < xs.length
        · have c1 := hc1 k hkn
          have c2 := hc2 k (by omega)
          have hkk := HK.out k hkn
          have hkl : k < (sm xs n).length := by omega
          have hge : decide (xs.length ≤ k) = false := by simp; omega
          have c3 : 0 < k → w4.cell? ⟨b2, off2 + (k - 1), none⟩ = some (.bool (prevB (sm xs n) k)) := fun h => by
            rw [hc2 (k - 1) (by omega)]; congr 2; unfold prevB; rw [if_neg (by omega)]
          have hp0 : k = 0 → prevB (sm xs n) k = false := fun h => by simp [prevB, h]
          clear hc1 hc2
          obtain ⟨x, hx⟩ : ∃ x, x = xs.getD k false := ⟨_, rfl⟩
          obtain ⟨y, hy⟩ : ∃ y, y = (sm xs n).getD k false := ⟨_, rfl⟩
          obtain ⟨z, hz⟩ : ∃ z, z = prevB (sm xs n) k := ⟨_, rfl⟩
          rw [← hx, ← hy, ← hz] at hkk
          rw [← hx, ← hB.cell (p := ⟨b1, off1 + k, none⟩) hb1] at c1
          rw [← hy, ← hB.cell (p := ⟨b2, off2 + k, none⟩) hb2] at c2
          rw [← hz, ← hB.cell (p := ⟨b2, off2 + (k - 1), none⟩) hb2] at c3
          rw [← hz] at hp0
          clear hx hy hz
          have e1 : ((k : Int) - 1).toNat = k - 1 := by omega
          by_cases hk0 : k = 0
          · have hz0 := hp0 hk0
            have hk1 : ¬ 0 < k := by omega
            have HK0 := Lib.hid hk0
            clear c3 hp0 hk0
            subst hz0
            cases x <;> cases y
            all_goals first
              | (exfalso; revert hkk; decide)
              | skip
            all_goals
              clear hkk
              go_wp2
              go_quiet (fail)
              go_wp2
              go_roundw
              case rel => exact ⟨k + 1, by omega, by go_num, below_drewN hB _⟩
              case measure => simp [intOf]; omega
          · have c3 := c3 (by omega)
            have g1 : 0 ≤ (k : Int) - 1 := by omega
            have g2 : (k : Int) - 1 < (sm xs n).length := by omega
            have w1' : IntKind.i64.wrap ((k : Int) - 1) = (k : Int) - 1 := IntWalk.i64_in _ (by omega)
            clear hp0
            cases x <;> cases y <;> cases z
            all_goals first
              | (exfalso; revert hkk; decide)
              | skip
            all_goals
              clear hkk
              go_wp2
              go_quiet (fail)
              go_wp2
              go_roundw
              case rel => exact ⟨k + 1, by omega, by go_num, below_drewN hB _⟩
              case measure => simp [intOf]; omega
        · clear hc1 hc2
          have hr5 : Bools _ 0 _ xs := Rd.below hr4 hB (Nat.le_refl _) (by decide)
          have hG5 : Bools _ 0 _ (sm xs n) := Rd.below hG4 hB (Nat.le_refl _) (by decide)
          go_wp2_with (first
            | (go_at_call 26; refine (impl_smooth _ _ xs 1 hr5).mono ?_; rintro e w6 ⟨v6, rfl, hS6, hB6⟩; rw [HONE.out] at hS6)
            | (go_at_call 30; refine (equalBools_same _ _ _ xs (hS6.rd.mono (Nat.zero_le _)) (Rd.below hr5 hB6 (Nat.le_refl _) (by decide))).mono ?_; rintro e w7 ⟨rfl, hB7⟩; have h67 := hB6.trans (hB7.mono hB6.size); have hr7 : Bools w7 0 _ xs := Rd.below hr5 h67 (Nat.le_refl _) (by decide); have hG7 : Bools w7 0 _ (sm xs n) := Rd.below hG5 h67 (Nat.le_refl _) (by decide))
            | (go_at_call 18; with_reducible refine (impl_rises _ _ _ xs hr7).mono ?_; rintro e w8 ⟨rfl, rfl⟩)
            | (go_at_call 18; with_reducible refine (impl_rises _ _ _ (sm xs n) hG7).mono ?_; rintro e w8 ⟨rfl, rfl⟩))
          go_ret
          exact ⟨rfl, (T4.trans (hB.mono T4.size)).trans (h67.mono (by have := T4.size; have := hB.size; omega))⟩
  · go_enter Try.func11, Try.ntmps11
    go_wp2
    go_ret
    exact ⟨rfl, Below.refl _ _⟩

set_option maxHeartbeats 2000000 in
theorem fnLong_walk (w : World) (v : Value) (bs : List UInt8) (hv : Bytes w 0 v bs) :
    Calls Try.prog 12 #[v] w fun e w' => e = .returned (.bool true) ∧ Below w.heap.size w w' := by
  obtain ⟨ao, cap, rfl, hcap, hm⟩ := hv.form
  by_cases hlen : bs.length ≤ 1048576
  · go_enter Try.func12, Try.ntmps12
    go_wp2_with fail
    go_at_call 29
    refine (drawSmooth _ _ bs hv).mono ?_; rintro e w1 ⟨v1, xs, n, rfl, hO, hxs, hn, hB⟩
    clear hv
    have hr : Bools w1 0 v1 xs := hO.rd.mono (Nat.zero_le _)
    clear hO
    go_wp2_with fail
    go_at_call 26
    refine (impl_smooth _ _ xs n hr).mono ?_; rintro e w2 ⟨v2, rfl, hG, hB2⟩
    have hG2 : Bools w2 0 v2 (sm xs n) := hG.rd.mono (Nat.zero_le _)
    have hr2 : Bools w2 0 v1 xs := Rd.below hr hB2 (Nat.le_refl _) (by decide)
    have T2 := hB.trans (hB2.mono hB.size)
    go_wp2_with fail
    go_at_call 25
    refine (spec_smooth _ _ xs n hr2).mono ?_; rintro e w3 ⟨v3, rfl, hS, hB3⟩
    have hG3 : Bools w3 0 v2 (sm xs n) := Rd.below hG2 hB3 (Nat.le_refl _) (by decide)
    have hr3 : Bools w3 0 v1 xs := Rd.below hr2 hB3 (Nat.le_refl _) (by decide)
    have T3 := T2.trans (hB3.mono T2.size)
    go_wp2_with fail
    go_at_call 30
    refine (equalBools_same _ _ _ (sm xs n) hG3 (hS.rd.mono (Nat.zero_le _))).mono ?_; rintro e w4 ⟨rfl, hB4⟩
    have hG4 : Bools w4 0 v2 (sm xs n) := Rd.below hG3 hB4 (Nat.le_refl _) (by decide)
    have hr4 : Bools w4 0 v1 xs := Rd.below hr3 hB4 (Nat.le_refl _) (by decide)
    have T4 := T3.trans (hB4.mono T3.size)
    clear hG hG2 hr2 hB2 hS hG3 hr3 hB3 hB4 T2 T3 hr hB
    obtain ⟨ao1, cap1, rfl, hcap1, hm1⟩ := hr4.form
    obtain ⟨ao2, cap2, rfl, hcap2, hm2⟩ := hG4.form
    by_cases h0 : (sm xs n).length = 0
    · have h00 : (((sm xs n).length : Int) == 0) = true := by rw [h0]; rfl
      have H0 := Lib.hid h0
      clear h0
      go_wp2_with (first
        | (go_at_call 25; refine (spec_smooth _ _ xs n hr4).mono ?_; rintro e w5 ⟨v5, rfl, hS5, hB5⟩)
        | (go_at_call 30; refine (equalBools_same _ _ _ (sm xs n) (Rd.below hG4 hB5 (Nat.le_refl _) (by decide)) (hS5.rd.mono (Nat.zero_le _))).mono ?_; rintro e w6 ⟨rfl, hB6⟩))
      go_ret
      exact ⟨rfl, (T4.trans (hB5.mono T4.size)).trans (hB6.mono (by have := T4.size; have := hB5.size; omega))⟩
    · have h00 : (((sm xs n).length : Int) == 0) = false := beq_eq_false_iff_ne.mpr (by omega)
      obtain ⟨hv1, hv2, hv3⟩ : xs.length ≤ 150 ∧ 1 ≤ n ∧ n ≤ 9 := by
        by_cases h : xs.length ≤ 150 ∧ 1 ≤ n ∧ n ≤ 9
        · exact h
        · exfalso; apply h0; unfold sm; rw [if_neg h]; rfl
      have e : sm xs n = smOut xs n.toNat xs.length := by unfold sm; rw [if_pos ⟨hv1, hv2, hv3⟩]
      have hl : (sm xs n).length = xs.length := by rw [e, smOut_len]
      have hpos : 0 < xs.length := by omega
      clear h0
      obtain ⟨h, rfl⟩ : ∃ m : Nat, n = m := ⟨n.toNat, by omega⟩
      clear e hl
      obtain ⟨b1, off1, rfl, _, hb1, hc1⟩ := hr4.spot false (by omega)
      have hO := Own.made w4 [] 4 w4.heap.size 1 0 rfl (Nat.le_refl _) (by decide)
      have hB1 : Below w4.heap.size w4 (w4.alloc (.cells #[] 4)) := (Below.refl _ _).alloc (Nat.le_refl _) _
      go_wp2
      go_loopw [6, 7] (fun v i wo => ∃ k : Nat, k ≤ xs.length ∧ i = .int .i64 k ∧ k * h ≤ 150 ∧ Own wo w4.heap.size 4 1 v (k * h) ((long xs h k).map .bool) ∧ Below w4.heap.size w4 wo) (fun _ i _ => xs.length - (intOf i).toNat)
      case atStart => exact ⟨0, Nat.zero_le _, rfl, by omega, by simpa [long] using hO, hB1⟩
      case round =>
        clear hO hB1
        obtain ⟨k, hk, rfl, hkh, hO, hB⟩ := hrel
        obtain ⟨aoL, capL, rfl, hcL, hmL⟩ := hO.form
        obtain ⟨L, hL⟩ : ∃ L : Nat, L = k * h := ⟨_, rfl⟩
        rw [← hL] at hO hcL hkh ⊢
        have HLL := Lib.hid hL
        clear hL
        have hsz := hB.size
        by_cases hkn : k < xs.length ∧ L + h ≤ 150
        · obtain ⟨hkn, hLh⟩ := hkn
          have hdd : decide ((L : Int) + (h : Int) ≤ 150) = true := decide_eq_true (by omega)
          have hck := hc1 k hkn
          obtain ⟨c, hcc⟩ : ∃ c, c = xs.getD k false := ⟨_, rfl⟩
          rw [← hcc] at hck
          have HC := Lib.hid hcc
          have HC1 := Lib.hid hc1
          clear hcc hc1
          go_wp2
          obtain ⟨wo, hwo⟩ : ∃ wo : World, wo = wr := ⟨_, rfl⟩
          subst hwo
          go_loopw [6, 8] (fun v j wi => ∃ t : Nat, t ≤ h ∧ j = .int .i64 t ∧ Own wi w4.heap.size 4 1 v (L + t) ((long xs h k ++ List.replicate t c).map .bool) ∧ Below w4.heap.size w4 wi) (fun _ j _ => h - (intOf j).toNat)
          case atStart => exact ⟨0, Nat.zero_le _, rfl, by simpa using hO, hB⟩
          case round =>
            clear hO hB hsz
            obtain ⟨t, ht, rfl, hO, hB⟩ := hrel
            have hsz := hB.size
            rw [← hB.cell (p := ⟨b1, off1 + k, none⟩) hb1] at hck
            by_cases hth : t < h
            · go_wp2_with (at_builtin; refine wpList_append_one _ rfl _ _ 22 rfl 4 (.bool false) 1 Try.underlying22 info_bool rfl w4.heap.size _ _ _ rfl hO _ _ rfl rfl (by omega) (by omega) (by omega) ?_; intro v' w2 hO2 hg2 _)
              go_roundw
              case rel => exact ⟨t + 1, by omega, by go_num, by (rw [List.replicate_succ', ← List.append_assoc, List.map_append]; exact hO2), hB.trans (below_of_grownBy hg2 (by omega) (fun x hx => (hO.wblk hx).1))⟩
              case measure => simp [intOf]; omega
            · obtain rfl : t = h := by omega
              have hnext : (k + 1) * t = L + t := by rw [Nat.add_mul, HLL.out]; omega
              have hls : long xs t (k + 1) = long xs t k ++ List.replicate t c := by rw [long_succ, HC.out]
              have HN := Lib.hid hnext; have HS := Lib.hid hls
              clear hnext hls
              go_wp2
              go_roundw
              case rel => exact ⟨k + 1, by omega, by go_num, by (rw [HN.out]; omega), by (rw [HN.out, HS.out]; exact hO), hB⟩
              case measure => simp [intOf]; omega
        · clear hc1
          have hlong : (long xs h k).length = L := by rw [long_len, HLL.out]
          have hr5 := hO.bools hlong
          have hsmv : sm (long xs h k) (h : Int) = sm0 (long xs h k) h := by
            unfold sm sm0; rw [if_pos ⟨by omega, by omega, by omega⟩]; simp
          have hlaw := sm_long xs h k (by omega) (by omega) (by have := HLL.out; omega)
          have HSV := Lib.hid hsmv; have HLW := Lib.hid hlaw; have HLG := Lib.hid hlong
          clear hsmv hlaw hlong hO
          go_wp2_with (first
            | (go_at_call 26; refine (impl_smooth _ _ (long xs h k) h hr5).mono ?_; rintro e w6 ⟨v6, rfl, hS6, hB6⟩; rw [HSV.out] at hS6; have hr6 : Bools w6 0 _ (long xs h k) := Rd.below hr5 hB6 (Nat.le_refl _) (by decide); have hS6' : Bools w6 0 _ (sm0 (long xs h k) h) := hS6.rd.mono (Nat.zero_le _))
            | (go_at_call 18; with_reducible refine (impl_rises _ _ _ _ hS6').mono ?_; rintro e w8 ⟨rfl, rfl⟩; rw [HLW.out])
            | (go_at_call 18; with_reducible refine (impl_rises _ _ _ _ hr6).mono ?_; rintro e w8 ⟨rfl, rfl⟩))
          all_goals
            go_ret
            exact ⟨by simp, T4.trans ((hB.trans (hB6.mono hB.size)).mono T4.size)⟩
  · go_enter Try.func12, Try.ntmps12
    go_wp2
    go_ret
    exact ⟨rfl, Below.refl _ _⟩
end Go.Proofs.Ytmckkbokebapcaa
