/- The laws FnStuckSensor, FnBusyShare, FnCountRises, walked. -/
import Derived.Test.YtmckkbokebapcaaSensD
import Derived.Test.YtmckkbokebapcaaSens2
import Derived.Test.YtmckkbokebapcaaSens3
namespace Go.Proofs.Ytmckkbokebapcaa
open Go.RowKit

theorem absolute_any (n : Int) (w : World) (h1 : -1000000 ≤ n) (h2 : n ≤ 1000000) :
    Calls Try.prog 24 #[.int .i64 n] w fun e w' => (∃ m : Int, e = .returned (.int .i64 m) ∧ (m = n ∨ m = -n) ∧ 0 ≤ m) ∧ w = w' := by
  by_cases h : n < 0
  all_goals
    go_enter Try.func24, Try.ntmps24
    go_wp2
    go_ret
    exact ⟨⟨_, rfl, by omega, by omega⟩, rfl⟩

set_option maxHeartbeats 1000000 in
theorem fnStuck_walk (w : World) (v : Value) (bs : List UInt8) (hv : Bytes w 0 v bs) :
    Calls Try.prog 6 #[v] w fun e w' => e = .returned (.bool true) ∧ Below w.heap.size w w' := by
  obtain ⟨ao, cap, rfl, hcap, hm⟩ := hv.form
  by_cases hlen : bs.length ≤ 1048576
  · go_enter Try.func6, Try.ntmps6
    go_wp2_with fail
    go_at_call 21
    refine (drawStuck _ _ bs hv).mono ?_; rintro e w1 ⟨v1, xs, n, rfl, hO, hxs, hn, hB⟩
    clear hv
    obtain ⟨ao1, cap1, rfl, hcap1, hm1⟩ := hO.form
    have hr : Bools w1 0 _ xs := hO.rd.mono (Nat.zero_le _)
    clear hO
    go_wp2_with fail
    go_at_call 15
    refine (impl_stuck _ _ _ xs n hr).mono ?_; rintro e w2 ⟨rfl, rfl⟩
    go_wp2_with fail
    go_at_call 13
    refine (spec_stuck _ _ _ xs n hr).mono ?_; rintro e w3 ⟨rfl, hB3⟩
    have hr3 := Rd.below hr hB3 (Nat.le_refl _) (by decide)
    have hB3' := hB.trans (hB3.mono hB.size)
    have hne : (!(stuck xs n == stuck xs n)) = false := by simp
    clear hB hB3 hr
    have H1 : Hid (xs.length ≤ 150 → xs.length ≠ 0 → stuck xs 1 = true) := fun a b => stuck_one a b
    cases hs : stuck xs n
    · have HS := Lib.hid hs
      clear hs
      by_cases h0 : xs.length = 0
      · have h00 : ((xs.length : Int) == 0) = true := by rw [h0]; rfl
        have H0 := Lib.hid h0
        clear h0
        go_wp2
        go_ret
        exact ⟨rfl, hB3'⟩
      · have h00 : ((xs.length : Int) == 0) = false := beq_eq_false_iff_ne.mpr (by omega)
        by_cases h1 : xs.length ≤ 150
        · have hs1 := H1.out h1 h0
          clear h0 H1
          go_wp2_with (go_at_call 15; refine (impl_stuck _ _ _ xs 1 hr3).mono ?_; rintro e w2 ⟨rfl, rfl⟩; rw [hs1])
          go_ret
          exact ⟨rfl, hB3'⟩
        · go_wp2
          go_ret
          exact ⟨rfl, hB3'⟩
    · have h1 := (stuck_iff.1 hs).1
      have h0 : xs.length ≠ 0 := by have := (stuck_iff.1 hs); omega
      have h00 : ((xs.length : Int) == 0) = false := beq_eq_false_iff_ne.mpr (by omega)
      have hs1 := H1.out h1 h0
      clear H1
      by_cases hn1 : n = 1
      · have hn10 : (n == 1) = true := by rw [hn1]; rfl
        clear hn1 hs h0
        go_wp2_with (go_at_call 15; refine (impl_stuck _ _ _ xs 1 hr3).mono ?_; rintro e w2 ⟨rfl, rfl⟩; rw [hs1])
        go_ret
        exact ⟨rfl, hB3'⟩
      · have hn10 : (n == 1) = false := beq_eq_false_iff_ne.mpr hn1
        have hs2 := stuck_less hs hn1
        clear hn1 hs h0
        go_wp2_with (go_at_call 15; refine (impl_stuck _ _ _ xs _ hr3).mono ?_; rintro e w2 ⟨rfl, rfl⟩; first | rw [hs2] | rw [hs1])
        go_ret
        exact ⟨rfl, hB3'⟩
  · go_enter Try.func6, Try.ntmps6
    go_wp2
    go_ret
    exact ⟨rfl, Below.refl _ _⟩

set_option maxHeartbeats 1000000 in
theorem fnBusy_walk (w : World) (v : Value) (bs : List UInt8) (hv : Bytes w 0 v bs) :
    Calls Try.prog 7 #[v] w fun e w' => e = .returned (.bool true) ∧ Below w.heap.size w w' := by
  obtain ⟨ao, cap, rfl, hcap, hm⟩ := hv.form
  by_cases hlen : bs.length ≤ 1048576
  · go_enter Try.func7, Try.ntmps7
    go_wp2_with fail
    go_at_call 22
    refine (drawBusy _ _ bs hv).mono ?_; rintro e w1 ⟨v1, xs, rfl, hO, hxs, hB⟩
    clear hv
    obtain ⟨ao1, cap1, rfl, hcap1, hm1⟩ := hO.form
    have hr : Bools w1 0 _ xs := hO.rd.mono (Nat.zero_le _)
    clear hO
    have hbd := busy_bd xs
    by_cases h1 : xs.length ≤ 150
    · have hp : 0 ≤ busy xs := hbd.2.2.1 h1
      have hp1 : busy xs ≤ 1000 := by omega
      have hne : (!(busy xs == busy xs)) = false := by simp
      clear hbd
      go_wp2_with (first | (go_at_call 20; refine (impl_busy _ _ _ xs hr).mono ?_; rintro e w2 ⟨rfl, rfl⟩) | (go_at_call 19; refine (spec_busy _ _ _ xs hr).mono ?_; rintro e w2 ⟨rfl, rfl⟩))
      have hO := Own.made w1 [] 4 w1.heap.size 1 0 rfl (Nat.le_refl _) (by decide)
      have hB1 : Below w1.heap.size w1 (w1.alloc (.cells #[] 4)) := (Below.refl _ _).alloc (Nat.le_refl _) _
      go_loopw [5, 6] (fun v i wo => ∃ k : Nat, k ≤ xs.length ∧ i = .int .i64 k ∧ Own wo w1.heap.size 4 1 v k (((inv xs).take k).map .bool) ∧ Below w1.heap.size w1 wo) (fun _ i _ => xs.length - (intOf i).toNat)
      case atStart => exact ⟨0, Nat.zero_le _, rfl, hO, hB1⟩
      case round =>
        clear hO hB1
        obtain ⟨k, hk, rfl, hO, hB1⟩ := hrel
        have hsz := hB1.size
        have hr' := Rd.below hr hB1 (Nat.le_refl _) (by decide)
        by_cases hkn : k < xs.length
        · obtain ⟨_, _, _, hc⟩ := hr'.cellMap false
          have hc2 := hc (by omega)
          clear hc hr'
          obtain ⟨b, off, rfl, _, hb, hc⟩ := hc2
          have hck := hc k hkn
          clear hc
          obtain ⟨c, hcc⟩ : ∃ c, c = xs.getD k false := ⟨_, rfl⟩
          rw [← hcc] at hck
          have HT := Lib.hid (inv_take hkn)
          have HC := Lib.hid hcc
          clear hcc
          go_wp2_with (at_builtin; refine wpList_append_one _ rfl _ _ 22 rfl 4 (.bool false) 1 Try.underlying22 info_bool rfl w1.heap.size _ _ _ rfl hO _ _ rfl rfl (by omega) (by omega) (by omega) ?_; intro v' w2 hO2 hg2 _)
          go_roundw
          case rel => exact ⟨k + 1, by omega, by go_num, by (rw [HT.out, List.map_append, ← HC.out]; exact hO2), hB1.trans (below_of_grownBy hg2 (by omega) (fun x hx => (hO.wblk hx).1))⟩
          case measure => simp [intOf]; omega
        · have hOr := inv_bools hO (by omega) hk
          clear hO
          obtain ⟨ao2, cap2, rfl, hcap2, hm2⟩ := hOr.form
          have hl2 : (inv xs).length ≤ 150 := by simp [inv]; omega
          have hb2 := busy_bd (inv xs)
          have hp2 : 0 ≤ busy (inv xs) := hb2.2.2.1 hl2
          have hp3 : busy (inv xs) ≤ 1000 := by omega
          clear hb2
          obtain ⟨hA, hC⟩ := busy_law h1
          by_cases h0 : xs.length = 0
          · have hA := hA h0
            have h00 : ((xs.length : Int) == 0) = true := by rw [h0]; rfl
            have H0 := Lib.hid h0
            have hA0 : (busy xs + busy (inv xs) == 0) = true := by rw [hA]; rfl
            clear h0 hA hC
            go_wp2_with (go_at_call 20; refine (impl_busy _ _ _ (inv xs) hOr).mono ?_; rintro e w2 ⟨rfl, rfl⟩)
            go_ret
            exact ⟨rfl, hB.trans (hB1.mono hB.size)⟩
          · have hC := hC h0
            have h00 : ((xs.length : Int) == 0) = false := beq_eq_false_iff_ne.mpr (by omega)
            rcases hC with hC | hC
            · have hA0 : (busy xs + busy (inv xs) == 1000) = true := by rw [hC]; rfl
              clear h0 hA hC
              go_wp2_with (go_at_call 20; refine (impl_busy _ _ _ (inv xs) hOr).mono ?_; rintro e w2 ⟨rfl, rfl⟩)
              go_ret
              exact ⟨rfl, hB.trans (hB1.mono hB.size)⟩
            · have hA1 : (busy xs + busy (inv xs) == 1000) = false := by rw [hC]; rfl
              have hA0 : (busy xs + busy (inv xs) == 999) = true := by rw [hC]; rfl
              clear h0 hA hC
              go_wp2_with (go_at_call 20; refine (impl_busy _ _ _ (inv xs) hOr).mono ?_; rintro e w2 ⟨rfl, rfl⟩)
              go_ret
              exact ⟨rfl, hB.trans (hB1.mono hB.size)⟩
  
    · have hp : busy xs = -1 := hbd.2.2.2 h1
      have hne : (!(busy xs == busy xs)) = false := by simp
      have hp' : busy xs < 0 := by omega
      clear hbd hp
      go_wp2_with (first | (go_at_call 20; refine (impl_busy _ _ _ xs hr).mono ?_; rintro e w2 ⟨rfl, rfl⟩) | (go_at_call 19; refine (spec_busy _ _ _ xs hr).mono ?_; rintro e w2 ⟨rfl, rfl⟩))
      go_ret
      exact ⟨by simp, hB⟩
  · go_enter Try.func7, Try.ntmps7
    go_wp2
    go_ret
    exact ⟨rfl, Below.refl _ _⟩


set_option maxHeartbeats 1000000 in
theorem fnRises_walk (w : World) (v : Value) (bs : List UInt8) (hv : Bytes w 0 v bs) :
    Calls Try.prog 8 #[v] w fun e w' => e = .returned (.bool true) ∧ Below w.heap.size w w' := by
  obtain ⟨ao, cap, rfl, hcap, hm⟩ := hv.form
  by_cases hlen : bs.length ≤ 1048576
  · go_enter Try.func8, Try.ntmps8
    go_wp2_with fail
    go_at_call 23
    refine (drawBools _ _ bs hv).mono ?_; rintro e w1 ⟨v1, xs, rfl, hO, hxs, hB⟩
    clear hv
    obtain ⟨ao1, cap1, rfl, hcap1, hm1⟩ := hO.form
    have hr : Bools w1 0 _ xs := hO.rd.mono (Nat.zero_le _)
    clear hO
    have hbd := rises_bd xs
    by_cases h1 : xs.length ≤ 150
    · have hp : 0 ≤ rises xs := hbd.2.2.1 h1
      have hp1 : rises xs ≤ 1000 := by omega
      have hne : (!(rises xs == rises xs)) = false := by simp
      clear hbd
      go_wp2_with (first | (go_at_call 18; refine (impl_rises _ _ _ xs hr).mono ?_; rintro e w2 ⟨rfl, rfl⟩) | (go_at_call 17; refine (spec_rises _ _ _ xs hr).mono ?_; rintro e w2 ⟨rfl, rfl⟩))
      have hO := Own.made w1 [] 4 w1.heap.size 1 0 rfl (Nat.le_refl _) (by decide)
      have hB1 : Below w1.heap.size w1 (w1.alloc (.cells #[] 4)) := (Below.refl _ _).alloc (Nat.le_refl _) _
      go_loopw [5, 6] (fun v i wo => ∃ k : Nat, k ≤ xs.length ∧ i = .int .i64 k ∧ Own wo w1.heap.size 4 1 v k (((inv xs).take k).map .bool) ∧ Below w1.heap.size w1 wo) (fun _ i _ => xs.length - (intOf i).toNat)
      case atStart => exact ⟨0, Nat.zero_le _, rfl, hO, hB1⟩
      case round =>
        clear hO hB1
        obtain ⟨k, hk, rfl, hO, hB1⟩ := hrel
        have hsz := hB1.size
        have hr' := Rd.below hr hB1 (Nat.le_refl _) (by decide)
        by_cases hkn : k < xs.length
        · obtain ⟨_, _, _, hc⟩ := hr'.cellMap false
          have hc2 := hc (by omega)
          clear hc hr'
          obtain ⟨b, off, rfl, _, hb, hc⟩ := hc2
          have hck := hc k hkn
          clear hc
          obtain ⟨c, hcc⟩ : ∃ c, c = xs.getD k false := ⟨_, rfl⟩
          rw [← hcc] at hck
          have HT := Lib.hid (inv_take hkn)
          have HC := Lib.hid hcc
          clear hcc
          go_wp2_with (at_builtin; refine wpList_append_one _ rfl _ _ 22 rfl 4 (.bool false) 1 Try.underlying22 info_bool rfl w1.heap.size _ _ _ rfl hO _ _ rfl rfl (by omega) (by omega) (by omega) ?_; intro v' w2 hO2 hg2 _)
          go_roundw
          case rel => exact ⟨k + 1, by omega, by go_num, by (rw [HT.out, List.map_append, ← HC.out]; exact hO2), hB1.trans (below_of_grownBy hg2 (by omega) (fun x hx => (hO.wblk hx).1))⟩
          case measure => simp [intOf]; omega
        · have hOr := inv_bools hO (by omega) hk
          clear hO
          obtain ⟨ao2, cap2, rfl, hcap2, hm2⟩ := hOr.form
          have hl2 : (inv xs).length ≤ 150 := by simp [inv]; omega
          have hb2 := rises_bd (inv xs)
          have hp2 : 0 ≤ rises (inv xs) := hb2.2.2.1 hl2
          have hp3 : rises (inv xs) ≤ 1000 := by omega
          clear hb2
          obtain ⟨hA, hC⟩ := rise_law h1
          go_wp2_with (first
            | (go_at_call 18; refine (impl_rises _ _ _ (inv xs) hOr).mono ?_; rintro e w2 ⟨rfl, rfl⟩)
            | (go_at_call 24; refine (absolute_any _ _ (by omega) (by omega)).mono ?_; rintro e w2 ⟨⟨m, rfl, hm3, hm4⟩, rfl⟩; have hm5 : m ≤ 1 := (by omega)))
          go_ret
          exact ⟨rfl, hB.trans (hB1.mono hB.size)⟩
  
    · have hp : rises xs = -1 := hbd.2.2.2 h1
      have hne : (!(rises xs == rises xs)) = false := by simp
      have hp' : rises xs < 0 := by omega
      clear hbd hp
      go_wp2_with (first | (go_at_call 18; refine (impl_rises _ _ _ xs hr).mono ?_; rintro e w2 ⟨rfl, rfl⟩) | (go_at_call 17; refine (spec_rises _ _ _ xs hr).mono ?_; rintro e w2 ⟨rfl, rfl⟩))
      go_ret
      exact ⟨by simp, hB⟩
  · go_enter Try.func8, Try.ntmps8
    go_wp2
    go_ret
    exact ⟨rfl, Below.refl _ _⟩

end Go.Proofs.Ytmckkbokebapcaa
