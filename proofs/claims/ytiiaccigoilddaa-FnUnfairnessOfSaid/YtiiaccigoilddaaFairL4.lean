/- The laws FnExactUnfairnessOf and FnUnfairnessOf, walked. -/
import Derived.Test.YtiiaccigoilddaaFair5
import Derived.Test.YtiiaccigoilddaaFairD
import Derived.Test.YtiiaccigoilddaaSlI
import Derived.Test.YtiiaccigoilddaaApart
namespace Go.Proofs.Ytiiaccigoilddaa
open Go.RowKit

theorem exactUnfair_walk (w : World) (v : Value) (xs : List Int)  (hv : Ints w 0 v xs) (_hx : ∀ x ∈ xs, in64 x) :
    Calls Try.prog 11 #[v] w fun e w' => e = .returned (.bool true) ∧ Below w.heap.size w w' := by
  obtain ⟨ao, cap, rfl, hcap, hm⟩ := hv.form
  by_cases hlen : xs.length ≤ 1048576
  · go_enter Try.func11, Try.ntmps11
    go_wp2_with fail
    go_at_call 14
    refine (toIntS_any _ _ xs hv (by omega)).mono ?_; rintro e w1 ⟨v1, rfl, hO1, hB1⟩
    go_wp2_with fail
    go_at_call 25
    refine (spec_unfair _ _ _ xs hO1.rd).mono ?_; rintro e w2 ⟨rfl, hB2⟩
    have hT := hB1.trans (hB2.mono hB1.size)
    skip
    go_wp2_with fail
    go_at_call 14
    refine (toIntS_any _ _ xs (Rd.below hv hT (Nat.le_refl _) (by decide)) (by omega)).mono ?_; rintro e w3 ⟨v3, rfl, hO3, hB3⟩
    have hT3 := hT.trans (hB3.mono hT.size)
    go_wp2_with fail
    go_at_call 26
    refine (impl_unfair _ _ _ xs hO3.rd).mono ?_; rintro e w4 ⟨rfl, hB4⟩
    subst hB4; have hT4 := hT3
    have hR4 := hO3.rd
    go_wp2_with fail
    go_at_call 14
    refine (toIntS_any _ _ xs (Rd.below hv hT4 (Nat.le_refl _) (by decide)) (by omega)).mono ?_; rintro e w5 ⟨v5, rfl, hO5, hB5⟩
    have hT5 := hT4.trans (hB5.mono hT4.size)
    go_wp2_with fail
    go_at_call 16
    refine (eqIntS_same _ _ _ xs ((Rd.below hR4 hB5 (Nat.le_refl _) (by decide)).mono (Nat.zero_le _)) (hO5.rd.mono (Nat.zero_le _))).mono ?_; rintro e w6 ⟨rfl, hB6⟩
    go_wp2
    go_ret
    exact ⟨rfl, hT5.trans (hB6.mono hT5.size)⟩
  · go_enter Try.func11, Try.ntmps11
    go_wp2
    go_ret
    exact ⟨rfl, Below.refl _ _⟩

/-- The last k elements, the last one first. -/
def lastN (xs : List Int) (k : Nat) : List Int := xs.reverse.take k
theorem lastN_succ {xs : List Int} {k : Nat} (h : k < xs.length) : lastN xs (k + 1) = lastN xs k ++ [xs.getD (xs.length - 1 - k) 0] := by
  unfold lastN
  rw [List.take_succ_eq_append_getElem (by simpa using h)]
  simp [show xs.length - 1 - k < xs.length by omega]
theorem lastN_all (xs : List Int) : lastN xs xs.length = xs.reverse := by unfold lastN; rw [List.take_of_length_le (by simp)]
theorem lastN_len {xs : List Int} {k : Nat} (h : k ≤ xs.length) : (lastN xs k).length = k := by simp [lastN]; omega

set_option maxHeartbeats 4000000 in
theorem fnUnfair_walk (w : World) (v : Value) (bs : List UInt8) (hv : Bytes w 0 v bs) :
    Calls Try.prog 12 #[v] w fun e w' => e = .returned (.bool true) ∧ Below w.heap.size w w' := by
  obtain ⟨ao, cap, rfl, hcap, hm⟩ := hv.form
  by_cases hlen : bs.length ≤ 1048576
  · go_enter Try.func12, Try.ntmps12
    go_wp2_with fail
    go_at_call 27
    refine (drawUnfair _ _ bs hv).mono ?_; rintro e w0 ⟨v1, xs, rfl, hr0, hxs, ht, hB0⟩
    clear hv
    obtain ⟨ao1, cap1, rfl, hcap1, hm1⟩ := hr0.form
    have hne : (!(unfair xs == unfair xs)) = false := by simp
    have hself : (unfair xs == unfair xs) = true := by simp
    have HT := Lib.hid ht
    clear ht
    go_wp2_with fail
    go_at_call 26
    refine (impl_unfair _ _ _ xs hr0).mono ?_; rintro e w2 ⟨rfl, rfl⟩
    go_wp2_with fail
    go_at_call 25
    refine (spec_unfair _ _ _ xs hr0).mono ?_; rintro e w1 ⟨rfl, hB1⟩
    have hr : Ints w1 0 _ xs := Rd.below hr0 hB1 (Nat.le_refl _) (by decide)
    have hB : Below w.heap.size w w1 := hB0.trans (hB1.mono hB0.size)
    clear hB1 hr0 hB0
    cases hval : validW xs
    · have hp : unfair xs < 0 := by have := (unfair_bd xs).2.2.2 hval; omega
      go_wp2_with (go_at_call 25; refine (spec_unfair _ _ _ xs hr).mono ?_; rintro e w3 ⟨rfl, hB3⟩)
      go_ret
      exact ⟨by simp, hB.trans (hB3.mono hB.size)⟩
    · have hp := (unfair_bd xs).2.2.1 hval
      have hp2 := (unfair_bd xs).2.1
      obtain ⟨h60, hall⟩ := validW_iff.1 hval
      have HL := Lib.hid hall
      have HUR := Lib.hid (unfair_reverse hval)
      have HUF := Lib.hid (unfair_flat h60)
      clear hall
      have hO5 := (Own.made w1 [] 3 w1.heap.size 1 0 rfl (Nat.le_refl _) (by decide)).alloc (.cells #[] 3) |>.alloc (.cells #[] 3)
      have hO6 := (Own.made (w1.alloc (.cells #[] 3)) [] 3 w1.heap.size 1 0 rfl (by simp) (by decide)).alloc (.cells #[] 3)
      have hO7 := (Own.made ((w1.alloc (.cells #[] 3)).alloc (.cells #[] 3)) [] 3 w1.heap.size 1 0 rfl (by simp; omega) (by decide))
      simp only [World.size_alloc] at hO5 hO6 hO7
      have hB1 : Below w1.heap.size w1 (((w1.alloc (.cells #[] 3)).alloc (.cells #[] 3)).alloc (.cells #[] 3)) := (((Below.refl _ _).alloc (Nat.le_refl _) _).alloc (by simp) _).alloc (by simp; omega) _
      go_wp2_with fail
      go_loopw [5, 6, 7, 8, 9] (fun v5 v6 v7 sm i wo => ∃ k : Nat, k ≤ xs.length ∧ i = .int .i64 ((xs.length : Int) - 1 - k) ∧
          Own wo w1.heap.size 3 1 v5 k ((lastN xs k).map (.int .i64)) ∧ Own wo w1.heap.size 3 1 v6 k (((lastN xs k).map (2 * ·)).map (.int .i64)) ∧ Own wo w1.heap.size 3 1 v7 k ((List.replicate k (7 : Int)).map (.int .i64)) ∧
          Apart v5 v6 ∧ Apart v5 v7 ∧ Apart v6 v7 ∧ (∃ b : Bool, sm = .bool b ∧ (b = true → ∀ x ∈ lastN xs k, 2 * x ≤ 999)) ∧ Below w1.heap.size w1 wo)
        (fun _ _ _ _ i _ => (intOf i + 1).toNat)
      case atStart => exact ⟨0, Nat.zero_le _, by simp, hO5, hO6, hO7, by intro k h; simp [wblk] at h, by intro k h; simp [wblk] at h, by intro k h; simp [wblk] at h, ⟨true, rfl, fun _ x hx => by simp [lastN] at hx⟩, hB1⟩
      case round =>
        clear hO5 hO6 hO7 hB1
        obtain ⟨k, hk, rfl, h5, h6, h7, a56, a57, a67, ⟨b, rfl, hb⟩, hB1⟩ := hrel
        have HBB := Lib.hid hb
        clear hb
        by_cases hlt : k < xs.length
        · obtain ⟨b0, off, rfl, _, hb0, hc⟩ := hr.spot 0 (by omega)
          have hck := hc (xs.length - 1 - k) (by omega)
          clear hc
          have hx1 := HL.out _ (getD_mem (xs := xs) (k := xs.length - 1 - k) (by omega))
          have HLS := Lib.hid (lastN_succ hlt)
          obtain ⟨x, hx⟩ : ∃ x, x = xs.getD (xs.length - 1 - k) 0 := ⟨_, rfl⟩
          rw [← hx] at hck hx1 HLS
          clear hx
          have e1 : ((xs.length : Int) - 1 - k).toNat = xs.length - 1 - k := by omega
          have hck1 := hck
          rw [← hB1.cell (p := ⟨b0, off + (xs.length - 1 - k), none⟩) hb0] at hck1
          have hsz := hB1.size
          by_cases hxs2 : 2 * x ≤ 999
          all_goals cases b
          all_goals
            go_wp2_with (first
              | (at_builtin; refine wpList_append_one _ rfl _ _ 22 rfl 3 (.int .i64 0) 8 Try.underlying22 info_int rfl w1.heap.size _ _ _ rfl h5 _ _ rfl rfl (by omega) (by omega) hsz ?_; intro v5a w5 h5a g5 f5; have h6a := h6.beside g5 a56; have h7a := h7.beside g5 a57; have a56a := (a56.symm.step h6 f5).symm; have a57a := (a57.symm.step h7 f5).symm; have c5 := hB1.trans (below_of_grownBy g5 hsz (fun k hk => (h5.wblk hk).1)); have hsz5 := c5.size; have hck5 := hck; rw [← c5.cell (p := ⟨b0, off + (xs.length - 1 - k), none⟩) hb0] at hck5)
              | (at_builtin; refine wpList_append_one _ rfl _ _ 22 rfl 3 (.int .i64 0) 8 Try.underlying22 info_int rfl w1.heap.size _ _ _ rfl h6a _ _ rfl rfl (by omega) (by omega) hsz5 ?_; intro v6a w6 h6b g6 f6; have h5b := h5a.beside g6 a56a.symm; have h7b := h7a.beside g6 a67; have a56b := a56a.step h5a f6; have a67a := (a67.symm.step h7a f6).symm; have c6 := c5.trans (below_of_grownBy g6 hsz5 (fun k hk => (h6a.wblk hk).1)); have hsz6 := c6.size)
              | (at_builtin; refine wpList_append_one _ rfl _ _ 22 rfl 3 (.int .i64 0) 8 Try.underlying22 info_int rfl w1.heap.size _ _ _ rfl h7b _ _ rfl rfl (by omega) (by omega) hsz6 ?_; intro v7a w7 h7c g7 f7; have h5c := h5b.beside g7 a57a.symm; have h6c := h6b.beside g7 a67a.symm; have a57b := a57a.step h5b f7; have a67b := a67a.step h6b f7; have c7 := c6.trans (below_of_grownBy g7 hsz6 (fun k hk => (h7b.wblk hk).1)); have hck7 := hck; rw [← c7.cell (p := ⟨b0, off + (xs.length - 1 - k), none⟩) hb0] at hck7))
            go_roundw
            case rel => exact ⟨k + 1, by omega, by go_num, by (rw [HLS.out, List.map_append]; exact h5c), by (rw [HLS.out, List.map_append, List.map_append]; exact h6c), by (rw [List.replicate_succ', List.map_append]; exact h7c), a56b, a57b, a67b, ⟨_, rfl, fun hb y hy => by
              rw [HLS.out] at hy
              rcases List.mem_append.1 hy with h | h
              · exact HBB.out (by first | rfl | exact hb) y h
              · simp at h; subst h; first | exact hxs2 | (exfalso; simp at hb)⟩, c7⟩
            case measure => simp [intOf]; omega
        · obtain rfl : k = xs.length := by omega
          rw [lastN_all] at h5 h6
          have r5 := h5.ints (xs := xs.reverse) (by simp)
          have r6 := h6.ints (xs := xs.reverse.map (2 * ·)) (by simp)
          have r7 := h7.ints (xs := List.replicate xs.length 7) (by simp)
          have HTW : Hid (b = true → unfair (xs.reverse.map (2 * ·)) = unfair xs) := fun hb => by
            have := HBB.out hb
            rw [lastN_all] at this
            rw [unfair_twice (validW_reverse hval) this]; exact HUR.out
          clear h5 h6 h7 a56 a57 a67
          cases b
          · go_wp2_with (first
              | (go_at_call 26; with_reducible refine (impl_unfair _ _ _ _ r5).mono ?_; rintro e w2 ⟨rfl, rfl⟩; rw [HUR.out])
              | (go_at_call 26; with_reducible refine (impl_unfair _ _ _ _ r7).mono ?_; rintro e w2 ⟨rfl, rfl⟩; rw [HUF.out]))
            go_ret
            exact ⟨rfl, hB.trans (hB1.mono hB.size)⟩
          · have HTW2 := Lib.hid (HTW.out rfl)
            go_wp2_with (first
              | (go_at_call 26; with_reducible refine (impl_unfair _ _ _ _ r5).mono ?_; rintro e w2 ⟨rfl, rfl⟩; rw [HUR.out])
              | (go_at_call 26; with_reducible refine (impl_unfair _ _ _ _ r7).mono ?_; rintro e w2 ⟨rfl, rfl⟩; rw [HUF.out])
              | (go_at_call 26; with_reducible refine (impl_unfair _ _ _ _ r6).mono ?_; rintro e w2 ⟨rfl, rfl⟩; rw [HTW2.out]))
            go_ret
            exact ⟨rfl, hB.trans (hB1.mono hB.size)⟩
  · go_enter Try.func12, Try.ntmps12
    go_wp2
    go_ret
    exact ⟨rfl, Below.refl _ _⟩

end Go.Proofs.Ytiiaccigoilddaa
