/- FnFavourTramSmall: the walk. -/
import Derived.Test.YtokpgipbgkiepaaFvL2
import Derived.IntWalk
namespace Go.Proofs.Ytokpgipbgkiepaa
open Go.RowKit
set_option linter.unusedVariables false
set_option linter.unusedSimpArgs false

theorem absolute_any (x z : Int) (w : World) (h : -1000 ≤ x ∧ x ≤ 1000) (hz : z = if x < 0 then -x else x) : Calls Try.prog 31 #[.int .i64 x] w fun e w' => e = .returned (.int .i64 z) ∧ w = w' := by
  subst hz
  by_cases h0 : x < 0
  · rw [if_pos h0]
    go_enter Try.func31, Try.ntmps31
    go_wp2
    go_ret
    exact ⟨rfl, rfl⟩
  · rw [if_neg h0]
    go_enter Try.func31, Try.ntmps31
    go_wp2
    go_ret
    exact ⟨rfl, rfl⟩
def smB (p : Pln) (xs : List Int) (k : Nat) : Bool := (List.range k).all fun i => decide (xs.getD i 0 = (p.st.getD i s0).gr)
theorem smB_succ (p : Pln) (xs : List Int) (k : Nat) : smB p xs (k + 1) = (smB p xs k && decide (xs.getD k 0 = (p.st.getD k s0).gr)) := by simp [smB, List.range_succ]
theorem smB_all {p : Pln} {xs : List Int} {n : Nat} (h : ∀ i, i < n → xs.getD i 0 = (p.st.getD i s0).gr) : smB p xs n = true := by
  simp only [smB, List.all_eq_true, List.mem_range, decide_eq_true_eq]; exact h
set_option maxHeartbeats 16000000 in
theorem fnFavourTramSmall_walk (w : World) (v : Value) (bs : List UInt8) (hv : Bytes w 0 v bs) :
    Calls Try.prog 5 #[v] w fun e w' => e = .returned (.bool true) ∧ Below w.heap.size w w' := by
  obtain ⟨ao, cap, rfl, hcap, hm⟩ := hv.form
  by_cases hlen : bs.length ≤ 1048576
  case neg =>
    go_enter Try.func5, Try.ntmps5
    go_wp2
    go_ret
    exact ⟨rfl, Below.refl _ _⟩
  have T_w := Lib.hid (Below.refl w.heap.size w)
  go_enter Try.func5, Try.ntmps5
  go_wp2_with fail
  go_at_call 28
  refine (drawFavourTram _ _ bs hv).mono ?_; rintro e w1 ⟨v1, pl, st, s, rfl, hR, hD, hst, hs, hB⟩
  replace T_w := Lib.hid (T_w.out.trans (hB.mono T_w.out.size))
  clear hB hv
  obtain ⟨_, _, rfl, hc, hs⟩ := id hR
  obtain ⟨ap, bp, rfl, _, _⟩ := hc.form
  obtain ⟨cp, dp, rfl, _, _⟩ := hs.form
  clear hc hs
  obtain ⟨w2, hw, hB, y0, y1, hzp⟩ := box2 w1 (.slice ap pl.cl.length bp) (.slice cp pl.st.length dp) 26
  have Kp : Hid (∀ W, Below w2.heap.size w2 W → W.cell? ⟨w1.heap.size, 0, none⟩ = some (.slice ap pl.cl.length bp) ∧ W.cell? ⟨w1.heap.size, 1, none⟩ = some (.slice cp pl.st.length dp)) := fun W h => ⟨(h.cell (p := ⟨w1.heap.size, 0, none⟩) hzp).trans y0, (h.cell (p := ⟨w1.heap.size, 1, none⟩) hzp).trans y1⟩
  have HWp := Lib.hid hw
  have TP_w := T_w
  replace T_w := Lib.hid (T_w.out.trans (hB.mono T_w.out.size))
  have KPp : Hid (∀ W, Below w2.heap.size w2 W → PlanR W 0 (.agg #[.slice ap pl.cl.length bp, .slice cp pl.st.length dp]) pl) := fun W h => ((hR.below hB (Nat.le_refl _)).mono (Nat.zero_le _)).below h (Nat.le_refl _)
  clear hw hB hR y0 y1
  have T_w2 := Lib.hid (Below.refl w2.heap.size w2)
  obtain ⟨xs, hxs⟩ : ∃ x, x = favO pl st s := ⟨_, rfl⟩
  have HXS := Lib.hid hxs
  clear hxs
  go_wp2_with fail
  rw [← HWp.out]
  clear HWp
  clear TP_w
  refine (impl_favourTram _ 0 _ pl st s (KPp.out _ T_w2.out)).mono ?_; rintro e w3 ⟨v1, rfl, hO, hB⟩
  replace T_w := Lib.hid (T_w.out.trans (hB.mono T_w.out.size))
  replace T_w2 := Lib.hid (T_w2.out.trans (hB.mono T_w2.out.size))
  clear hB
  rw [← HXS.out] at hO
  have Kv1 : Hid (∀ W, Below w3.heap.size w3 W → Ints W 0 v1 xs) := fun W h => Rd.mono (Rd.below hO.rd h (Nat.le_refl _) (by decide)) (Nat.zero_le _)
  obtain ⟨av1, cv1, rfl, _, _⟩ := hO.form
  clear hO
  have T_w3 := Lib.hid (Below.refl w3.heap.size w3)
  obtain ⟨up0, up1⟩ := Kp.out _ T_w2.out
  go_wp2_with fail
  refine (spec_favourTram _ 0 _ pl st s (KPp.out _ T_w2.out)).mono ?_; rintro e w4 ⟨v2, rfl, hO, hB⟩
  clear up0 up1
  replace T_w := Lib.hid (T_w.out.trans (hB.mono T_w.out.size))
  replace T_w2 := Lib.hid (T_w2.out.trans (hB.mono T_w2.out.size))
  replace T_w3 := Lib.hid (T_w3.out.trans (hB.mono T_w3.out.size))
  clear hB
  rw [← HXS.out] at hO
  have Kv2 : Hid (∀ W, Below w4.heap.size w4 W → Ints W 0 v2 xs) := fun W h => Rd.mono (Rd.below hO.rd h (Nat.le_refl _) (by decide)) (Nat.zero_le _)
  obtain ⟨av2, cv2, rfl, _, _⟩ := hO.form
  clear hO
  have T_w4 := Lib.hid (Below.refl w4.heap.size w4)
  go_wp2_with fail
  refine (equalInts_same _ _ _ xs (Kv1.out _ T_w3.out) (Kv2.out _ T_w4.out)).mono ?_; rintro e w5 ⟨rfl, hB⟩
  replace T_w := Lib.hid (T_w.out.trans (hB.mono T_w.out.size))
  replace T_w2 := Lib.hid (T_w2.out.trans (hB.mono T_w2.out.size))
  replace T_w3 := Lib.hid (T_w3.out.trans (hB.mono T_w3.out.size))
  replace T_w4 := Lib.hid (T_w4.out.trans (hB.mono T_w4.out.size))
  clear hB
  by_cases hz : xs.length = 0
  · have hz1 : ((xs.length : Int) == 0) = true := by rw [hz]; rfl
    clear hz
    obtain ⟨up0, up1⟩ := Kp.out _ T_w2.out
    go_wp2_with fail
    refine (spec_favourTram _ 0 _ pl st s (KPp.out _ T_w2.out)).mono ?_; rintro e w6 ⟨v3, rfl, hO, hB⟩
    clear up0 up1
    replace T_w := Lib.hid (T_w.out.trans (hB.mono T_w.out.size))
    replace T_w2 := Lib.hid (T_w2.out.trans (hB.mono T_w2.out.size))
    replace T_w3 := Lib.hid (T_w3.out.trans (hB.mono T_w3.out.size))
    replace T_w4 := Lib.hid (T_w4.out.trans (hB.mono T_w4.out.size))
    clear hB hz1
    rw [← HXS.out] at hO
    have Kv3 : Hid (∀ W, Below w6.heap.size w6 W → Ints W 0 v3 xs) := fun W h => Rd.mono (Rd.below hO.rd h (Nat.le_refl _) (by decide)) (Nat.zero_le _)
    obtain ⟨av3, cv3, rfl, _, _⟩ := hO.form
    clear hO
    have T_w6 := Lib.hid (Below.refl w6.heap.size w6)
    go_wp2_with fail
    refine (equalInts_same _ _ _ xs (Kv1.out _ T_w3.out) (Kv3.out _ T_w6.out)).mono ?_; rintro e w7 ⟨rfl, hB⟩
    replace T_w := Lib.hid (T_w.out.trans (hB.mono T_w.out.size))
    replace T_w2 := Lib.hid (T_w2.out.trans (hB.mono T_w2.out.size))
    replace T_w3 := Lib.hid (T_w3.out.trans (hB.mono T_w3.out.size))
    replace T_w4 := Lib.hid (T_w4.out.trans (hB.mono T_w4.out.size))
    replace T_w6 := Lib.hid (T_w6.out.trans (hB.mono T_w6.out.size))
    clear hB
    go_wp2_with fail
    go_ret
    exact ⟨rfl, T_w.out⟩
  have hz1 : ((xs.length : Int) == 0) = false := beq_eq_false_iff_ne.mpr (by omega)
  obtain ⟨F1, F2, F3, F4, F5, F6, F7, F8⟩ := fav_facts (p := pl) (st := st) (s := s) (xs := xs) HXS.out (by omega)
  have HF1 := Lib.hid F1
  have HF2 := Lib.hid F2
  have HF3 := Lib.hid F3
  have HF4 := Lib.hid F4
  have HF5 := Lib.hid F5
  have HF7 := Lib.hid F7
  have HF8 := Lib.hid F8
  clear F1 F2 F3 F4 F5 F7 F8 hz
  have Kg : Hid (∀ W, Below w5.heap.size w5 W → Below w2.heap.size w2 W ∧ Below w3.heap.size w3 W) := fun W h => ⟨T_w2.out.trans (h.mono T_w2.out.size), T_w3.out.trans (h.mono T_w3.out.size)⟩
  have TW := T_w
  have hp5 := F6
  clear F6
  go_wp2_with fail
  go_loopw [7, 8] (fun sv iv W => ∃ k : Nat, k ≤ xs.length ∧ iv = .int .i64 k ∧ sv = .bool (smB pl xs k) ∧ Below w5.heap.size w5 W) (fun _ iv _ => xs.length - (intOf iv).toNat)
  case atStart => exact ⟨0, Nat.zero_le _, rfl, rfl, Below.refl _ _⟩
  case round =>
    obtain ⟨k, hk, rfl, rfl, hB⟩ := hrel
    obtain ⟨h1, h2⟩ := Kg.out _ hB
    obtain ⟨u0, u1⟩ := Kp.out _ h1
    have hxl := HF5.out
    obtain ⟨sm, hsm⟩ : ∃ b, b = smB pl xs k := ⟨_, rfl⟩
    rw [← hsm]
    have HSM := Lib.hid hsm
    by_cases hlt : k < xs.length
    · obtain ⟨bg, og, eg, _, hbg, hcg⟩ := (Kv1.out _ h2).spot 0 (by omega)
      subst eg
      obtain ⟨_, _, ep, _, hst'⟩ := KPp.out _ h1
      cases ep
      obtain ⟨b, off, eb, _, hb, hcs⟩ := hst'.spot (by omega)
      subst eb
      have xk := hcg k hlt
      have gk := (hcs k (by omega)).1
      obtain ⟨x, hx⟩ : ∃ x, x = xs.getD k 0 := ⟨_, rfl⟩
      obtain ⟨y, hy⟩ : ∃ y, y = (pl.st.getD k s0).gr := ⟨_, rfl⟩
      have hd := HF7.out k hlt
      rw [← hx, ← hy] at hd
      rw [← hx] at xk
      rw [← hy] at gk
      have hss := smB_succ pl xs k
      rw [← hx, ← hy, ← hsm] at hss
      have HSS := Lib.hid hss
      have t1 : decide ((k : Int) < (xs.length : Int)) = true := decide_eq_true (by omega)
      have t1' : decide (k < xs.length) = true := decide_eq_true hlt
      have t2 : decide ((k : Int) < (pl.st.length : Int)) = true := decide_eq_true (by omega)
      have t2' : decide (k < pl.st.length) = true := decide_eq_true (by omega)
      have k0 : (0 : Int) ≤ (k : Int) := by omega
      have k1 : (k : Int) < (xs.length : Int) := by omega
      have k2 : (k : Int) < (pl.st.length : Int) := by omega
      have wd : IntKind.i64.wrap (x - y) = x - y := by rw [IntWalk.i64_in _ (by omega)]
      obtain ⟨z, hz⟩ : ∃ z, z = if x - y < 0 then -(x - y) else x - y := ⟨_, rfl⟩
      have hz6 : z ≤ 6 := by rw [hz]; split <;> omega
      have hz0 : 0 ≤ z := by rw [hz]; split <;> omega
      have HZ := Lib.hid hz
      have t3 : decide (6 < z) = false := decide_eq_false (by omega)
      clear hz
      have HXL := Lib.hid hxl
      clear hcg hcs hx hy hsm hst' hxl hss
      go_wp2_with fail
      go_quiet ((go_at_call 31; exact quiet_eq (absolute_any _ z _ (by omega) HZ.out)))
      clear t1 t1' t2 t2' wd
      cases sm
      · go_wp2_with fail
        go_quiet (fail)
        go_wp2
        go_roundw
        case rel => exact ⟨k + 1, by omega, by go_num, by rw [HSS.out]; rfl, below_drewN hB _⟩
        case measure => simp [intOf]; omega
      · by_cases he : x = y
        · have te : (x == y) = true := by simp [he]
          have HE := Lib.hid he
          clear he
          go_wp2_with fail
          go_quiet (fail)
          go_wp2
          go_roundw
          case rel => exact ⟨k + 1, by omega, by go_num, by rw [HSS.out, decide_eq_true HE.out]; rfl, below_drewN hB _⟩
          case measure => simp [intOf]; omega
        · have te : (x == y) = false := by simp [he]
          have HE := Lib.hid he
          clear he
          go_wp2_with fail
          go_quiet (fail)
          go_wp2
          go_roundw
          case rel => exact ⟨k + 1, by omega, by go_num, by rw [HSS.out, decide_eq_false HE.out]; rfl, below_drewN hB _⟩
          case measure => simp [intOf]; omega
    · obtain rfl : k = xs.length := by omega
      have t1 : decide ((xs.length : Int) < (xs.length : Int)) = false := by simp
      have t5 : ((xs.length : Int) == (pl.st.length : Int)) = true := by rw [hxl]; simp
      have t5' : (xs.length == pl.st.length) = true := by rw [hxl]; simp
      have HT := Lib.hid (TW.out.trans (hB.mono TW.out.size))
      have HXL := Lib.hid hxl
      clear hxl hsm
      cases sm
      · have h0 : 0 < twO pl st s := by
          rcases HF8.out with h | h
          · have := smB_all h; rw [← HSM.out] at this; cases this
          · exact h
        obtain ⟨tv, htv⟩ : ∃ t, t = twO pl st s := ⟨_, rfl⟩
        rw [← htv] at h0
        have t6 : decide (0 < tv) = true := decide_eq_true h0
        have t7 : decide (tv > 0) = true := decide_eq_true h0
        have HTV := Lib.hid htv
        clear htv
        go_wp2_with fail
        refine (impl_tramWait _ 0 _ pl st s (KPp.out _ h1)).mono ?_; rintro e wz ⟨rfl, hBz⟩
        rw [← HTV.out]
        go_wp2_with fail
        go_ret
        exact ⟨rfl, HT.out.trans (hBz.mono HT.out.size)⟩
      · go_wp2_with fail
        go_ret
        exact ⟨rfl, HT.out⟩
end Go.Proofs.Ytokpgipbgkiepaa
