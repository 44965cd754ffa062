/- FnTramWait: the walk. -/
import Derived.Test.YtmccdmlfaaphkaaPtL2
namespace Go.Proofs.Ytmccdmlfaaphkaa
open Go.RowKit
set_option linter.unusedVariables false
set_option linter.unusedSimpArgs false

theorem lawIsIn_yes (w : World) (lo : Nat) (v : Value) (xs : List Int) (n : Int) (hv : Ints w lo v xs) (hin : ∃ j, j < xs.length ∧ xs.getD j 0 = n) :
    Calls Try.prog 40 #[v, .int .i64 n] w fun e w' => e = .returned (.bool true) ∧ w = w' := by
  obtain ⟨ao, cap, rfl, hcap, hm⟩ := hv.form
  have HV := Lib.hid hv
  have HI := Lib.hid hin
  clear hv hin
  go_enter Try.func40, Try.ntmps40
  go_wp2
  go_loop [5] (fun i => ∃ k : Nat, k ≤ xs.length ∧ i = .int .i64 k ∧ Hid (∀ j, j < k → xs.getD j 0 ≠ n)) (fun i => xs.length - (intOf i).toNat)
  case atStart => exact ⟨0, Nat.zero_le _, rfl, fun j hj => absurd hj (Nat.not_lt_zero _)⟩
  case round =>
    obtain ⟨k, hk, rfl, HA⟩ := hrel
    by_cases hlt : k < xs.length
    · obtain ⟨b0, off, rfl, _, hb, hc⟩ := HV.out.spot 0 (by omega)
      have hck := hc k hlt
      clear hc
      obtain ⟨x, hx⟩ : ∃ x, x = xs.getD k 0 := ⟨_, rfl⟩
      rw [← hx] at hck
      have HX := Lib.hid hx
      clear hx
      by_cases he : x = n
      · have t1 : (x == n) = true := by simp [he]
        clear he
        go_wp2
        go_ret
        exact ⟨rfl, rfl⟩
      · have t1 : (x == n) = false := by simp [he]
        have HE := Lib.hid he
        clear he
        go_wp2
        go_round
        case rel => exact ⟨k + 1, by omega, by go_num, fun j hj => by
          by_cases h : j = k
          · subst h; rw [← HX.out]; exact HE.out
          · exact HA.out j (by omega)⟩
        case measure => simp [intOf]; omega
    · exfalso
      obtain ⟨j, hj, e⟩ := HI.out
      exact HA.out j (by omega) e

theorem isPart_same (w : World) (va vb : Value) (xs : List Int) (ha : Ints w 0 va xs) (hb : Ints w 0 vb xs) :
    Calls Try.prog 18 #[va, vb] w fun e w' => e = .returned (.bool true) ∧ w = w' := by
  obtain ⟨ao, cap, rfl, hcap, hm⟩ := ha.form
  obtain ⟨ao', cap', rfl, hcap', hm'⟩ := hb.form
  have HA := Lib.hid ha
  have HB := Lib.hid hb
  clear ha hb
  go_enter Try.func18, Try.ntmps18
  go_wp2
  go_loop [5] (fun i => ∃ k : Nat, k ≤ xs.length ∧ i = .int .i64 k) (fun i => xs.length - (intOf i).toNat)
  case atStart => exact ⟨0, Nat.zero_le _, rfl⟩
  case round =>
    obtain ⟨k, hk, rfl⟩ := hrel
    by_cases hlt : k < xs.length
    · obtain ⟨b0, off, rfl, _, hb0, hc⟩ := HA.out.spot 0 (by omega)
      have hck := hc k hlt
      clear hc
      have HIN : Hid (∃ j, j < xs.length ∧ xs.getD j 0 = xs.getD k 0) := ⟨k, hlt, rfl⟩
      obtain ⟨x, hx⟩ : ∃ x, x = xs.getD k 0 := ⟨_, rfl⟩
      rw [← hx] at hck HIN
      clear hx
      go_wp2_with fail
      refine (lawIsIn_yes _ _ _ xs x HB.out HIN.out).mono ?_; rintro e w2 ⟨rfl, rfl⟩
      go_wp2_with fail
      go_round
      case rel => exact ⟨k + 1, by omega, by go_num⟩
      case measure => simp [intOf]; omega
    · go_wp2
      go_ret
      exact ⟨rfl, rfl⟩

set_option maxHeartbeats 16000000 in
theorem fnTramWait_walk (w : World) (v : Value) (bs : List UInt8) (hv : Bytes w 0 v bs) :
    Calls Try.prog 7 #[v] w fun e w' => e = .returned (.bool true) ∧ Below w.heap.size w w' := by
  obtain ⟨ao, cap, rfl, hcap, hm⟩ := hv.form
  by_cases hlen : bs.length ≤ 1048576
  · go_enter Try.func7, Try.ntmps7
    go_wp2_with fail
    go_at_call 15
    refine (drawTramWait _ _ bs hv).mono ?_; rintro e w1 ⟨v1, pl, st, s, rfl, hP1, hD1, hst, hs, hB1⟩
    have hP1r := hP1
    obtain ⟨vc, vs, rfl, hc1, hs1⟩ := hP1r
    obtain ⟨b4, d4, rfl, _, _⟩ := hc1.form
    obtain ⟨b5, d5, rfl, _, _⟩ := hs1.form
    obtain ⟨bs5, os5, rfl, _, hb5, hx5⟩ := hs1.spot (by have := hD1.s1; omega)
    obtain ⟨w2, hw2, hB2, y0, y1, hz2⟩ := plan_box w1 (.slice b4 pl.cl.length d4) (.slice (some ⟨bs5, os5, none⟩) pl.st.length d5)
    have HP2 := Lib.hid ((hP1.below hB2 (Nat.le_refl _)).mono (Nat.zero_le _))
    have HB2 := Lib.hid (hB1.trans (hB2.mono hB1.size))
    have HW2 := Lib.hid hw2
    have hb52 : bs5 < w2.heap.size := Nat.lt_of_lt_of_le hb5 hB2.size
    have HX5 : Hid (∀ i, i < pl.st.length → ∃ ai ci, (∀ W, Below w2.heap.size w2 W → W.cell? ⟨bs5, os5 + i * 2, none⟩ = some (.slice ai (pl.st.getD i s0).ph.length ci)) ∧ Ints w2 0 (.slice ai (pl.st.getD i s0).ph.length ci) (pl.st.getD i s0).ph) := fun i hi => by
      obtain ⟨_, ai, ci, h1, h2⟩ := hx5 i hi
      exact ⟨ai, ci, fun W h => (h.cell (p := ⟨bs5, os5 + i * 2, none⟩) hb52).trans ((hB2.cell (p := ⟨bs5, os5 + i * 2, none⟩) hb5).trans h1), (Rd.below h2 hB2 (Nat.le_refl _) (by decide)).mono (Nat.zero_le _)⟩
    have HKP : Hid (∀ W, Below w2.heap.size w2 W → W.cell? ⟨w1.heap.size, 0, none⟩ = some (.slice b4 pl.cl.length d4) ∧ W.cell? ⟨w1.heap.size, 1, none⟩ = some (.slice (some ⟨bs5, os5, none⟩) pl.st.length d5)) := fun W h => ⟨(h.cell (p := ⟨w1.heap.size, 0, none⟩) hz2).trans y0, (h.cell (p := ⟨w1.heap.size, 1, none⟩) hz2).trans y1⟩
    have HP : Hid (∀ W, Below w2.heap.size w2 W → PlanR W 0 (.agg #[.slice b4 pl.cl.length d4, .slice (some ⟨bs5, os5, none⟩) pl.st.length d5]) pl) := fun W h => HP2.out.below h (Nat.le_refl _)
    clear hP1 hc1 hs1 hw2 hB2 hB1 hv hD1 hx5
    go_wp2_with fail
    rw [← HW2.out]
    clear HW2
    have hor := twO_or pl st s
    obtain ⟨n, hn⟩ : ∃ n, n = twO pl st s := ⟨_, rfl⟩
    rw [← hn] at hor
    have HN := Lib.hid hn
    have hne : (n != n) = false := by simp
    have heq : (n == n) = true := by simp
    have HOR := Lib.hid hor
    obtain ⟨hsa, hsb⟩ := hs
    clear hn hor
    refine (impl_tramWait _ 0 _ pl st s (HP.out _ (Below.refl _ _))).mono ?_; rintro e w3 ⟨rfl, hB3⟩
    rw [← HN.out]
    obtain ⟨z0, z1⟩ := HKP.out _ hB3
    clear y0 y1
    go_wp2_with fail
    refine (spec_tramWait _ 0 _ pl st s (HP.out _ hB3)).mono ?_; rintro e w4 ⟨rfl, hB4'⟩
    rw [← HN.out]
    have hB4 := hB3.trans (hB4'.mono hB3.size)
    obtain ⟨y0, y1⟩ := HKP.out _ hB4
    clear z0 z1 hB4' hB3
    by_cases hn0 : n < 0
    · have d0 : decide (n < 0) = true := decide_eq_true hn0
      clear hn0
      go_wp2_with fail
      refine (spec_tramWait _ 0 _ pl st s (HP.out _ hB4)).mono ?_; rintro e w5 ⟨rfl, hB5'⟩
      rw [← HN.out]
      have hB5 := hB4.trans (hB5'.mono hB4.size)
      go_wp2_with fail
      go_ret
      exact ⟨rfl, HB2.out.trans (hB5.mono HB2.out.size)⟩
    · have d0 : decide (n < 0) = false := decide_eq_false hn0
      obtain ⟨k, rfl, hk, hv1, h0, h1, hnt⟩ : ∃ k : Nat, st = k ∧ k < pl.st.length ∧ validP pl = true ∧ 0 ≤ s ∧ s ≤ 9999 ∧ n = tw pl k s := by
        rcases HOR.out with h | h
        · omega
        · exact h
      have hcb := cyc_bd hv1
      have hco : cycO pl = cyc pl := by unfold cycO; rw [if_pos hv1]
      have hbd := tw_bd hv1 hk h0
      have hre := tw_reach hv1 hk h0
      have hbf := tw_before hv1 hk h0
      rw [← hnt] at hbd hre hbf
      have HIN : Hid (∀ s, 0 ≤ s → s ≤ 9999 → twO pl k s = tw pl k s) := fun s a b => twO_in hv1 hk a b
      have HGR : Hid (tgr pl k (s + n) = true) := (tw_zero hv1 hk (by omega)).1 hre
      have HV1 := Lib.hid hv1
      have HGN : Hid (s + n ≤ 9999 → grnO pl (s + n) = (pl.st.getD k s0).ph) := fun hle => by
        unfold grnO
        rw [if_pos ⟨HV1.out, inR_iff.2 ⟨by omega, hle⟩⟩, grn_tram HV1.out hk (by omega) HGR.out]; rfl
      obtain ⟨c, hcc⟩ : ∃ c, c = cyc pl := ⟨_, rfl⟩
      rw [← hcc] at hcb hco hbd
      have HCO := Lib.hid hco
      obtain ⟨c5, c225⟩ := hcb
      obtain ⟨hbd0, hbd1⟩ := hbd
      have wr1 : IntKind.i64.wrap (s + n) = s + n := IntWalk.i64_in _ (by omega)
      have wr2 : IntKind.i64.wrap (s + n - 1) = s + n - 1 := IntWalk.i64_in _ (by omega)
      have HRE := Lib.hid hre
      have HBF := Lib.hid hbf
      clear hco hcc hnt hv1 hre hbf
      by_cases hbig : 9999 < s + n
      · have d1 : decide (9999 < s + n) = true := decide_eq_true hbig
        clear hbig
        go_wp2_with fail
        refine (spec_tramWait _ 0 _ pl k s (HP.out _ hB4)).mono ?_; rintro e w6 ⟨rfl, hB6'⟩
        rw [← HN.out]
        have hB6 := hB4.trans (hB6'.mono hB4.size)
        go_wp2_with fail
        go_ret
        exact ⟨rfl, HB2.out.trans (hB6.mono HB2.out.size)⟩
      · have d1 : decide (9999 < s + n) = false := decide_eq_false hbig
        obtain ⟨a6, c6, hc6, hI6⟩ := HX5.out k hk
        have hga := HGN.out (by omega)
        obtain ⟨ph, hph⟩ : ∃ ph, ph = (pl.st.getD k s0).ph := ⟨_, rfl⟩
        rw [← hph] at hI6 hga
        have HK : Hid (∀ W, Below w2.heap.size w2 W → W.cell? ⟨w1.heap.size, 0, none⟩ = some (.slice b4 pl.cl.length d4) ∧ W.cell? ⟨w1.heap.size, 1, none⟩ = some (.slice (some ⟨bs5, os5, none⟩) pl.st.length d5) ∧ W.cell? ⟨bs5, os5 + k * 2, none⟩ = some (.slice a6 ph.length c6)) := fun W h => ⟨(HKP.out W h).1, (HKP.out W h).2, by rw [hph]; exact hc6 W h⟩
        have HI6 := Lib.hid hI6
        have HGA := Lib.hid hga
        have HTN : Hid (twO pl k (s + n) = 0) := by unfold Hid; rw [HIN.out _ (by omega) (by omega), HRE.out]
        have hle : s + n ≤ 9999 := by omega
        have e0 : ((0 : Int) == 0) = true := rfl
        have e1 : decide (n < c) = true := decide_eq_true hbd1
        have k0 : (0 : Int) ≤ (k : Int) := by omega
        have k1 : (k : Int) < (pl.st.length : Int) := by omega
        clear hbig hph hc6 hI6 hga
        by_cases hnz : n = 0
        · have d2 : (n == 0) = true := by simp [hnz]
          clear hnz
          go_wp2_with fail
          refine wp_region_held_drew (S := (fun w' => w'.cell? ⟨w1.heap.size, 0, none⟩ = some (.slice b4 pl.cl.length d4) ∧ w'.cell? ⟨w1.heap.size, 1, none⟩ = some (.slice (some ⟨bs5, os5, none⟩) pl.st.length d5) ∧ w'.cell? ⟨bs5, os5 + k * 2, none⟩ = some (.slice a6 ph.length c6))) (by kernel_rfl) ?_ (fun hHeld => ?_)
          · exact HK.out _ (hB4.trans ((Below.drew (Below.refl w4.heap.size w4)).mono hB4.size))
          refine wpAnyH_take (i := 0) (oi := ⟨some 42, _, _, _, _, _⟩) (v := ?_) rfl (by kernel_rfl) (by kernel_rfl) (by kernel_rfl) (fun _ _ _ h => h) (Or.inl ⟨by rfl, ?_⟩) (by assumption) ?_; rotate_left; (intro w hSw; (try dsimp only at hSw); first | (go_simp; done) | (go_simp; with_reducible rfl)); try simp only [Act.put, List.setIfInBounds_toArray, List.set_cons_zero, List.set_cons_succ]
          refine wpAnyH_take (i := 1) (oi := ⟨some 43, _, _, _, _, _⟩) (v := ?_) rfl (by kernel_rfl) (by kernel_rfl) (by kernel_rfl) (fun _ _ _ h => h) (Or.inl ⟨by rfl, ?_⟩) (by assumption) ?_; rotate_left; (intro w hSw; (try dsimp only at hSw); first | (go_simp; done) | (go_simp; with_reducible rfl)); try simp only [Act.put, List.setIfInBounds_toArray, List.set_cons_zero, List.set_cons_succ]
          refine wpAnyH_take (i := 2) (oi := ⟨some 44, _, _, _, _, _⟩) (v := ?_) rfl (by kernel_rfl) (by kernel_rfl) (by kernel_rfl) (fun _ _ _ h => h) (Or.inl ⟨by rfl, ?_⟩) (by assumption) ?_; rotate_left; (intro w hSw; (try dsimp only at hSw); first | (go_simp; done) | (go_simp; with_reducible rfl)); try simp only [Act.put, List.setIfInBounds_toArray, List.set_cons_zero, List.set_cons_succ]
          refine wpAnyH_take (i := 3) (oi := ⟨some 45, _, _, _, _, _⟩) (v := ?_) rfl (by kernel_rfl) (by kernel_rfl) (by kernel_rfl) (fun _ _ _ h => h) (Or.inl ⟨by rfl, ?_⟩) (by assumption) ?_; rotate_left; (intro w hSw; (try dsimp only at hSw); first | (go_simp; done) | (go_simp; with_reducible rfl)); try simp only [Act.put, List.setIfInBounds_toArray, List.set_cons_zero, List.set_cons_succ]
          refine wpAnyH_take (i := 4) (oi := ⟨some 46, _, _, _, _, _⟩) (v := ?_) rfl (by kernel_rfl) (by kernel_rfl) (by kernel_rfl) (fun _ _ _ h => h) (Or.inl ⟨by rfl, ?_⟩) (by assumption) ?_; rotate_left; (intro w hSw; (try dsimp only at hSw); first | (go_simp; done) | (go_simp; with_reducible rfl)); try simp only [Act.put, List.setIfInBounds_toArray, List.set_cons_zero, List.set_cons_succ]
          refine wpAnyH_ready (rs := [5]) (by kernel_rfl) (by simp) ?_
          refine AllReadyH.cons (o := ⟨some 47, _, _, _, _, _⟩) rfl (fun K hK => ?_) AllReadyH.nil
          go_simp
          refine (impl_tramWait _ 0 _ pl k (s + n) (HP.out _ (hB4.trans ((Below.drew (Below.refl w4.heap.size w4)).mono hB4.size)))).mono ?_; rintro e w5 ⟨rfl, hB5'⟩; rw [HTN.out]; have hB5 : Below w4.heap.size w4 w5 := (Below.drew (Below.refl w4.heap.size w4)).trans hB5'
          first | refine hK.out _ _ ?_ (fun hHeld => ?_) | (go_wp2_with fail; refine hK.out _ _ ?_ (fun hHeld => ?_))
          · exact HK.out _ (hB4.trans (hB5.mono hB4.size))
          clear hK K
          try simp only [Act.put, List.setIfInBounds_toArray, List.set_cons_zero, List.set_cons_succ]
          refine wpAnyH_take (i := 6) (oi := ⟨some 48, _, _, _, _, _⟩) (v := ?_) rfl (by kernel_rfl) (by kernel_rfl) (by kernel_rfl) (fun _ _ _ h => h) (Or.inl ⟨by rfl, ?_⟩) (by assumption) ?_; rotate_left; (intro w hSw; (try dsimp only at hSw); first | (go_simp; done) | (go_simp; with_reducible rfl)); try simp only [Act.put, List.setIfInBounds_toArray, List.set_cons_zero, List.set_cons_succ]
          refine wpAnyH_take (i := 7) (oi := ⟨some 49, _, _, _, _, _⟩) (v := ?_) rfl (by kernel_rfl) (by kernel_rfl) (by kernel_rfl) (fun _ _ _ h => h) (Or.inl ⟨by rfl, ?_⟩) (by assumption) ?_; rotate_left; (intro w hSw; (try dsimp only at hSw); first | (go_simp; done) | (go_simp; with_reducible rfl)); try simp only [Act.put, List.setIfInBounds_toArray, List.set_cons_zero, List.set_cons_succ]
          refine wpAnyH_take (i := 8) (oi := ⟨some 50, _, _, _, _, _⟩) (v := ?_) rfl (by kernel_rfl) (by kernel_rfl) (by kernel_rfl) (fun _ _ _ h => h) (Or.inl ⟨by rfl, ?_⟩) (by assumption) ?_; rotate_left; (intro w hSw; (try dsimp only at hSw); first | (go_simp; done) | (go_simp; with_reducible rfl)); try simp only [Act.put, List.setIfInBounds_toArray, List.set_cons_zero, List.set_cons_succ]
          refine wpAnyH_take (i := 9) (oi := ⟨some 51, _, _, _, _, _⟩) (v := ?_) rfl (by kernel_rfl) (by kernel_rfl) (by kernel_rfl) (fun _ _ _ h => h) (Or.inl ⟨by rfl, ?_⟩) (by assumption) ?_; rotate_left; (intro w hSw; (try dsimp only at hSw); first | (go_simp; done) | (go_simp; with_reducible rfl)); try simp only [Act.put, List.setIfInBounds_toArray, List.set_cons_zero, List.set_cons_succ]
          refine wpAnyH_take (i := 10) (oi := ⟨some 52, _, _, _, _, _⟩) (v := ?_) rfl (by kernel_rfl) (by kernel_rfl) (by kernel_rfl) (fun _ _ _ h => h) (Or.inl ⟨by rfl, ?_⟩) (by assumption) ?_; rotate_left; (intro w hSw; (try dsimp only at hSw); first | (go_simp; done) | (go_simp; with_reducible rfl)); try simp only [Act.put, List.setIfInBounds_toArray, List.set_cons_zero, List.set_cons_succ]
          refine wpAnyH_take (i := 11) (oi := ⟨some 53, _, _, _, _, _⟩) (v := undef) rfl (by kernel_rfl) (by kernel_rfl) (by kernel_rfl) (fun _ _ _ h => h) (Or.inr ⟨by rfl, rfl⟩) (by assumption) ?_; try simp only [Act.put, List.setIfInBounds_toArray, List.set_cons_zero, List.set_cons_succ]
          refine wpAnyH_take (i := 12) (oi := ⟨some 54, _, _, _, _, _⟩) (v := undef) rfl (by kernel_rfl) (by kernel_rfl) (by kernel_rfl) (fun _ _ _ h => h) (Or.inr ⟨by rfl, rfl⟩) (by assumption) ?_; try simp only [Act.put, List.setIfInBounds_toArray, List.set_cons_zero, List.set_cons_succ]
          refine wpAnyH_take (i := 13) (oi := ⟨some 55, _, _, _, _, _⟩) (v := undef) rfl (by kernel_rfl) (by kernel_rfl) (by kernel_rfl) (fun _ _ _ h => h) (Or.inr ⟨by rfl, rfl⟩) (by assumption) ?_; try simp only [Act.put, List.setIfInBounds_toArray, List.set_cons_zero, List.set_cons_succ]
          refine wpAnyH_take (i := 14) (oi := ⟨some 56, _, _, _, _, _⟩) (v := undef) rfl (by kernel_rfl) (by kernel_rfl) (by kernel_rfl) (fun _ _ _ h => h) (Or.inr ⟨by rfl, rfl⟩) (by assumption) ?_; try simp only [Act.put, List.setIfInBounds_toArray, List.set_cons_zero, List.set_cons_succ]
          refine wpAnyH_take (i := 15) (oi := ⟨some 57, _, _, _, _, _⟩) (v := undef) rfl (by kernel_rfl) (by kernel_rfl) (by kernel_rfl) (fun _ _ _ h => h) (Or.inr ⟨by rfl, rfl⟩) (by assumption) ?_; try simp only [Act.put, List.setIfInBounds_toArray, List.set_cons_zero, List.set_cons_succ]
          refine wpAnyH_take (i := 16) (oi := ⟨some 58, _, _, _, _, _⟩) (v := undef) rfl (by kernel_rfl) (by kernel_rfl) (by kernel_rfl) (fun _ _ _ h => h) (Or.inr ⟨by rfl, rfl⟩) (by assumption) ?_; try simp only [Act.put, List.setIfInBounds_toArray, List.set_cons_zero, List.set_cons_succ]
          refine wpAnyH_take (i := 17) (oi := ⟨some 59, _, _, _, _, _⟩) (v := undef) rfl (by kernel_rfl) (by kernel_rfl) (by kernel_rfl) (fun _ _ _ h => h) (Or.inr ⟨by rfl, rfl⟩) (by assumption) ?_; try simp only [Act.put, List.setIfInBounds_toArray, List.set_cons_zero, List.set_cons_succ]
          refine wpAnyH_take (i := 18) (oi := ⟨some 60, _, _, _, _, _⟩) (v := undef) rfl (by kernel_rfl) (by kernel_rfl) (by kernel_rfl) (fun _ _ _ h => h) (Or.inr ⟨by rfl, rfl⟩) (by assumption) ?_; try simp only [Act.put, List.setIfInBounds_toArray, List.set_cons_zero, List.set_cons_succ]
          refine wpAnyH_take (i := 19) (oi := ⟨some 61, _, _, _, _, _⟩) (v := ?_) rfl (by kernel_rfl) (by kernel_rfl) (by kernel_rfl) (fun _ _ _ h => h) (Or.inl ⟨by rfl, ?_⟩) (by assumption) ?_; rotate_left; (intro w hSw; (try dsimp only at hSw); first | (go_simp; done) | (go_simp; with_reducible rfl)); try simp only [Act.put, List.setIfInBounds_toArray, List.set_cons_zero, List.set_cons_succ]
          refine wpAnyH_take (i := 20) (oi := ⟨some 62, _, _, _, _, _⟩) (v := ?_) rfl (by kernel_rfl) (by kernel_rfl) (by kernel_rfl) (fun _ _ _ h => h) (Or.inl ⟨by rfl, ?_⟩) (by assumption) ?_; rotate_left; (intro w hSw; (try dsimp only at hSw); first | (go_simp; done) | (go_simp; with_reducible rfl)); try simp only [Act.put, List.setIfInBounds_toArray, List.set_cons_zero, List.set_cons_succ]
          refine wpAnyH_take (i := 21) (oi := ⟨some 63, _, _, _, _, _⟩) (v := ?_) rfl (by kernel_rfl) (by kernel_rfl) (by kernel_rfl) (fun _ _ _ h => h) (Or.inl ⟨by rfl, ?_⟩) (by assumption) ?_; rotate_left; (intro w hSw; (try dsimp only at hSw); first | (go_simp; done) | (go_simp; with_reducible rfl)); try simp only [Act.put, List.setIfInBounds_toArray, List.set_cons_zero, List.set_cons_succ]
          refine wpAnyH_take (i := 22) (oi := ⟨some 64, _, _, _, _, _⟩) (v := ?_) rfl (by kernel_rfl) (by kernel_rfl) (by kernel_rfl) (fun _ _ _ h => h) (Or.inl ⟨by rfl, ?_⟩) (by assumption) ?_; rotate_left; (intro w hSw; (try dsimp only at hSw); first | (go_simp; done) | (go_simp; with_reducible rfl)); try simp only [Act.put, List.setIfInBounds_toArray, List.set_cons_zero, List.set_cons_succ]
          refine wpAnyH_take (i := 23) (oi := ⟨some 65, _, _, _, _, _⟩) (v := ?_) rfl (by kernel_rfl) (by kernel_rfl) (by kernel_rfl) (fun _ _ _ h => h) (Or.inl ⟨by rfl, ?_⟩) (by assumption) ?_; rotate_left; (intro w hSw; (try dsimp only at hSw); first | (go_simp; done) | (go_simp; with_reducible rfl)); try simp only [Act.put, List.setIfInBounds_toArray, List.set_cons_zero, List.set_cons_succ]
          refine wpAnyH_ready (rs := [24]) (by kernel_rfl) (by simp) ?_
          refine AllReadyH.cons (o := ⟨some 66, _, _, _, _, _⟩) rfl (fun K hK => ?_) AllReadyH.nil
          go_simp
          refine (impl_cycleOf _ 0 _ pl (HP.out _ (hB4.trans (hB5.mono hB4.size)))).mono ?_; rintro e w7 ⟨rfl, hB7'⟩; rw [HCO.out]; have hB7 : Below w4.heap.size w4 w7 := hB5.trans (hB7'.mono hB5.size)
          first | refine hK.out _ _ ?_ (fun hHeld => ?_) | (go_wp2_with fail; refine hK.out _ _ ?_ (fun hHeld => ?_))
          · exact HK.out _ (hB4.trans (hB7.mono hB4.size))
          clear hK K
          try simp only [Act.put, List.setIfInBounds_toArray, List.set_cons_zero, List.set_cons_succ]
          refine wpAnyH_take (i := 25) (oi := ⟨some 67, _, _, _, _, _⟩) (v := ?_) rfl (by kernel_rfl) (by kernel_rfl) (by kernel_rfl) (fun _ _ _ h => h) (Or.inl ⟨by rfl, ?_⟩) (by assumption) ?_; rotate_left; (intro w hSw; (try dsimp only at hSw); first | (go_simp; done) | (go_simp; with_reducible rfl)); try simp only [Act.put, List.setIfInBounds_toArray, List.set_cons_zero, List.set_cons_succ]
          refine wpAnyH_take (i := 26) (oi := ⟨some 68, _, _, _, _, _⟩) (v := ?_) rfl (by kernel_rfl) (by kernel_rfl) (by kernel_rfl) (fun _ _ _ h => h) (Or.inl ⟨by rfl, ?_⟩) (by assumption) ?_; rotate_left; (intro w hSw; (try dsimp only at hSw); first | (go_simp; done) | (go_simp; with_reducible rfl)); try simp only [Act.put, List.setIfInBounds_toArray, List.set_cons_zero, List.set_cons_succ]
          refine wpAnyH_take (i := 27) (oi := ⟨some 69, _, _, _, _, _⟩) (v := ?_) rfl (by kernel_rfl) (by kernel_rfl) (by kernel_rfl) (fun _ _ _ h => h) (Or.inl ⟨by rfl, ?_⟩) (by assumption) ?_; rotate_left; (intro w hSw; (try dsimp only at hSw); first | (go_simp; done) | (go_simp; with_reducible rfl)); try simp only [Act.put, List.setIfInBounds_toArray, List.set_cons_zero, List.set_cons_succ]
          refine wpAnyH_take (i := 28) (oi := ⟨some 70, _, _, _, _, _⟩) (v := ?_) rfl (by kernel_rfl) (by kernel_rfl) (by kernel_rfl) (fun _ _ _ h => h) (Or.inl ⟨by rfl, ?_⟩) (by assumption) ?_; rotate_left; (intro w hSw; (try dsimp only at hSw); first | (go_simp; done) | (go_simp; with_reducible rfl)); try simp only [Act.put, List.setIfInBounds_toArray, List.set_cons_zero, List.set_cons_succ]
          refine wpAnyH_take (i := 29) (oi := ⟨some 71, _, _, _, _, _⟩) (v := ?_) rfl (by kernel_rfl) (by kernel_rfl) (by kernel_rfl) (fun _ _ _ h => h) (Or.inl ⟨by rfl, ?_⟩) (by assumption) ?_; rotate_left; (intro w hSw; (try dsimp only at hSw); first | (go_simp; done) | (go_simp; with_reducible rfl)); try simp only [Act.put, List.setIfInBounds_toArray, List.set_cons_zero, List.set_cons_succ]
          refine wpAnyH_take (i := 30) (oi := ⟨some 72, _, _, _, _, _⟩) (v := ?_) rfl (by kernel_rfl) (by kernel_rfl) (by kernel_rfl) (fun _ _ _ h => h) (Or.inl ⟨by rfl, ?_⟩) (by assumption) ?_; rotate_left; (intro w hSw; (try dsimp only at hSw); first | (go_simp; done) | (go_simp; with_reducible rfl)); try simp only [Act.put, List.setIfInBounds_toArray, List.set_cons_zero, List.set_cons_succ]
          refine wpAnyH_take (i := 31) (oi := ⟨some 73, _, _, _, _, _⟩) (v := ?_) rfl (by kernel_rfl) (by kernel_rfl) (by kernel_rfl) (fun _ _ _ h => h) (Or.inl ⟨by rfl, ?_⟩) (by assumption) ?_; rotate_left; (intro w hSw; (try dsimp only at hSw); first | (go_simp; done) | (go_simp; with_reducible rfl)); try simp only [Act.put, List.setIfInBounds_toArray, List.set_cons_zero, List.set_cons_succ]
          refine wpAnyH_take (i := 32) (oi := ⟨some 74, _, _, _, _, _⟩) (v := ?_) rfl (by kernel_rfl) (by kernel_rfl) (by kernel_rfl) (fun _ _ _ h => h) (Or.inl ⟨by rfl, ?_⟩) (by assumption) ?_; rotate_left; (intro w hSw; (try dsimp only at hSw); first | (go_simp; done) | (go_simp; with_reducible rfl)); try simp only [Act.put, List.setIfInBounds_toArray, List.set_cons_zero, List.set_cons_succ]
          refine wpAnyH_take (i := 33) (oi := ⟨some 75, _, _, _, _, _⟩) (v := ?_) rfl (by kernel_rfl) (by kernel_rfl) (by kernel_rfl) (fun _ _ _ h => h) (Or.inl ⟨by rfl, ?_⟩) (by assumption) ?_; rotate_left; (intro w hSw; (try dsimp only at hSw); first | (go_simp; done) | (go_simp; with_reducible rfl)); try simp only [Act.put, List.setIfInBounds_toArray, List.set_cons_zero, List.set_cons_succ]
          refine wpAnyH_take (i := 34) (oi := ⟨some 76, _, _, _, _, _⟩) (v := ?_) rfl (by kernel_rfl) (by kernel_rfl) (by kernel_rfl) (fun _ _ _ h => h) (Or.inl ⟨by rfl, ?_⟩) (by assumption) ?_; rotate_left; (intro w hSw; (try dsimp only at hSw); first | (go_simp; done) | (go_simp; with_reducible rfl)); try simp only [Act.put, List.setIfInBounds_toArray, List.set_cons_zero, List.set_cons_succ]
          refine wpAnyH_take (i := 35) (oi := ⟨some 77, _, _, _, _, _⟩) (v := ?_) rfl (by kernel_rfl) (by kernel_rfl) (by kernel_rfl) (fun _ _ _ h => h) (Or.inl ⟨by rfl, ?_⟩) (by assumption) ?_; rotate_left; (intro w hSw; (try dsimp only at hSw); first | (go_simp; done) | (go_simp; with_reducible rfl)); try simp only [Act.put, List.setIfInBounds_toArray, List.set_cons_zero, List.set_cons_succ]
          refine wpAnyH_take (i := 36) (oi := ⟨some 78, _, _, _, _, _⟩) (v := ?_) rfl (by kernel_rfl) (by kernel_rfl) (by kernel_rfl) (fun _ _ _ h => h) (Or.inl ⟨by rfl, ?_⟩) (by assumption) ?_; rotate_left; (intro w hSw; (try dsimp only at hSw); first | (go_simp; done) | (go_simp; with_reducible rfl)); try simp only [Act.put, List.setIfInBounds_toArray, List.set_cons_zero, List.set_cons_succ]
          refine wpAnyH_take (i := 37) (oi := ⟨some 79, _, _, _, _, _⟩) (v := ?_) rfl (by kernel_rfl) (by kernel_rfl) (by kernel_rfl) (fun _ _ _ h => h) (Or.inl ⟨by rfl, ?_⟩) (by assumption) ?_; rotate_left; (intro w hSw; (try dsimp only at hSw); first | (go_simp; done) | (go_simp; with_reducible rfl)); try simp only [Act.put, List.setIfInBounds_toArray, List.set_cons_zero, List.set_cons_succ]
          refine wpAnyH_ready (rs := [38]) (by kernel_rfl) (by simp) ?_
          refine AllReadyH.cons (o := ⟨some 80, _, _, _, _, _⟩) rfl (fun K hK => ?_) AllReadyH.nil
          go_simp
          refine (impl_greenAt _ 0 _ pl (s + n) (HP.out _ (hB4.trans (hB7.mono hB4.size)))).mono ?_; rintro e w8 ⟨v8, rfl, hO8, hB8'⟩; rw [HGA.out] at hO8; have hB8 : Below w4.heap.size w4 w8 := hB7.trans (hB8'.mono hB7.size)
          first | refine hK.out _ _ ?_ (fun hHeld => ?_) | (go_wp2_with fail; refine hK.out _ _ ?_ (fun hHeld => ?_))
          · exact HK.out _ (hB4.trans (hB8.mono hB4.size))
          clear hK K
          try simp only [Act.put, List.setIfInBounds_toArray, List.set_cons_zero, List.set_cons_succ]
          refine wpAnyH_ready (rs := [39]) (by kernel_rfl) (by simp) ?_
          refine AllReadyH.cons (o := ⟨some 81, _, _, _, _, _⟩) rfl (fun K hK => ?_) AllReadyH.nil
          go_simp
          refine (isPart_same _ _ _ ph (Rd.below HI6.out (hB4.trans (hB8.mono hB4.size)) (Nat.le_refl _) (by decide)) (hO8.ints rfl)).mono ?_; rintro e w9 ⟨rfl, rfl⟩
          first | refine hK.out _ _ ?_ (fun hHeld => ?_) | (go_wp2_with fail; refine hK.out _ _ ?_ (fun hHeld => ?_))
          · exact HK.out _ (hB4.trans (hB8.mono hB4.size))
          clear hK K
          try simp only [Act.put, List.setIfInBounds_toArray, List.set_cons_zero, List.set_cons_succ]
          refine wpAnyH_take (i := 40) (oi := ⟨some 82, _, _, _, _, _⟩) (v := ?_) rfl (by kernel_rfl) (by kernel_rfl) (by kernel_rfl) (fun _ _ _ h => h) (Or.inl ⟨by rfl, ?_⟩) (by assumption) ?_; rotate_left; (intro w hSw; (try dsimp only at hSw); first | (go_simp; done) | (go_simp; with_reducible rfl)); try simp only [Act.put, List.setIfInBounds_toArray, List.set_cons_zero, List.set_cons_succ]
          refine wpAnyH_take (i := 41) (oi := ⟨some 2, _, _, _, _, _⟩) (v := ?_) rfl (by kernel_rfl) (by kernel_rfl) (by kernel_rfl) (fun _ _ _ h => h) (Or.inl ⟨by rfl, ?_⟩) (by assumption) ?_; rotate_left; (intro w hSw; (try dsimp only at hSw); first | (go_simp; done) | (go_simp; with_reducible rfl)); try simp only [Act.put, List.setIfInBounds_toArray, List.set_cons_zero, List.set_cons_succ]
          refine wpAnyH_done (by kernel_rfl) ?_ _
          go_wp2
          go_ret
          exact ⟨rfl, HB2.out.trans ((hB4.trans (hB8.mono hB4.size)).mono HB2.out.size)⟩
        · have d2 : (n == 0) = false := by simp [hnz]
          have HTB : Hid (twO pl k (s + n - 1) = 1) := by unfold Hid; rw [HIN.out _ (by omega) (by omega), HBF.out hnz]
          have e2 : ((1 : Int) == 1) = true := rfl
          clear hnz
          go_wp2_with fail
          go_region_held3 (fun w' => w'.cell? ⟨w1.heap.size, 0, none⟩ = some (.slice b4 pl.cl.length d4) ∧ w'.cell? ⟨w1.heap.size, 1, none⟩ = some (.slice (some ⟨bs5, os5, none⟩) pl.st.length d5) ∧ w'.cell? ⟨bs5, os5 + k * 2, none⟩ = some (.slice a6 ph.length c6))
            (first | exact HK.out _ (hB4.trans (hB8.mono hB4.size)) | exact HK.out _ (hB4.trans (hB7.mono hB4.size)) | exact HK.out _ (hB4.trans (hB6.mono hB4.size)) | exact HK.out _ (hB4.trans (hB5.mono hB4.size)) | exact HK.out _ (hB4.trans ((Below.drew (Below.refl w4.heap.size w4)).mono hB4.size)) | assumption | go_keep)
            ((first
              | (go_at_call 16; (with_reducible refine (impl_tramWait _ 0 _ pl k (s + n) (HP.out _ (hB4.trans ((Below.drew (Below.refl w4.heap.size w4)).mono hB4.size)))).mono ?_); rintro e w5 ⟨rfl, hB5'⟩; rw [HTN.out]; have hB5 : Below w4.heap.size w4 w5 := (Below.drew (Below.refl w4.heap.size w4)).trans hB5')
              | (go_at_call 16; (with_reducible refine (impl_tramWait _ 0 _ pl k (s + n - 1) (HP.out _ (hB4.trans (hB5.mono hB4.size)))).mono ?_); rintro e w6 ⟨rfl, hB6'⟩; rw [HTB.out]; have hB6 : Below w4.heap.size w4 w6 := hB5.trans (hB6'.mono hB5.size))
              | (go_at_call 11; refine (impl_cycleOf _ 0 _ pl (HP.out _ (hB4.trans (hB6.mono hB4.size)))).mono ?_; rintro e w7 ⟨rfl, hB7'⟩; rw [HCO.out]; have hB7 : Below w4.heap.size w4 w7 := hB6.trans (hB7'.mono hB6.size))
              | (go_at_call 19; refine (impl_greenAt _ 0 _ pl (s + n) (HP.out _ (hB4.trans (hB7.mono hB4.size)))).mono ?_; rintro e w8 ⟨v8, rfl, hO8, hB8'⟩; rw [HGA.out] at hO8; have hB8 : Below w4.heap.size w4 w8 := hB7.trans (hB8'.mono hB7.size))
              | (go_at_call 18; refine (isPart_same _ _ _ ph (Rd.below HI6.out (hB4.trans (hB8.mono hB4.size)) (Nat.le_refl _) (by decide)) (hO8.ints rfl)).mono ?_; rintro e w9 ⟨rfl, rfl⟩)))
          go_wp2
          go_ret
          exact ⟨rfl, HB2.out.trans ((hB4.trans (hB8.mono hB4.size)).mono HB2.out.size)⟩
  · clear hv
    go_enter Try.func7, Try.ntmps7
    go_wp2
    go_ret
    exact ⟨rfl, Below.refl _ _⟩
end Go.Proofs.Ytmccdmlfaaphkaa
