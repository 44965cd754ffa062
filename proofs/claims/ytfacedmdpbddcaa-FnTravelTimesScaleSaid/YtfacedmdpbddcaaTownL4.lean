/- FnTravelTimesScale: the walk. -/
import Derived.Test.YtfacedmdpbddcaaTownD
import Derived.Test.YtfacedmdpbddcaaTown9
import Derived.Test.YtfacedmdpbddcaaEqI
import Derived.ProofKit
import Derived.Deep.RegionHeld3
namespace Go.Proofs.Ytfacedmdpbddcaa
open Go.RowKit
set_option linter.unusedVariables false
set_option linter.unusedSimpArgs false

set_option maxHeartbeats 4000000 in
theorem fnTravelTimesScale_walk (w : World) (v : Value) (bs : List UInt8) (hv : Bytes w 0 v bs) :
    Calls Try.prog 6 #[v] w fun e w' => e = .returned (.bool true) ∧ Below w.heap.size w w' := by
  obtain ⟨ao, cap, rfl, hcap, hm⟩ := hv.form
  by_cases hlen : bs.length ≤ 1048576
  · go_enter Try.func6, Try.ntmps6
    go_wp2_with fail
    go_at_call 18
    refine (drawTravelTimes _ _ bs hv).mono ?_; rintro e w1 ⟨n, v1, rs, s, rfl, hr0, hl24, hn, hs, hB⟩
    have hr1 : Rods w1 0 v1 rs := hr0.mono (Nat.zero_le _)
    clear hv hr0
    obtain ⟨ao1, cap1, rfl, hcap1, hm1⟩ := hr1.form
    go_wp2_with fail
    go_at_call 17
    refine (impl_travelTimes _ 0 n _ rs s hr1).mono ?_; rintro e w2 ⟨v2, rfl, hO2, hB2⟩
    have hr2 : Rods w2 0 _ rs := Rd.below hr1 hB2 (Nat.le_refl _) (by decide)
    have hT2 := hB.trans (hB2.mono hB.size)
    clear hr1 hB2 hB
    go_wp2_with fail
    go_at_call 20
    refine (spec_travelTimes _ 0 n _ rs s hr2).mono ?_; rintro e w3 ⟨v3, rfl, hO3, hB3⟩
    have hr3 : Rods w3 0 _ rs := Rd.below hr2 hB3 (Nat.le_refl _) (by decide)
    have hO23 := hO2.below hB3 (Nat.le_refl _)
    have hT3 := hT2.trans (hB3.mono hT2.size)
    clear hr2 hB3 hT2 hO2
    have hI3 : Ints w3 0 v2 (ttL n rs s) := hO23.rd.mono (Nat.zero_le _)
    have hJ3 : Ints w3 0 v3 (ttL n rs s) := hO3.rd.mono (Nat.zero_le _)
    go_wp2_with fail
    go_at_call 19
    refine (equalInts_same _ _ _ (ttL n rs s) hI3 hJ3).mono ?_; rintro e w4 ⟨rfl, hB4⟩
    have hr4 : Rods w4 0 _ rs := Rd.below hr3 hB4 (Nat.le_refl _) (by decide)
    have hO4 := hO23.below hB4 (Nat.le_refl _)
    have hI4 : Ints w4 0 v2 (ttL n rs s) := hO4.rd.mono (Nat.zero_le _)
    have hT4 := hT3.trans (hB4.mono hT3.size)
    clear hr3 hB4 hT3 hO23 hO3 hI3 hJ3
    obtain ⟨ao2, cap2, rfl, hcap2, hm2⟩ := hI4.form
    by_cases hz : (ttL n rs s).length = 0
    · have hz1 : (((ttL n rs s).length : Int) == 0) = true := by rw [hz]; rfl
      clear hz
      go_wp2_with fail
      go_at_call 20
      refine (spec_travelTimes _ 0 n _ rs s hr4).mono ?_; rintro e w5 ⟨v5, rfl, hO5, hB5⟩
      have hT5 := hT4.trans (hB5.mono hT4.size)
      have hI5 : Ints w5 0 _ (ttL n rs s) := Rd.below hI4 hB5 (Nat.le_refl _) (by decide)
      have hJ5 : Ints w5 0 v5 (ttL n rs s) := hO5.rd.mono (Nat.zero_le _)
      clear hz1 hI4 hO5 hB5 hr4 hO4
      go_wp2_with fail
      go_at_call 19
      refine (equalInts_same _ _ _ (ttL n rs s) hI5 hJ5).mono ?_; rintro e w6 ⟨rfl, hB6⟩
      go_wp2
      go_ret
      exact ⟨rfl, hT5.trans (hB6.mono hT5.size)⟩
    · have hz1 : (((ttL n rs s).length : Int) == 0) = false := beq_eq_false_iff_ne.mpr (by omega)
      obtain ⟨N, S, rfl, rfl, hS, hN8, hval, htt⟩ := ttL_pos hz
      rw [htt] at hI4 hz1 hcap2 hO4 ⊢
      rw [times_len] at hz1 hcap2 ⊢
      have HT := Lib.hid hT4
      have hN1 : 1 ≤ N := by omega
      have HI : Hid (∀ v, v < N → ∃ b off, ao2 = some ⟨b, off, none⟩ ∧ w4.cell? ⟨b, off + v, none⟩ = some (.int .i64 ((times N rs S).getD v 0))) := fun v hv => by
        obtain ⟨b, off, rfl, _, _, hc⟩ := hI4.spot 0 (by rw [times_len]; omega)
        exact ⟨b, off, rfl, hc v (by rw [times_len]; exact hv)⟩
      have hA2 : ∃ b2 off2, ao2 = some ⟨b2, off2, none⟩ ∧ b2 < w4.heap.size := by
        obtain ⟨b, off, rfl, _, hlt, hc⟩ := hI4.spot 0 (by rw [times_len]; omega)
        exact ⟨b, off, rfl, hlt⟩
      obtain ⟨b2, off2, rfl, hb2⟩ := hA2
      have HC : Hid (∀ v, v < N → w4.cell? ⟨b2, off2 + v, none⟩ = some (.int .i64 ((times N rs S).getD v 0))) := fun v hv => by
        obtain ⟨b, off, e1, hc⟩ := HI.out v hv
        cases e1; exact hc
      have HV := Lib.hid hval
      have HR : Hid (∀ i, i < rs.length → rs.getD i r0 ∈ rs) := fun i hi => by simp [hi]
      have HOK : Hid (∀ r ∈ rs, 0 ≤ r.f ∧ r.f < N ∧ 0 ≤ r.t ∧ r.t < N ∧ 1 ≤ r.c ∧ r.c ≤ 60) := fun r hr => by have := okR_iff.1 (validR_mem hval hr); omega
      clear hI4 hT4 HI htt hz hval
      have hO0 := Own.made w4 [] 39 w4.heap.size 3 0 rfl (Nat.le_refl _) (by decide)
      have hB0 : Below w4.heap.size w4 (w4.alloc (.cells #[] 39)) := (Below.refl _ _).alloc (Nat.le_refl _) _
      go_wp2_with fail
      go_loopw [7, 8] (fun tv i wo => ∃ k : Nat, k ≤ rs.length ∧ i = .int .i64 k ∧ Own wo w4.heap.size 39 3 tv ((rs.take k).map dbl).length (((rs.take k).map dbl).flatMap rodCells) ∧ (∀ j, j < k → 2 * (rs.getD j r0).c ≤ 60) ∧ Below w4.heap.size w4 wo)
        (fun _ i _ => rs.length - (intOf i).toNat)
      case atStart => exact ⟨0, Nat.zero_le _, rfl, hO0, fun j hj => by omega, hB0⟩
      case round =>
        clear hO0 hB0
        obtain ⟨k, hk, rfl, hO, hall, hB⟩ := hrel
        by_cases hlt : k < rs.length
        · obtain ⟨b, off, rfl, _, hb1, hc⟩ := Rods.spot hr4 (by omega)
          obtain ⟨s1, s2, s3⟩ := hc k hlt
          rw [← hB.cell (p := ⟨b, off + k * 3, none⟩) hb1] at s1
          rw [← hB.cell (p := ⟨b, off + k * 3 + 1, none⟩) hb1] at s2
          rw [← hB.cell (p := ⟨b, off + k * 3 + 2, none⟩) hb1] at s3
          have hbr : b < wr.heap.size := Nat.lt_of_lt_of_le hb1 hB.size
          have hx0 := HOK.out _ (HR.out k hlt)
          have htk : rs.take (k + 1) = rs.take k ++ [rs.getD k r0] := by rw [List.take_succ_eq_append_getElem hlt]; simp [hlt]
          have hAL := Lib.hid hall
          obtain ⟨x, hx⟩ : ∃ x, x = rs.getD k r0 := ⟨_, rfl⟩
          have HX := Lib.hid hx
          rw [← hx] at s1 s2 s3 hx0 htk
          obtain ⟨xf, xt, xc⟩ := x
          simp only at s1 s2 s3 hx0
          obtain ⟨x1, x2, x3, x4, x5, x6⟩ := hx0
          have wr1 : IntKind.i64.wrap (2 * xc) = 2 * xc := IntWalk.i64_in _ (by omega)
          have hk0 : (0 : Int) ≤ (k : Int) := by omega
          have hk1 : (k : Int) < (rs.length : Int) := by omega
          have hl2 : ((rs.take k).map dbl).length ≤ 24 := by simp; omega
          have HTK := Lib.hid htk
          clear hc hx hall htk
          by_cases h60 : 60 < 2 * xc
          · have d60 : decide (60 < 2 * xc) = true := decide_eq_true h60
            go_wp2_with fail
            go_ret
            exact ⟨rfl, HT.out.trans (hB.mono HT.out.size)⟩
          · have d60 : decide (60 < 2 * xc) = false := decide_eq_false h60
            have hOd := hO.grown (row := none) (w' := wr.drew) ⟨rfl, rfl, rfl, Nat.le_refl _, fun _ _ _ => rfl⟩ (fun _ e => by cases e)
            have hBd := Below.drew hB
            have hzd := hBd.size
            go_wp2_with fail
            go_region_held3 (fun w' => w'.cell? ⟨b, off + k * 3, none⟩ = some (.int .i64 xf) ∧ w'.cell? ⟨b, off + k * 3 + 1, none⟩ = some (.int .i64 xt) ∧ w'.cell? ⟨b, off + k * 3 + 2, none⟩ = some (.int .i64 xc))
              (first | go_keep | exact ⟨(World.cell?_of_block (hg5.block b hbr (fun e => by have := (hOd.wblk e.symm).1; omega))).trans s1, (World.cell?_of_block (hg5.block b hbr (fun e => by have := (hOd.wblk e.symm).1; omega))).trans s2, (World.cell?_of_block (hg5.block b hbr (fun e => by have := (hOd.wblk e.symm).1; omega))).trans s3⟩)
              ((refine step_append_rod _ (by rfl) _ _ 25 (by rfl) 39 Try.underlying25 info_road w4.heap.size u7 ((rs.take k).map dbl) (by rfl) hOd _ _ _ _ (by rfl) (by omega) (by omega) hzd ?_; intro v5 w5 hO5 hg5 _))
            have hB5 := hBd.trans (below_of_grownBy hg5 hzd (fun x hx => (hOd.wblk hx).1))
            have e5 : (rs.take k).map dbl ++ [⟨xf, xt, 2 * xc⟩] = (rs.take (k + 1)).map dbl := by rw [HTK.out, List.map_append]; rfl
            rw [e5] at hO5
            clear hO hOd hg5 e5 hB hBd
            go_wp2_with fail
            go_roundw
            case rel => exact ⟨k + 1, by omega, by go_num, hO5, fun j hj => by
              by_cases h : j = k
              · subst h; rw [← HX.out]; simp only; omega
              · exact hAL.out j (by omega), hB5⟩
            case measure => simp [intOf]; omega
        · obtain rfl : k = rs.length := by omega
          have hall2 : ∀ r ∈ rs, 2 * r.c ≤ 60 := fun r hr => by
            obtain ⟨j, hj, rfl⟩ := List.getElem_of_mem hr
            have := hall j hj
            simpa [hj] using this
          rw [List.take_length] at hO
          have htw : Rods wr 0 u7 (rs.map dbl) := hO.rd.mono (Nat.zero_le _)
          have HD := Lib.hid (fun v hv => tt_dbl HV.out hall2 hS (v := v) hv)
          have hv2 := dbl_valid HV.out hall2
          have hE : Hid (ttL N (rs.map dbl) S = times N (rs.map dbl) S) := by unfold Hid ttL; rw [if_pos (askT_iff.2 ⟨hv2, by omega, by omega⟩)]; simp
          clear hall hall2 hO
          go_wp2_with fail
          go_at_call 17
          refine (impl_travelTimes _ 0 N _ (rs.map dbl) S htw).mono ?_; rintro e w5 ⟨v5, rfl, hO5, hB5⟩
          rw [hE.out, times_len] at hO5
          have hBB := hB.trans (hB5.mono hB.size)
          obtain ⟨ao5, cap5, rfl, hcap5, hm5⟩ := hO5.form
          obtain ⟨g5, rfl, _, _, _, _, _⟩ := hO5.parts (by omega)
          have HC5 : Hid (∀ v, v < N → w5.cell? ⟨g5, v, none⟩ = some (.int .i64 (dblx ((times N rs S).getD v 0)))) := fun v hv => by
            rw [← HD.out v hv]; exact (ints_cell hO5 hv).1
          have HC2 : Hid (∀ v, v < N → w5.cell? ⟨b2, off2 + v, none⟩ = some (.int .i64 ((times N rs S).getD v 0))) := fun v hv => by
            rw [hBB.cell (p := ⟨b2, off2 + v, none⟩) hb2]; exact HC.out v hv
          have HT5 := Lib.hid (HT.out.trans (hBB.mono HT.out.size))
          clear hO5 hB5 hB htw hBB hv2 hr4
          go_wp2_with fail
          go_loopw [10] (fun i wo => ∃ k : Nat, k ≤ N ∧ i = .int .i64 k ∧ Below w5.heap.size w5 wo) (fun i _ => N - (intOf i).toNat)
          case atStart => exact ⟨0, Nat.zero_le _, rfl, Below.refl _ _⟩
          case round =>
            obtain ⟨k, hk, rfl, hB⟩ := hrel
            by_cases hlt : k < N
            · have p1 := HC5.out k hlt
              have p2 := HC2.out k hlt
              rw [← hB.cell (p := ⟨g5, k, none⟩) (World.block_lt_of_cell? w5 ⟨g5, k, none⟩ p1)] at p1
              rw [← hB.cell (p := ⟨b2, off2 + k, none⟩) (World.block_lt_of_cell? w5 ⟨b2, off2 + k, none⟩ p2)] at p2
              have bF := tt_bd HV.out hS (v := k) hlt
              obtain ⟨a, ha⟩ : ∃ a, a = (times N rs S).getD k 0 := ⟨_, rfl⟩
              rw [← ha] at p1 p2 bF
              have hk0 : (0 : Int) ≤ (k : Int) := by omega
              have hk1 : (k : Int) < (N : Int) := by omega
              have dkn : decide (N ≤ k) = false := decide_eq_false (by omega)
              have dk : decide ((N : Int) ≤ (k : Int)) = false := decide_eq_false (by omega)
              clear ha
              by_cases h0 : 0 ≤ a
              · have dd : dblx a = 2 * a := by unfold dblx; rw [if_neg (by omega)]
                rw [dd] at p1
                have d0 : decide (0 ≤ a) = true := decide_eq_true h0
                have d1 : decide (a < 0) = false := decide_eq_false (by omega)
                have wr1 : IntKind.i64.wrap (2 * a) = 2 * a := IntWalk.i64_in _ (by omega)
                have t1 : (2 * a != 2 * a) = false := by simp
                clear dd
                go_wp2_with fail
                go_quiet (fail)
                go_wp2
                go_roundw
                case rel => exact ⟨k + 1, by omega, by go_num, below_drewN hB _⟩
                case measure => simp [intOf]; omega
              · have dd : dblx a = -1 := by unfold dblx; rw [if_pos (by omega)]
                rw [dd] at p1
                have d0 : decide (0 ≤ a) = false := decide_eq_false h0
                have d1 : decide (a < 0) = true := decide_eq_true (by omega)
                clear dd
                go_wp2_with fail
                go_quiet (fail)
                go_wp2
                go_roundw
                case rel => exact ⟨k + 1, by omega, by go_num, below_drewN hB _⟩
                case measure => simp [intOf]; omega
            · have HF := Lib.hid (HT5.out.trans (hB.mono HT5.out.size))
              go_wp2_with fail
              go_ret
              exact ⟨rfl, HF.out⟩
  · go_enter Try.func6, Try.ntmps6
    go_wp2
    go_ret
    exact ⟨rfl, Below.refl _ _⟩
end Go.Proofs.Ytfacedmdpbddcaa
