/- FnRouteOf: the walk. -/
import Derived.Test.YtfacedmdpbddcaaTownD
import Derived.Test.YtfacedmdpbddcaaTownL6
import Derived.Test.YtfacedmdpbddcaaEqI
import Derived.ProofKit
import Derived.Deep.RegionHeld3
namespace Go.Proofs.Ytfacedmdpbddcaa
open Go.RowKit
set_option linter.unusedVariables false
set_option linter.unusedSimpArgs false

set_option maxRecDepth 100000 in
set_option maxHeartbeats 8000000 in
theorem fnRouteOf_walk (w : World) (v : Value) (bs : List UInt8) (hv : Bytes w 0 v bs) :
    Calls Try.prog 8 #[v] w fun e w' => e = .returned (.bool true) ∧ Below w.heap.size w w' := by
  obtain ⟨ao, cap, rfl, hcap, hm⟩ := hv.form
  by_cases hlen : bs.length ≤ 1048576
  · go_enter Try.func8, Try.ntmps8
    go_wp2_with fail
    go_at_call 25
    refine (drawRouteOf _ _ bs hv).mono ?_; rintro e w1 ⟨n, v1, rs, s, t, rfl, hr1, hl24, hn, hs, ht, hB⟩
    clear hv
    obtain ⟨ao1, cap1, rfl, hcap1, hm1⟩ := hr1.form
    go_wp2_with fail
    go_at_call 26
    refine (impl_routeOf _ 0 n _ rs s t hr1).mono ?_; rintro e w2 ⟨v2, rfl, hO2, hB2⟩
    have hr2 : Rods w2 0 _ rs := Rd.below hr1 hB2 (Nat.le_refl _) (by decide)
    have hT2 := hB.trans (hB2.mono hB.size)
    clear hr1 hB2 hB
    go_wp2_with fail
    go_at_call 27
    refine (spec_routeOf _ 0 n _ rs s t hr2).mono ?_; rintro e w3 ⟨v3, rfl, hO3, hB3⟩
    have hr3 : Rods w3 0 _ rs := Rd.below hr2 hB3 (Nat.le_refl _) (by decide)
    have hO23 := hO2.below hB3 (Nat.le_refl _)
    have hT3 := hT2.trans (hB3.mono hT2.size)
    clear hr2 hB3 hT2 hO2
    have hI3 : Ints w3 0 v2 (routeL n rs s t) := hO23.rd.mono (Nat.zero_le _)
    have hJ3 : Ints w3 0 v3 (routeL n rs s t) := hO3.rd.mono (Nat.zero_le _)
    go_wp2_with fail
    go_at_call 19
    refine (equalInts_same _ _ _ (routeL n rs s t) hI3 hJ3).mono ?_; rintro e w4 ⟨rfl, hB4⟩
    have hr4 : Rods w4 0 _ rs := Rd.below hr3 hB4 (Nat.le_refl _) (by decide)
    have hO4 := hO23.below hB4 (Nat.le_refl _)
    have hI4 : Ints w4 0 v2 (routeL n rs s t) := hO4.rd.mono (Nat.zero_le _)
    have hT4 := hT3.trans (hB4.mono hT3.size)
    clear hr3 hB4 hT3 hO23 hO3 hI3 hJ3
    obtain ⟨ao2, cap2, rfl, hcap2, hm2⟩ := hI4.form
    by_cases hask : askR n rs s t = true
    · obtain ⟨hval, hs2, ht2⟩ := askR_iff.1 hask
      obtain ⟨a1, a2, a3, a4⟩ := validR_iff.1 hval
      have k1 : ¬ s < 0 := by omega
      have k2 : ¬ n ≤ s := by omega
      have k3 : ¬ t < 0 := by omega
      have k4 : ¬ n ≤ t := by omega
      have HV0 := Lib.hid hval
      clear a4
      go_wp2_with fail
      go_at_call 14
      refine (impl_validRoads _ 0 n _ rs hr4).mono ?_; rintro e w5 ⟨rfl, hB5⟩
      rw [hval]
      have hr5 : Rods w5 0 _ rs := Rd.below hr4 hB5 (Nat.le_refl _) (by decide)
      have hI5 : Ints w5 0 _ (routeL n rs s t) := Rd.below hI4 hB5 (Nat.le_refl _) (by decide)
      have hT5 := hT4.trans (hB5.mono hT4.size)
      clear hr4 hI4 hB5 hO4 hval
      go_wp2_with fail
      go_at_call 17
      refine (impl_travelTimes _ 0 n _ rs s hr5).mono ?_; rintro e w6 ⟨v6, rfl, hO6, hB6⟩
      have hr6 : Rods w6 0 _ rs := Rd.below hr5 hB6 (Nat.le_refl _) (by decide)
      have hI6 : Ints w6 0 _ (routeL n rs s t) := Rd.below hI5 hB6 (Nat.le_refl _) (by decide)
      have hT6 := hT5.trans (hB6.mono hT5.size)
      clear hr5 hI5 hB6 hT5 hT4
      obtain ⟨N, rfl⟩ := Int.eq_ofNat_of_zero_le (show 0 ≤ n by omega)
      obtain ⟨S, rfl⟩ := Int.eq_ofNat_of_zero_le hs2.1
      obtain ⟨T, rfl⟩ := Int.eq_ofNat_of_zero_le ht2.1
      have hS : S < N := by omega
      have hTN : T < N := by omega
      have htt : ttL N rs S = times N rs S := by unfold ttL; rw [if_pos (askT_iff.2 ⟨HV0.out, hs2⟩)]; rfl
      rw [htt, times_len] at hO6
      obtain ⟨ao6, cap6, rfl, hcap6, hm6⟩ := hO6.form
      obtain ⟨g6, rfl, _, hg6, _, _, _⟩ := hO6.parts (by omega)
      have hTW : Town N rs T (restOf N rs T) := town_of HV0.out (by omega) (by omega)
      have cT := (ints_cell hO6 (F := T) hTN).1
      rw [town_fwd hTW hS] at cT
      have hbS := rest_bd HV0.out hTN hS
      have hT0 : (T : Int) < (N : Int) := by omega
      clear hO6 htt
      by_cases hz : (routeL N rs S T).length = 0
      · have hz1 : (((routeL N rs S T).length : Int) == 0) = true := by rw [hz]; rfl
        have hneg : restD (restOf N rs T) S < 0 := by
          apply Classical.byContradiction; intro h
          have e : routeL N rs S T = routeN rs (restOf N rs T) N T (restD (restOf N rs T) S).toNat S := by unfold routeL; rw [if_pos ⟨hask, by omega⟩]
          rw [e, routeN_head] at hz; simp at hz
        obtain ⟨d, hd⟩ : ∃ d, d = restD (restOf N rs T) S := ⟨_, rfl⟩
        rw [← hd] at hneg cT
        clear hz hd hask hTW hI6 hbS
        go_wp2_with fail
        go_ret
        exact ⟨by simp <;> omega, hT6⟩
      · have hz1 : (((routeL N rs S T).length : Int) == 0) = false := beq_eq_false_iff_ne.mpr (by omega)
        have h0 : 0 ≤ restD (restOf N rs T) S := by
          apply Classical.byContradiction; intro h
          apply hz; unfold routeL; rw [if_neg (fun x => h x.2)]; rfl
        have e : routeL N rs S T = routeN rs (restOf N rs T) N T (restD (restOf N rs T) S).toNat S := by unfold routeL; rw [if_pos ⟨hask, h0⟩]
        have hal := route_along hS hTN HV0.out h0
        rw [← e] at hal
        have hlen2 := routeL_len N rs S T
        have hzT := hTW.zero
        obtain ⟨b2, off2, rfl, _, hb2, hc2⟩ := hI6.spot 0 (by omega)
        have HTW := Lib.hid hTW
        have HBD := Lib.hid (fun (v : Nat) (hv : v < N) => rest_bd HV0.out hTN (v := v) hv)
        obtain ⟨rest, hrest⟩ : ∃ rest, rest = restOf N rs T := ⟨_, rfl⟩
        rw [← hrest] at hal cT hbS h0 HTW hzT HBD
        obtain ⟨o, ho⟩ : ∃ o, o = routeL N rs S T := ⟨_, rfl⟩
        rw [← ho] at hal hc2 hz1 hcap2 hlen2 ⊢
        obtain ⟨hal1, hal2, hal3, hal4, hal5⟩ := hal
        have HC2 := Lib.hid hc2
        have HA := Lib.hid hal5
        have HA2 := Lib.hid hal2
        have HA3 := Lib.hid hal3
        have HZT := Lib.hid hzT
        obtain ⟨L, hL⟩ : ∃ L, L = o.length := ⟨_, rfl⟩
        rw [← hL] at hal1 hz1 hcap2 hal4 hlen2 ⊢
        have HL := Lib.hid hL
        obtain ⟨dS, hdS⟩ : ∃ d, d = restD rest S := ⟨_, rfl⟩
        have HDS := Lib.hid hdS
        rw [← hdS] at cT hbS h0 hal4
        have HR : Hid (∀ i, i < rs.length → rs.getD i r0 ∈ rs) := fun i hi => by simp [hi]
        have hL1 : 1 ≤ L := by omega
        clear hask hTW hI6 e hz hc2 hal5 hal2 hal3 hL hdS ho hrest hzT
        go_wp2_with fail
        go_loopw [9, 10] (fun tv i wo => ∃ q : Nat, 1 ≤ q ∧ q ≤ L ∧ i = .int .i64 q ∧ tv = .int .i64 (dS - restD rest (o.getD (q - 1) 0)) ∧ Below w6.heap.size w6 wo) (fun _ i _ => L - (intOf i).toNat)
        case atStart => exact ⟨1, Nat.le_refl _, hL1, rfl, by rw [HA2.out, ← HDS.out]; simp, Below.refl _ _⟩
        case round =>
          obtain ⟨q, hq1, hqL, rfl, rfl, hB⟩ := hrel
          have wq : IntKind.i64.wrap ((q : Int) - 1) = (q : Int) - 1 := IntWalk.i64_in _ (by omega)
          by_cases hqq : q < L
          · obtain ⟨p0, p1, p2, p3, p4⟩ := HA.out (q - 1) (by rw [← HL.out]; omega)
            rw [show q - 1 + 1 = q by omega] at p4
            have cA := HC2.out (q - 1) (by rw [← HL.out]; omega)
            have cM := HC2.out q (by rw [← HL.out]; omega)
            have hst := HTW.out.step p0 p1 p2 p3
            have hle := HTW.out.least p0 p1 p2 p3
            rw [← p4] at hst hle
            obtain ⟨a, ha⟩ : ∃ a, a = o.getD (q - 1) 0 := ⟨_, rfl⟩
            obtain ⟨m, hm'⟩ : ∃ m, m = o.getD q 0 := ⟨_, rfl⟩
            rw [← ha] at p0 p1 p2 cA hst hle ⊢
            rw [← hm'] at cM hst hle
            have HM := Lib.hid hm'
            obtain ⟨A, rfl⟩ := Int.eq_ofNat_of_zero_le p0
            obtain ⟨M, rfl⟩ := Int.eq_ofNat_of_zero_le hst.1
            have bA := HBD.out A (by omega)
            have HLE := Lib.hid hle
            obtain ⟨dA, hdA⟩ : ∃ d, d = restD rest A := ⟨_, rfl⟩
            obtain ⟨dM, hdM⟩ : ∃ d, d = restD rest M := ⟨_, rfl⟩
            have HDA := Lib.hid hdA
            have HDM := Lib.hid hdM
            have bA2 : 0 ≤ dA ∧ dA ≤ 20000 := by rw [hdA]; exact ⟨p2, bA.2⟩
            have bM2 : 0 ≤ dM ∧ dM < dA := by rw [hdA, hdM]; exact ⟨hst.2.2.1, hst.2.2.2⟩
            rw [← hdA]
            have e1 : ((q : Int) - 1).toNat = q - 1 := by omega
            have g1 : 0 ≤ (q : Int) - 1 := by omega
            have g2 : (q : Int) - 1 < (L : Int) := by omega
            have g3 : (q : Int) < (L : Int) := by omega
            clear p0 p1 p2 p3 p4 ha hm' hst hle hdA hdM bA
            go_wp2_with fail
            go_loopw [11, 12] (fun lv i wi => ∃ k : Nat, k ≤ rs.length ∧ i = .int .i64 k ∧ lv = .int .i64 (leastI rs A M k) ∧ Below w6.heap.size w6 wi) (fun _ i _ => rs.length - (intOf i).toNat)
            case atStart => exact ⟨0, Nat.zero_le _, rfl, rfl, hB⟩
            case round =>
              clear hB
              obtain ⟨k, hk, rfl, rfl, hB⟩ := hrel
              by_cases hlt : k < rs.length
              · obtain ⟨b, off, rfl, _, hb1, hc⟩ := Rods.spot hr6 (by omega)
                obtain ⟨s1, s2, s3⟩ := hc k hlt
                rw [← hB.cell (p := ⟨b, off + k * 3, none⟩) hb1] at s1
                rw [← hB.cell (p := ⟨b, off + k * 3 + 1, none⟩) hb1] at s2
                rw [← hB.cell (p := ⟨b, off + k * 3 + 2, none⟩) hb1] at s3
                rw [← hB.cell (p := ⟨b2, off2 + (q - 1), none⟩) hb2] at cA
                rw [← hB.cell (p := ⟨b2, off2 + q, none⟩) hb2] at cM
                have hstep : leastI rs A M (k + 1) = if (rs.getD k r0).f = A ∧ (rs.getD k r0).t = M ∧ (leastI rs A M k < 0 ∨ (rs.getD k r0).c < leastI rs A M k) then (rs.getD k r0).c else leastI rs A M k := rfl
                have ok := okR_iff.1 (validR_mem HV0.out (HR.out k hlt))
                obtain ⟨x, hx⟩ : ∃ x, x = rs.getD k r0 := ⟨_, rfl⟩
                rw [← hx] at s1 s2 s3 hstep ok
                obtain ⟨xf, xt, xc⟩ := x
                simp only at s1 s2 s3 hstep ok
                obtain ⟨F, rfl⟩ := Int.eq_ofNat_of_zero_le ok.1
                obtain ⟨X, rfl⟩ := Int.eq_ofNat_of_zero_le ok.2.2.1
                have hxc : 1 ≤ xc ∧ xc ≤ 60 := ⟨ok.2.2.2.2.2.1, ok.2.2.2.2.2.2⟩
                obtain ⟨lk, hlk⟩ : ∃ m, m = leastI rs A M k := ⟨_, rfl⟩
                rw [← hlk] at hstep ⊢
                have HST := Lib.hid hstep
                have hk0 : (0 : Int) ≤ (k : Int) := by omega
                have hk1 : (k : Int) < (rs.length : Int) := by omega
                clear hc hx hstep hlk ok
                by_cases q1 : F = A
                · have d1 : ((F : Int) == (A : Int)) = true := by simp [q1]
                  have d1n : (F == A) = true := by simp [q1]
                  by_cases q2 : X = M
                  · have d2 : ((X : Int) == (M : Int)) = true := by simp [q2]
                    have d2n : (X == M) = true := by simp [q2]
                    by_cases q3 : lk < 0
                    · have d3 : decide (lk < 0) = true := decide_eq_true q3
                      have HE : Hid (leastI rs A M (k + 1) = xc) := by unfold Hid; rw [HST.out, if_pos ⟨by omega, by omega, .inl q3⟩]
                      clear HST q1 q2
                      go_wp2_with fail
                      go_quiet (fail)
                      go_wp2
                      go_roundw
                      case rel => exact ⟨k + 1, by omega, by go_num, by rw [HE.out], below_drewN hB _⟩
                      case measure => simp [intOf]; omega
                    · have d3 : decide (lk < 0) = false := decide_eq_false q3
                      by_cases q4 : xc < lk
                      · have d4 : decide (xc < lk) = true := decide_eq_true q4
                        have HE : Hid (leastI rs A M (k + 1) = xc) := by unfold Hid; rw [HST.out, if_pos ⟨by omega, by omega, .inr q4⟩]
                        clear HST q1 q2
                        go_wp2_with fail
                        go_quiet (fail)
                        go_wp2
                        go_roundw
                        case rel => exact ⟨k + 1, by omega, by go_num, by rw [HE.out], below_drewN hB _⟩
                        case measure => simp [intOf]; omega
                      · have d4 : decide (xc < lk) = false := decide_eq_false q4
                        have HE : Hid (leastI rs A M (k + 1) = lk) := by unfold Hid; rw [HST.out, if_neg (fun h => by rcases h.2.2 with h | h <;> omega)]
                        clear HST q1 q2
                        go_wp2_with fail
                        go_quiet (fail)
                        go_wp2
                        go_roundw
                        case rel => exact ⟨k + 1, by omega, by go_num, by rw [HE.out], below_drewN hB _⟩
                        case measure => simp [intOf]; omega
                  · have d2 : ((X : Int) == (M : Int)) = false := beq_eq_false_iff_ne.mpr (by omega)
                    have d2n : (X == M) = false := beq_eq_false_iff_ne.mpr q2
                    have HE : Hid (leastI rs A M (k + 1) = lk) := by unfold Hid; rw [HST.out, if_neg (fun h => q2 (by have := h.2.1; omega))]
                    clear HST q1 q2
                    go_wp2_with fail
                    go_quiet (fail)
                    go_wp2
                    go_roundw
                    case rel => exact ⟨k + 1, by omega, by go_num, by rw [HE.out], below_drewN hB _⟩
                    case measure => simp [intOf]; omega
                · have d1 : ((F : Int) == (A : Int)) = false := beq_eq_false_iff_ne.mpr (by omega)
                  have d1n : (F == A) = false := beq_eq_false_iff_ne.mpr q1
                  have HE : Hid (leastI rs A M (k + 1) = lk) := by unfold Hid; rw [HST.out, if_neg (fun h => q1 (by have := h.1; omega))]
                  clear HST q1
                  go_wp2_with fail
                  go_quiet (fail)
                  go_wp2
                  go_roundw
                  case rel => exact ⟨k + 1, by omega, by go_num, by rw [HE.out], below_drewN hB _⟩
                  case measure => simp [intOf]; omega
              · obtain rfl : k = rs.length := by omega
                rw [HLE.out.1, ← HDA.out, ← HDM.out]
                have bL : 1 ≤ dA - dM := by omega
                go_wp2_with fail
                go_roundw
                case rel => exact ⟨q + 1, by omega, by omega, by go_num, by rw [show q + 1 - 1 = q by omega, ← HM.out, ← HDM.out]; congr 1; omega, hB⟩
                case measure => simp [intOf]; omega
          · obtain rfl : q = L := by omega
            have eL : dS - restD rest (o.getD (q - 1) 0) = dS := by
              have := HA3.out
              rw [← HL.out] at this
              rw [this, HZT.out]; omega
            rw [eL]
            have c0 := HC2.out 0 (by rw [← HL.out]; omega)
            have cL := HC2.out (q - 1) (by rw [← HL.out]; omega)
            rw [HA2.out] at c0
            have e3 := HA3.out
            rw [← HL.out] at e3
            rw [e3] at cL
            rw [← hB.cell (p := ⟨b2, off2 + 0, none⟩) hb2] at c0
            rw [← hB.cell (p := ⟨b2, off2 + (q - 1), none⟩) hb2] at cL
            rw [← hB.cell (p := ⟨g6, T, none⟩) hg6] at cT
            rw [Nat.add_zero] at c0
            have e1 : ((q : Int) - 1).toNat = q - 1 := by omega
            have g1 : 0 ≤ (q : Int) - 1 := by omega
            have g2 : (q : Int) - 1 < (q : Int) := by omega
            have g4 : (0 : Int) < (q : Int) := by omega
            have g5 : 0 < q := by omega
            have t1 : (dS == dS) = true := by simp
            have t2 : ((S : Int) == (S : Int)) = true := by simp
            have t3 : ((T : Int) == (T : Int)) = true := by simp
            have hTf := Lib.hid (hT6.trans (hB.mono hT6.size))
            clear eL e3
            go_wp2_with fail
            go_ret
            exact ⟨rfl, hTf.out⟩
    · by_cases hval : validR n rs = true
      · by_cases k1 : s < 0
        · clear hask
          go_wp2_with fail
          go_at_call 14
          refine (impl_validRoads _ 0 n _ rs hr4).mono ?_; rintro e w5 ⟨rfl, hB5⟩
          rw [hval]
          have hr5 : Rods w5 0 _ rs := Rd.below hr4 hB5 (Nat.le_refl _) (by decide)
          have hI5 : Ints w5 0 _ (routeL n rs s t) := Rd.below hI4 hB5 (Nat.le_refl _) (by decide)
          have hT5 := hT4.trans (hB5.mono hT4.size)
          clear hr4 hI4 hB5 hO4 hval
          go_wp2_with fail
          go_at_call 27
          refine (spec_routeOf _ 0 n _ rs s t hr5).mono ?_; rintro e w15 ⟨v5, rfl, hO5, hB5⟩
          have hT15 := hT5.trans (hB5.mono hT5.size)
          have hI15 : Ints w15 0 _ (routeL n rs s t) := Rd.below hI5 hB5 (Nat.le_refl _) (by decide)
          have hJ15 : Ints w15 0 v5 (routeL n rs s t) := hO5.rd.mono (Nat.zero_le _)
          clear hI5 hO5 hB5 hr5
          go_wp2_with fail
          go_at_call 19
          refine (equalInts_same _ _ _ (routeL n rs s t) hI15 hJ15).mono ?_; rintro e w16 ⟨rfl, hB6⟩
          go_wp2
          go_ret
          exact ⟨rfl, hT15.trans (hB6.mono hT15.size)⟩
        · by_cases k2 : n ≤ s
          · clear hask
            go_wp2_with fail
            go_at_call 14
            refine (impl_validRoads _ 0 n _ rs hr4).mono ?_; rintro e w5 ⟨rfl, hB5⟩
            rw [hval]
            have hr5 : Rods w5 0 _ rs := Rd.below hr4 hB5 (Nat.le_refl _) (by decide)
            have hI5 : Ints w5 0 _ (routeL n rs s t) := Rd.below hI4 hB5 (Nat.le_refl _) (by decide)
            have hT5 := hT4.trans (hB5.mono hT4.size)
            clear hr4 hI4 hB5 hO4 hval
            go_wp2_with fail
            go_at_call 27
            refine (spec_routeOf _ 0 n _ rs s t hr5).mono ?_; rintro e w15 ⟨v5, rfl, hO5, hB5⟩
            have hT15 := hT5.trans (hB5.mono hT5.size)
            have hI15 : Ints w15 0 _ (routeL n rs s t) := Rd.below hI5 hB5 (Nat.le_refl _) (by decide)
            have hJ15 : Ints w15 0 v5 (routeL n rs s t) := hO5.rd.mono (Nat.zero_le _)
            clear hI5 hO5 hB5 hr5
            go_wp2_with fail
            go_at_call 19
            refine (equalInts_same _ _ _ (routeL n rs s t) hI15 hJ15).mono ?_; rintro e w16 ⟨rfl, hB6⟩
            go_wp2
            go_ret
            exact ⟨rfl, hT15.trans (hB6.mono hT15.size)⟩
          · by_cases k3 : t < 0
            · clear hask
              go_wp2_with fail
              go_at_call 14
              refine (impl_validRoads _ 0 n _ rs hr4).mono ?_; rintro e w5 ⟨rfl, hB5⟩
              rw [hval]
              have hr5 : Rods w5 0 _ rs := Rd.below hr4 hB5 (Nat.le_refl _) (by decide)
              have hI5 : Ints w5 0 _ (routeL n rs s t) := Rd.below hI4 hB5 (Nat.le_refl _) (by decide)
              have hT5 := hT4.trans (hB5.mono hT4.size)
              clear hr4 hI4 hB5 hO4 hval
              go_wp2_with fail
              go_at_call 27
              refine (spec_routeOf _ 0 n _ rs s t hr5).mono ?_; rintro e w15 ⟨v5, rfl, hO5, hB5⟩
              have hT15 := hT5.trans (hB5.mono hT5.size)
              have hI15 : Ints w15 0 _ (routeL n rs s t) := Rd.below hI5 hB5 (Nat.le_refl _) (by decide)
              have hJ15 : Ints w15 0 v5 (routeL n rs s t) := hO5.rd.mono (Nat.zero_le _)
              clear hI5 hO5 hB5 hr5
              go_wp2_with fail
              go_at_call 19
              refine (equalInts_same _ _ _ (routeL n rs s t) hI15 hJ15).mono ?_; rintro e w16 ⟨rfl, hB6⟩
              go_wp2
              go_ret
              exact ⟨rfl, hT15.trans (hB6.mono hT15.size)⟩
            · have k4 : n ≤ t := by
                apply Classical.byContradiction; intro h
                exact hask (askR_iff.2 ⟨hval, by omega, by omega⟩)
              clear hask
              go_wp2_with fail
              go_at_call 14
              refine (impl_validRoads _ 0 n _ rs hr4).mono ?_; rintro e w5 ⟨rfl, hB5⟩
              rw [hval]
              have hr5 : Rods w5 0 _ rs := Rd.below hr4 hB5 (Nat.le_refl _) (by decide)
              have hI5 : Ints w5 0 _ (routeL n rs s t) := Rd.below hI4 hB5 (Nat.le_refl _) (by decide)
              have hT5 := hT4.trans (hB5.mono hT4.size)
              clear hr4 hI4 hB5 hO4 hval
              go_wp2_with fail
              go_at_call 27
              refine (spec_routeOf _ 0 n _ rs s t hr5).mono ?_; rintro e w15 ⟨v5, rfl, hO5, hB5⟩
              have hT15 := hT5.trans (hB5.mono hT5.size)
              have hI15 : Ints w15 0 _ (routeL n rs s t) := Rd.below hI5 hB5 (Nat.le_refl _) (by decide)
              have hJ15 : Ints w15 0 v5 (routeL n rs s t) := hO5.rd.mono (Nat.zero_le _)
              clear hI5 hO5 hB5 hr5
              go_wp2_with fail
              go_at_call 19
              refine (equalInts_same _ _ _ (routeL n rs s t) hI15 hJ15).mono ?_; rintro e w16 ⟨rfl, hB6⟩
              go_wp2
              go_ret
              exact ⟨rfl, hT15.trans (hB6.mono hT15.size)⟩
      · have hval : validR n rs = false := by simpa using hval
        clear hask
        go_wp2_with fail
        go_at_call 14
        refine (impl_validRoads _ 0 n _ rs hr4).mono ?_; rintro e w5 ⟨rfl, hB5⟩
        rw [hval]
        have hr5 : Rods w5 0 _ rs := Rd.below hr4 hB5 (Nat.le_refl _) (by decide)
        have hI5 : Ints w5 0 _ (routeL n rs s t) := Rd.below hI4 hB5 (Nat.le_refl _) (by decide)
        have hT5 := hT4.trans (hB5.mono hT4.size)
        clear hr4 hI4 hB5 hO4 hval
        go_wp2_with fail
        go_at_call 27
        refine (spec_routeOf _ 0 n _ rs s t hr5).mono ?_; rintro e w15 ⟨v5, rfl, hO5, hB5⟩
        have hT15 := hT5.trans (hB5.mono hT5.size)
        have hI15 : Ints w15 0 _ (routeL n rs s t) := Rd.below hI5 hB5 (Nat.le_refl _) (by decide)
        have hJ15 : Ints w15 0 v5 (routeL n rs s t) := hO5.rd.mono (Nat.zero_le _)
        clear hI5 hO5 hB5 hr5
        go_wp2_with fail
        go_at_call 19
        refine (equalInts_same _ _ _ (routeL n rs s t) hI15 hJ15).mono ?_; rintro e w16 ⟨rfl, hB6⟩
        go_wp2
        go_ret
        exact ⟨rfl, hT15.trans (hB6.mono hT15.size)⟩
  · go_enter Try.func8, Try.ntmps8
    go_wp2
    go_ret
    exact ⟨rfl, Below.refl _ _⟩
end Go.Proofs.Ytfacedmdpbddcaa
