/- FnStopsOf: the walk. -/
import Derived.Test.YtfdnkfhldgcnmaaStops
import Derived.Test.YtfdnkfhldgcnmaaLog3
import Derived.ProofKit
namespace Go.Proofs.Ytfdnkfhldgcnmaa
open Go.RowKit
set_option linter.unusedVariables false
set_option linter.unusedSimpArgs false

theorem cntAll_le (es : List Ent) (k n : Nat) : cntAll es k n ≤ n * k := by
  induction n with
  | zero => simp [cntAll]
  | succ n ih => simp only [cntAll]; have := cntU_le es (n : Int) k; rw [Nat.add_mul]; omega

set_option maxHeartbeats 4000000 in
theorem fnStopsOf_walk (w : World) (v : Value) (bs : List UInt8) (hv : Bytes w 0 v bs) :
    Calls Try.prog 8 #[v] w fun e w' => e = .returned (.bool true) ∧ Below w.heap.size w w' := by
  obtain ⟨ao, cap, rfl, hcap, hm⟩ := hv.form
  by_cases hlen : bs.length ≤ 1048576
  · go_enter Try.func8, Try.ntmps8
    go_wp2_with fail
    go_at_call 27
    refine (drawStopsOf _ _ bs hv).mono ?_; rintro e w1 ⟨v1, es, rfl, hr, hl31, hB⟩
    clear hv
    obtain ⟨ao1, cap1, rfl, hcap1, hm1⟩ := hr.form
    go_wp2_with fail
    go_at_call 26
    refine (impl_stopsOf _ _ _ es hr).mono ?_; rintro e w2 ⟨v2, rfl, hO2, hB2⟩
    have hr2 : Ents w2 0 _ es := Rd.below hr hB2 (Nat.le_refl _) (by decide)
    have hT2 := hB.trans (hB2.mono hB.size)
    clear hr hB2 hB
    go_wp2_with fail
    go_at_call 25
    refine (spec_stopsOf _ _ _ es hr2).mono ?_; rintro e w3 ⟨v3, rfl, hO3, hB3⟩
    have hr3 : Ents w3 0 _ es := Rd.below hr2 hB3 (Nat.le_refl _) (by decide)
    have hO23 := hO2.below hB3 (Nat.le_refl _)
    have hT3 := hT2.trans (hB3.mono hT2.size)
    clear hr2 hB3 hT2 hO2
    go_wp2_with fail
    go_at_call 19
    refine (equalEntries_same _ _ _ (stops es) (hO23.rd.mono (Nat.zero_le _)) (hO3.rd.mono (Nat.zero_le _))).mono ?_; rintro e w4 ⟨rfl, hB4⟩
    have hr4 : Ents w4 0 _ es := Rd.below hr3 hB4 (Nat.le_refl _) (by decide)
    have hO24 := hO23.below hB4 (Nat.le_refl _)
    have hT4 := hT3.trans (hB4.mono hT3.size)
    clear hr3 hB4 hT3 hO23 hO3
    obtain ⟨ao2, cap2, rfl, hcap2, hm2⟩ := hO24.form
    by_cases hz : (stops es).length = 0
    · have hz1 : (((stops es).length : Int) == 0) = true := by rw [hz]; rfl
      clear hz
      go_wp2_with fail
      go_at_call 25
      refine (spec_stopsOf _ _ _ es hr4).mono ?_; rintro e w5 ⟨v5, rfl, hO5, hB5⟩
      have hO25 := hO24.below hB5 (Nat.le_refl _)
      have hT5 := hT4.trans (hB5.mono hT4.size)
      clear hz1
      go_wp2_with fail
      go_at_call 19
      have hE25 : Ents w5 0 _ (stops es) := hO25.rd.mono (Nat.zero_le _)
      have hE5 : Ents w5 0 _ (stops es) := hO5.rd.mono (Nat.zero_le _)
      refine (equalEntries_same _ _ _ (stops es) hE25 hE5).mono ?_; rintro e w6 ⟨rfl, hB6⟩
      go_wp2
      go_ret
      exact ⟨rfl, hT5.trans (hB6.mono hT5.size)⟩
    · have hz1 : (((stops es).length : Int) == 0) = false := beq_eq_false_iff_ne.mpr (by omega)
      have hva : validL es = true := by
        apply Classical.byContradiction; intro h; apply hz; unfold stops; rw [if_neg h]; rfl
      have hst : stops es = stopsN es es.length := by unfold stops; rw [if_pos hva]
      have HC : Hid (cntAll es es.length 8 = (stops es).length) := by
        unfold Hid; rw [hst]
        exact stops_count (fun i hi => by have := okE_iff.1 ((validL_iff.1 hva).2 i hi); exact ⟨this.2.2.1, this.2.2.2.1⟩) _ (Nat.le_refl _)
      have HS : Hid (∀ e ∈ stops es, e.s = true) := by unfold Hid; rw [hst]; exact stopsN_all es _
      have HE : Hid (Ents w4 0 (.slice ao2 (stops es).length cap2) (stops es)) := hO24.rd.mono (Nat.zero_le _)
      have hsl := stops_len es
      have hT := Lib.hid hT4
      clear hz hva hst hO24 hT4
      go_wp2_with fail
      go_loop [5, 6] (fun n u => ∃ q : Nat, q ≤ 8 ∧ u = .int .i64 q ∧ n = .int .i64 (cntAll es es.length q : Nat)) (fun _ u => 8 - (intOf u).toNat)
      case atStart => exact ⟨0, by omega, rfl, rfl⟩
      case round =>
        obtain ⟨q, hq, rfl, rfl⟩ := hrel
        have hcl := cntAll_le es es.length q
        have hcl2 : q * es.length ≤ 8 * 31 := Nat.mul_le_mul hq hl31
        by_cases hq8 : q < 8
        · have hq7 : (q : Int) ≤ 7 := by omega
          have HCS : Hid (cntAll es es.length (q + 1) = cntAll es es.length q + cntU es (q : Int) es.length) := rfl
          obtain ⟨m, hm⟩ : ∃ m, m = cntAll es es.length q := ⟨_, rfl⟩
          rw [← hm] at hcl HCS ⊢
          clear hm
          go_wp2_with fail
          go_loop [5, 7, 8] (fun n b i => ∃ k : Nat, k ≤ es.length ∧ i = .int .i64 k ∧ b = .bool (lastS es (q : Int) k) ∧ n = .int .i64 (m + cntU es (q : Int) k : Nat)) (fun _ _ i => es.length - (intOf i).toNat)
          case atStart => exact ⟨0, by omega, rfl, rfl, rfl⟩
          case round =>
            obtain ⟨k, hk, rfl, rfl, rfl⟩ := hrel
            have hcu := cntU_le es (q : Int) k
            by_cases hlt : k < es.length
            · obtain ⟨b, off, rfl, _, hb1, hc⟩ := Ents.spot hr4 (by omega)
              obtain ⟨s1, s2, s3⟩ := hc k hlt
              have hla : lastS es (q : Int) (k + 1) = if (es.getD k e0).u = (q : Int) then (es.getD k e0).s else lastS es (q : Int) k := rfl
              have hcn : cntU es (q : Int) (k + 1) = cntU es (q : Int) k + (if (es.getD k e0).u = (q : Int) ∧ stopHere es k = true then 1 else 0) := rfl
              have hsh : stopHere es k = ((es.getD k e0).s && !lastS es (es.getD k e0).u k) := rfl
              obtain ⟨c, hcc⟩ : ∃ c, c = cntU es (q : Int) k := ⟨_, rfl⟩
              rw [← hcc] at hcn hcu ⊢
              by_cases hu : (es.getD k e0).u = (q : Int)
              · rw [hsh, hu] at hcn
                rw [if_pos hu] at hla
                rw [hu] at s2
                obtain ⟨lb, hlb⟩ : ∃ lb, lb = lastS es (q : Int) k := ⟨_, rfl⟩
                rw [← hlb] at hcn ⊢
                obtain ⟨xs, hxs⟩ : ∃ xs, xs = (es.getD k e0).s := ⟨_, rfl⟩
                rw [← hxs] at hcn hla s3
                have HCN := Lib.hid hcn
                have HLA := Lib.hid hla
                have t1 : (!((q : Int) == (q : Int))) = false := by simp
                clear hc hsh hu hlb hxs hcn hla hcc
                cases xs
                · go_wp2
                  go_round
                  case rel => exact ⟨k + 1, by omega, by go_num, by rw [HLA.out], by rw [HCN.out]; simp⟩
                  case measure => simp [intOf]; omega
                · cases lb
                  · go_wp2
                    go_round
                    case rel => exact ⟨k + 1, by omega, by go_num, by rw [HLA.out], by rw [HCN.out]; simp; omega⟩
                    case measure => simp [intOf]; omega
                  · go_wp2
                    go_round
                    case rel => exact ⟨k + 1, by omega, by go_num, by rw [HLA.out], by rw [HCN.out]; simp⟩
                    case measure => simp [intOf]; omega
              · rw [if_neg hu] at hla
                rw [if_neg (fun h => hu h.1)] at hcn
                have t1 : ((es.getD k e0).u != (q : Int)) = true := by simpa using hu
                obtain ⟨xu, hxu⟩ : ∃ xu, xu = (es.getD k e0).u := ⟨_, rfl⟩
                rw [← hxu] at t1 s2
                have HCN := Lib.hid hcn
                have HLA := Lib.hid hla
                clear hc hsh hu hcn hla hcc s1 s3 hxu
                go_wp2
                go_round
                case rel => exact ⟨k + 1, by omega, by go_num, by rw [HLA.out], by rw [HCN.out]; simp⟩
                case measure => simp [intOf]; omega
            · obtain rfl : k = es.length := by omega
              go_wp2_with fail
              go_round
              case rel => exact ⟨q + 1, by omega, by go_num, by rw [HCS.out]⟩
              case measure => simp [intOf]; omega
        · obtain rfl : q = 8 := by omega
          rw [HC.out]
          go_wp2_with fail
          go_loop [9] (fun i => ∃ k : Nat, k ≤ (stops es).length ∧ i = .int .i64 k) (fun i => (stops es).length - (intOf i).toNat)
          case atStart => exact ⟨0, by omega, rfl⟩
          case round =>
            obtain ⟨k, hk, rfl⟩ := hrel
            by_cases hlt : k < (stops es).length
            · obtain ⟨b, off, rfl, _, hb1, hc⟩ := Ents.spot HE.out (by omega)
              obtain ⟨s1, s2, s3⟩ := hc k hlt
              have hs := HS.out ((stops es).getD k e0) (by simp [hlt])
              rw [hs] at s3
              clear hc s1 s2 hs
              go_wp2
              go_round
              case rel => exact ⟨k + 1, by omega, by go_num⟩
              case measure => simp [intOf]; omega
            · have t1 : (((stops es).length : Int) == ((stops es).length : Int)) = true := by simp
              go_wp2
              go_ret
              exact ⟨rfl, hT.out⟩
  · go_enter Try.func8, Try.ntmps8
    go_wp2
    go_ret
    exact ⟨rfl, Below.refl _ _⟩
end Go.Proofs.Ytfdnkfhldgcnmaa
