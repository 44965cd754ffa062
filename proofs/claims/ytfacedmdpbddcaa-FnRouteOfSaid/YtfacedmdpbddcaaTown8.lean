/- TravelTimes: the program's and the model's. -/
import Derived.Test.YtfacedmdpbddcaaTown7
namespace Go.Proofs.Ytfacedmdpbddcaa
open Go.RowKit
set_option linter.unusedVariables false
set_option linter.unusedSimpArgs false

def askT (n : Int) (rs : List Rod) (s : Int) : Bool := validR n rs && (decide (0 ≤ s) && decide (s ≤ n - 1))
def ttL (n : Int) (rs : List Rod) (s : Int) : List Int := if askT n rs s = true then times n.toNat rs s.toNat else []
theorem askT_iff {n : Int} {rs : List Rod} {s : Int} : askT n rs s = true ↔ validR n rs = true ∧ 0 ≤ s ∧ s ≤ n - 1 := by
  simp only [askT, Bool.and_eq_true, decide_eq_true_eq]
theorem ttL_len {n : Int} {rs : List Rod} {s : Int} : (ttL n rs s).length ≤ 8 := by
  unfold ttL; split
  · rename_i h; rw [times_len]; have := (validR_iff.1 (askT_iff.1 h).1); omega
  · simp

def TTRet (w : World) (n : Int) (rs : List Rod) (s : Int) (e : Ending) (w' : World) : Prop :=
  ∃ v', e = .returned v' ∧ Own w' w.heap.size 3 1 v' (ttL n rs s).length ((ttL n rs s).map (Value.int .i64)) ∧ Below w.heap.size w w'

set_option maxHeartbeats 4000000 in
theorem impl_travelTimes (w : World) (lo : Nat) (n : Int) (v : Value) (rs : List Rod) (s : Int) (hv : Rods w lo v rs) :
    Calls Try.prog 17 #[.int .i64 n, v, .int .i64 s] w (TTRet w n rs s) := by
  obtain ⟨ao, cap, rfl, hcap, hm⟩ := hv.form
  by_cases hval : validR n rs = true
  · obtain ⟨a1, a2, a3, a4⟩ := validR_iff.1 hval
    have wr1 : IntKind.i64.wrap (n - 1) = n - 1 := IntWalk.i64_in _ (by omega)
    by_cases hs : 0 ≤ s ∧ s ≤ n - 1
    · have ds : (decide (0 ≤ s) && decide (s ≤ n - 1)) = true := by simp; omega
      obtain ⟨N, rfl⟩ := Int.eq_ofNat_of_zero_le (show 0 ≤ n by omega)
      obtain ⟨S, rfl⟩ := Int.eq_ofNat_of_zero_le hs.1
      have hS : S < N := by omega
      have hT : Hid (ttL N rs S = times N rs S) := by unfold Hid ttL; rw [if_pos (askT_iff.2 ⟨hval, hs⟩)]; rfl
      have hr : ∀ r ∈ rs, okR ((N : Int) - 1) r = true := fun r h => validR_mem hval h
      have HR : Hid (∀ i, i < rs.length → 0 ≤ (rs.getD i r0).f ∧ (rs.getD i r0).f < N ∧ 0 ≤ (rs.getD i r0).t ∧ (rs.getD i r0).t < N ∧ 1 ≤ (rs.getD i r0).c ∧ (rs.getD i r0).c ≤ 60) := fun i hi => by
        have := okR_iff.1 (hr (rs.getD i r0) (by simp [hi])); omega
      have HB : Hid (∀ k i, k ≤ 8 → Bnd 20000 (pass (rs.take i) (rounds rs (start N S) k))) := fun k i hk => part_bnd hr a3 hS k i hk
      have HL : Hid (∀ k i, (pass (rs.take i) (rounds rs (start N S) k)).length = N) := fun k i => by rw [pass_len, rounds_len]; simp [start]
      have HV := Lib.hid hval
      clear hr a4 hs
      go_enter Try.func17, Try.ntmps17
      go_wp2_with fail
      go_at_call 14
      refine (impl_validRoads _ _ _ _ rs hv).mono ?_; rintro e' w1 ⟨rfl, hB1⟩
      rw [hval]
      clear hval
      go_wp2_with (go_at_call 30; with_reducible refine (within_dec (S : Int) 0 ((N : Int) - 1) true _ ds).mono ?_; rintro e' w2 ⟨rfl, rfl⟩)
      go_at_call 34
      have hx : Ints (w1.alloc (.cells #[.int .i64 (-1)] 3)) 0 (.slice (some ⟨w1.heap.size, 0, none⟩) 1 1) [-1] := Rd.made w1 [.int .i64 (-1)] 3 0 1 1 rfl (Nat.zero_le _) (by decide)
      have hBm : Below w1.heap.size w1 (w1.alloc (.cells #[.int .i64 (-1)] 3)) := (Below.refl _ _).alloc (Nat.le_refl _) _
      refine (repeat_any _ _ N hx (by omega) (by omega)).mono ?_; rintro e w3 ⟨v3, rfl, hO3, hB3⟩
      have hT3 : Below w.heap.size w w3 := hB1.trans ((hBm.trans (hB3.mono hBm.size)).mono hB1.size)
      have hO3 := hO3.mono (show w.heap.size ≤ _ by have := (hB1.trans (hBm.mono hB1.size)).size; exact this)
      clear hx hBm hB3 hB1
      obtain ⟨ao3, cap3, rfl, hcap3, hm3⟩ := hO3.form
      obtain ⟨g, rfl, hgw, _, _, _, _⟩ := hO3.parts (by omega)
      obtain ⟨c0, f0, hgl⟩ := ints_cell hO3 (F := S) hS
      have hO2 := hO3.store (by omega) S (.int .i64 0)
      have e2 : ((List.replicate N (-1)).map (Value.int .i64)).set S (.int .i64 0) = (start N S).map (Value.int .i64) := by rw [start, List.map_set]
      rw [e2] at hO2
      have hB2 := hT3.setCell (p := ⟨g, S, none⟩) hgw (.int .i64 0)
      have HO2 := Lib.hid hO2.1
      have HB2 := Lib.hid hB2
      clear hO2 hB2 e2 hO3 hT3
      go_wp2_with fail
      obtain ⟨wm, hwm⟩ : ∃ wm, wm = w3.setCell ⟨g, S, none⟩ (.int .i64 0) := ⟨_, rfl⟩
      rw [← hwm] at HO2 HB2 ⊢
      clear hwm c0 f0 hgl
      go_loopw [29] (fun i wo => ∃ r : Nat, r ≤ N ∧ i = .int .i64 r ∧ Own wo w.heap.size 3 1 (.slice (some ⟨g, 0, none⟩) N cap3) N ((rounds rs (start N S) r).map (Value.int .i64)) ∧ Below w.heap.size w wo)
        (fun i _ => N - (intOf i).toNat)
      case atStart => exact ⟨0, Nat.zero_le _, rfl, HO2.out, HB2.out⟩
      case round =>
        clear HO2 HB2
        obtain ⟨r, hrN, rfl, hO, hB⟩ := hrel
        by_cases hlr : r < N
        · go_wp2_with fail
          go_loopw [33] (fun i wo => ∃ k : Nat, k ≤ rs.length ∧ i = .int .i64 k ∧ Own wo w.heap.size 3 1 (.slice (some ⟨g, 0, none⟩) N cap3) N ((pass (rs.take k) (rounds rs (start N S) r)).map (Value.int .i64)) ∧ Below w.heap.size w wo)
            (fun i _ => rs.length - (intOf i).toNat)
          case atStart => exact ⟨0, Nat.zero_le _, rfl, by simpa [pass] using hO, hB⟩
          case round =>
            clear hO hB
            obtain ⟨k, hk, rfl, hO, hB⟩ := hrel
            by_cases hlt : k < rs.length
            · obtain ⟨b, off, rfl, _, hb1, hc⟩ := Rods.spot (Rd.below hv hB (Nat.le_refl _) (by decide)) (by omega)
              obtain ⟨s1, s2, s3⟩ := hc k hlt
              have hx0 := HR.out k hlt
              have hstep := pass_take rs (rounds rs (start N S) r) k hlt
              have hbd := HB.out r k (by omega)
              have hln := HL.out r k
              obtain ⟨x, hx⟩ : ∃ x, x = rs.getD k r0 := ⟨_, rfl⟩
              rw [← hx] at s1 s2 s3 hx0 hstep
              obtain ⟨xf, xt, xc⟩ := x
              simp only at s1 s2 s3 hx0
              obtain ⟨x1, x2, x3, x4, x5, x6⟩ := hx0
              obtain ⟨F, rfl⟩ := Int.eq_ofNat_of_zero_le x1
              obtain ⟨T, rfl⟩ := Int.eq_ofNat_of_zero_le x3
              obtain ⟨ts, hts⟩ : ∃ ts, ts = pass (rs.take k) (rounds rs (start N S) r) := ⟨_, rfl⟩
              rw [← hts] at hO hstep hbd hln
              obtain ⟨cF, fF, hgl⟩ := ints_cell hO (F := F) (by omega)
              obtain ⟨cT, fT, _⟩ := ints_cell hO (F := T) (by omega)
              have bF := hbd F (by omega)
              have bT := hbd T (by omega)
              obtain ⟨q1, q2, q3, q4⟩ := relax_cases ts ⟨(F : Int), (T : Int), xc⟩ F T rfl rfl
              rw [← hstep] at q1 q2 q3 q4
              simp only at q2 q3
              obtain ⟨a, ha⟩ : ∃ a, a = ts.getD F 0 := ⟨_, rfl⟩
              obtain ⟨c, hcc⟩ : ∃ c, c = ts.getD T 0 := ⟨_, rfl⟩
              rw [← ha] at cF bF q1 q2 q3 q4
              rw [← hcc] at cT bT q2 q3 q4
              have H1 := Lib.hid q1
              have H2 := Lib.hid q2
              have H3 := Lib.hid q3
              have H4 := Lib.hid q4
              have hO := hO.alloc (.cells #[.int .i64 (F : Int), .int .i64 (T : Int), .int .i64 xc] 39)
              have hB := hB.alloc hB.size (.cells #[.int .i64 (F : Int), .int .i64 (T : Int), .int .i64 xc] 39)
              have HO := Lib.hid hO
              have hBS : Hid (∀ m u, Own (((wr.alloc (.cells #[.int .i64 (F : Int), .int .i64 (T : Int), .int .i64 xc] 39)).drewN m).setCell ⟨g, T, none⟩ (.int .i64 u)) w.heap.size 3 1 (.slice (some ⟨g, 0, none⟩) N cap3) N ((ts.set T u).map (Value.int .i64)) ∧ Below w.heap.size w (((wr.alloc (.cells #[.int .i64 (F : Int), .int .i64 (T : Int), .int .i64 xc] 39)).drewN m).setCell ⟨g, T, none⟩ (.int .i64 u))) := fun m u =>
                ⟨by rw [List.map_set]; exact ((hO.drewN m).store (by omega) T (.int .i64 u)).1, (below_drewN hB m).setCell hgw _⟩
              have hk0 : (0 : Int) ≤ (k : Int) := by omega
              have hk1 : (k : Int) < (rs.length : Int) := by omega
              have hF1 : (F : Int) < (N : Int) := by omega
              have hT1 : (T : Int) < (N : Int) := by omega
              clear q1 q2 q3 q4 hstep hts ha hcc hc hx hbd hln hO hv HR HB HL
              by_cases h1 : a < 0
              · have HE := Lib.hid (H1.out h1)
                clear H1 H2 H3 H4 hBS
                go_wp2_with fail
                go_roundw
                case rel => exact ⟨k + 1, by omega, by go_num, by rw [HE.out]; exact HO.out, hB⟩
                case measure => simp [intOf]; omega
              · have wr1 : IntKind.i64.wrap (a + xc) = a + xc := IntWalk.i64_in _ (by omega)
                by_cases h2 : c < 0
                · have HE := Lib.hid (H2.out h1 h2)
                  have dc : decide (c < 0) = true := decide_eq_true h2
                  clear H1 H2 H3 H4
                  go_wp2_with fail
                  go_quiet (fail)
                  go_wp2
                  go_roundw
                  case rel => exact ⟨k + 1, by omega, by go_num, by rw [HE.out]; exact (hBS.out _ _).1, (hBS.out _ _).2⟩
                  case measure => simp [intOf]; omega
                · have dc : decide (c < 0) = false := decide_eq_false h2
                  by_cases h3 : a + xc < c
                  · have HE := Lib.hid (H3.out h1 h2 h3)
                    have dd : decide (a + xc < c) = true := decide_eq_true h3
                    clear H1 H2 H3 H4
                    go_wp2_with fail
                    go_quiet (fail)
                    go_wp2
                    go_roundw
                    case rel => exact ⟨k + 1, by omega, by go_num, by rw [HE.out]; exact (hBS.out _ _).1, (hBS.out _ _).2⟩
                    case measure => simp [intOf]; omega
                  · have HE := Lib.hid (H4.out h1 h2 h3)
                    have dd : decide (a + xc < c) = false := decide_eq_false h3
                    clear H1 H2 H3 H4
                    go_wp2_with fail
                    go_quiet (fail)
                    go_wp2
                    go_roundw
                    case rel => exact ⟨k + 1, by omega, by go_num, by rw [HE.out]; exact HO.out.drewN _, below_drewN hB _⟩
                    case measure => simp [intOf]; omega
            · obtain rfl : k = rs.length := by omega
              have HN : Hid (pass (rs.take rs.length) (rounds rs (start N S) r) = rounds rs (start N S) (r + 1)) := (rounds_succ rs (start N S) r).symm
              go_wp2_with fail
              go_roundw
              case rel => exact ⟨r + 1, by omega, by go_num, by rw [← HN.out]; exact hO, hB⟩
              case measure => simp [intOf]; omega
        · obtain rfl : r = N := by omega
          have HRt : Hid (Own wr w.heap.size 3 1 (.slice (some ⟨g, 0, none⟩) r cap3) r ((times r rs S).map (Value.int .i64)) ∧ Below w.heap.size w wr) := ⟨hO, hB⟩
          clear hO hB
          go_wp2_with fail
          go_ret
          exact ⟨_, rfl, by rw [hT.out, times_len]; exact HRt.out⟩
    · have ds : (decide (0 ≤ s) && decide (s ≤ n - 1)) = false := by simp; omega
      have hT : Hid (ttL n rs s = []) := by unfold Hid ttL; rw [if_neg (fun h => hs (askT_iff.1 h).2)]
      go_enter Try.func17, Try.ntmps17
      go_wp2_with fail
      go_at_call 14
      refine (impl_validRoads _ _ _ _ rs hv).mono ?_; rintro e' w1 ⟨rfl, hB1⟩
      rw [hval]
      go_wp2_with (go_at_call 30; with_reducible refine (within_dec s 0 (n - 1) false _ ds).mono ?_; rintro e' w2 ⟨rfl, rfl⟩)
      go_ret
      exact ⟨_, rfl, by rw [hT.out]; exact Own.nil _ _ _ _, hB1⟩
  · have hval : validR n rs = false := by simpa using hval
    have hT : Hid (ttL n rs s = []) := by unfold Hid ttL; rw [if_neg (fun h => by rw [(askT_iff.1 h).1] at hval; cases hval)]
    go_enter Try.func17, Try.ntmps17
    go_wp2_with fail
    go_at_call 14
    refine (impl_validRoads _ _ _ _ rs hv).mono ?_; rintro e' w1 ⟨rfl, hB1⟩
    rw [hval]
    go_wp2_with fail
    go_ret
    exact ⟨_, rfl, by rw [hT.out]; exact Own.nil _ _ _ _, hB1⟩

set_option maxHeartbeats 4000000 in
theorem spec_travelTimes (w : World) (lo : Nat) (n : Int) (v : Value) (rs : List Rod) (s : Int) (hv : Rods w lo v rs) :
    Calls Try.prog 20 #[.int .i64 n, v, .int .i64 s] w (TTRet w n rs s) := by
  obtain ⟨ao, cap, rfl, hcap, hm⟩ := hv.form
  by_cases hval : validR n rs = true
  · obtain ⟨a1, a2, a3, a4⟩ := validR_iff.1 hval
    have wr1 : IntKind.i64.wrap (n - 1) = n - 1 := IntWalk.i64_in _ (by omega)
    by_cases hs : 0 ≤ s ∧ s ≤ n - 1
    · have ds : (decide (0 ≤ s) && decide (s ≤ n - 1)) = true := by simp; omega
      obtain ⟨N, rfl⟩ := Int.eq_ofNat_of_zero_le (show 0 ≤ n by omega)
      obtain ⟨S, rfl⟩ := Int.eq_ofNat_of_zero_le hs.1
      have hS : S < N := by omega
      have hT : Hid (ttL N rs S = times N rs S) := by unfold Hid ttL; rw [if_pos (askT_iff.2 ⟨hval, hs⟩)]; rfl
      have HV := Lib.hid hval
      clear a4 hs
      go_enter Try.func20, Try.ntmps20
      go_wp2_with fail
      go_at_call 28
      refine (spec_validRoads _ _ _ _ rs hv).mono ?_; rintro e' w1 ⟨rfl, hB1⟩
      rw [hval]
      have hv1 : Rods w1 lo _ rs := Rd.below hv hB1 (Nat.le_refl _) (by decide)
      clear hval
      go_wp2_with (go_at_call 36; with_reducible refine (inRange_dec (S : Int) 0 ((N : Int) - 1) true _ ds).mono ?_; rintro e' w2 ⟨rfl, rfl⟩)
      go_at_call 37
      refine (spec_times _ _ N S _ rs hv1 HV.out hS).mono ?_; rintro e w3 ⟨v3, rfl, hO3, hB3⟩
      have HRt : Hid (Own w3 w.heap.size 3 1 v3 N ((times N rs S).map (Value.int .i64)) ∧ Below w.heap.size w w3) := ⟨hO3.mono hB1.size, hB1.trans (hB3.mono hB1.size)⟩
      clear hO3 hB3 hB1 hv1
      go_wp2_with fail
      go_ret
      exact ⟨_, rfl, by rw [hT.out, times_len]; exact HRt.out⟩
    · have ds : (decide (0 ≤ s) && decide (s ≤ n - 1)) = false := by simp; omega
      have hT : Hid (ttL n rs s = []) := by unfold Hid ttL; rw [if_neg (fun h => hs (askT_iff.1 h).2)]
      go_enter Try.func20, Try.ntmps20
      go_wp2_with fail
      go_at_call 28
      refine (spec_validRoads _ _ _ _ rs hv).mono ?_; rintro e' w1 ⟨rfl, hB1⟩
      rw [hval]
      go_wp2_with (go_at_call 36; with_reducible refine (inRange_dec s 0 (n - 1) false _ ds).mono ?_; rintro e' w2 ⟨rfl, rfl⟩)
      go_ret
      exact ⟨_, rfl, by rw [hT.out]; exact Own.nil _ _ _ _, hB1⟩
  · have hval : validR n rs = false := by simpa using hval
    have hT : Hid (ttL n rs s = []) := by unfold Hid ttL; rw [if_neg (fun h => by rw [(askT_iff.1 h).1] at hval; cases hval)]
    go_enter Try.func20, Try.ntmps20
    go_wp2_with fail
    go_at_call 28
    refine (spec_validRoads _ _ _ _ rs hv).mono ?_; rintro e' w1 ⟨rfl, hB1⟩
    rw [hval]
    go_wp2_with fail
    go_ret
    exact ⟨_, rfl, by rw [hT.out]; exact Own.nil _ _ _ _, hB1⟩
end Go.Proofs.Ytfacedmdpbddcaa
