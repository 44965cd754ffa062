/- RouteOf: the model's. -/
import Derived.Test.YtfacedmdpbddcaaTown10
namespace Go.Proofs.Ytfacedmdpbddcaa
open Go.RowKit
set_option linter.unusedVariables false
set_option linter.unusedSimpArgs false

theorem town_fwd {N S T : Nat} {rs : List Rod} {rest : List Int} (h : Town N rs T rest) (hS : S < N) : (times N rs S).getD T 0 = restD rest S := by
  have := h.fwd (s := (S : Int)) (by omega) (by omega)
  simpa using this
theorem next_end {N T : Nat} {rs : List Rod} {rest : List Int} {a : Int} (h : Town N rs T rest) (h0 : 0 ≤ a) (h1 : a < N) (hd : 0 ≤ restD rest a) (hne : a ≠ T) :
    nextS rs rest N a rs.length = nx rs rest N a ∧ costS rs rest N a rs.length = restD rest a - restD rest (nx rs rest N a) := by
  have s := h.step h0 h1 hd hne
  have e : nextI rs rest N a rs.length = nx rs rest N a := rfl
  unfold nextS costS
  rw [e, if_neg (by omega), if_neg (by omega)]
  exact ⟨rfl, rfl⟩
theorem nextS_bd {N : Int} {rs : List Rod} {rest : List Int} {a : Int} (ht : ∀ r ∈ rs, 0 ≤ r.t ∧ r.t < N) (hN : 0 ≤ N ∧ N ≤ 8) {k : Nat} (hk : k ≤ rs.length) : -1 ≤ nextS rs rest N a k ∧ nextS rs rest N a k ≤ 8 := by
  unfold nextS
  rcases nextI_spec (rest := rest) (n := N) (a := a) ht k hk with h | ⟨r, hr, _, e⟩
  · rw [if_pos h.1]; omega
  · have := ht r hr; rw [e, if_neg (by omega)]; omega

set_option maxRecDepth 100000 in
set_option maxHeartbeats 8000000 in
theorem spec_routeOf (w : World) (lo : Nat) (n : Int) (v : Value) (rs : List Rod) (s t : Int) (hv : Rods w lo v rs) :
    Calls Try.prog 27 #[.int .i64 n, v, .int .i64 s, .int .i64 t] w (RouteRet w n rs s t) := by
  obtain ⟨ao, cap, rfl, hcap, hm⟩ := hv.form
  have hOz := Own.made w [] 3 w.heap.size 1 0 rfl (Nat.le_refl _) (by decide)
  have hBz : Below w.heap.size w (w.alloc (.cells #[] 3)) := (Below.refl _ _).alloc (Nat.le_refl _) _
  have hvz : Rods _ lo _ rs := Rd.below hv hBz (Nat.le_refl _) (by decide)
  by_cases hask : askR n rs s t = true
  · obtain ⟨hval, hs, ht⟩ := askR_iff.1 hask
    obtain ⟨a1, a2, a3, a4⟩ := validR_iff.1 hval
    have wr1 : IntKind.i64.wrap (n - 1) = n - 1 := IntWalk.i64_in _ (by omega)
    have ds : (decide (0 ≤ s) && decide (s ≤ n - 1)) = true := by simp; omega
    have dt : (decide (0 ≤ t) && decide (t ≤ n - 1)) = true := by simp; omega
    obtain ⟨N, rfl⟩ := Int.eq_ofNat_of_zero_le (show 0 ≤ n by omega)
    obtain ⟨S, rfl⟩ := Int.eq_ofNat_of_zero_le hs.1
    obtain ⟨T, rfl⟩ := Int.eq_ofNat_of_zero_le ht.1
    have hS : S < N := by omega
    have hT : T < N := by omega
    have HTW : Hid (Town N rs T (restOf N rs T)) := town_of hval (by omega) (by omega)
    have HR : Hid (∀ i, i < rs.length → 0 ≤ (rs.getD i r0).f ∧ (rs.getD i r0).f < N ∧ 0 ≤ (rs.getD i r0).t ∧ (rs.getD i r0).t < N ∧ 1 ≤ (rs.getD i r0).c ∧ (rs.getD i r0).c ≤ 60) := fun i hi => by
      have := okR_iff.1 (validR_mem hval (r := rs.getD i r0) (by simp [hi])); omega
    have HV := Lib.hid hval
    have HK := Lib.hid hask
    have HBD : Hid (∀ v : Nat, v < N → -1 ≤ restD (restOf N rs T) v ∧ restD (restOf N rs T) v ≤ 20000) := fun v hv => rest_bd hval hT hv
    have HST : Hid (∀ h : 0 ≤ restD (restOf N rs T) S, RouteS N S T rs (restOf N rs T) [(S : Int)] S) := fun h => RouteS.start hS h (HBD.out S hS).2
    have HL : Hid (∀ h : 0 ≤ restD (restOf N rs T) S, routeL N rs S T = routeN rs (restOf N rs T) N T (restD (restOf N rs T) S).toNat S) := fun h => by
      unfold routeL; rw [if_pos ⟨HK.out, h⟩]
    have HL0 : Hid (¬ 0 ≤ restD (restOf N rs T) S → routeL N rs S T = []) := fun h => by
      unfold routeL; rw [if_neg (fun h' => h h'.2)]
    have HFW : Hid (∀ v, v < N → (times N rs v).getD T 0 = restD (restOf N rs T) v) := fun v hv => town_fwd HTW.out hv
    obtain ⟨rest, hrest⟩ : ∃ rest, rest = restOf N rs T := ⟨_, rfl⟩
    rw [← hrest] at HBD HST HL HL0 HTW HFW
    clear a4 hs ht hask hrest
    go_enter Try.func27, Try.ntmps27
    go_wp2_with fail
    go_at_call 28
    refine (spec_validRoads _ _ _ _ rs hvz).mono ?_; rintro e' w1 ⟨rfl, hB1⟩
    rw [hval]
    have hT1 := hBz.trans (hB1.mono hBz.size)
    have hO1 := hOz.below hB1 (Nat.le_refl _)
    clear hval hOz hBz hvz hB1
    go_wp2_with (first
      | (go_at_call 36; with_reducible refine (inRange_dec (S : Int) 0 ((N : Int) - 1) true _ ds).mono ?_; rintro e' w2 ⟨rfl, rfl⟩)
      | (go_at_call 36; with_reducible refine (inRange_dec (T : Int) 0 ((N : Int) - 1) true _ dt).mono ?_; rintro e' w2 ⟨rfl, rfl⟩))
    go_at_call 37
    refine (spec_times _ _ N S _ rs (Rd.below hv hT1 (Nat.le_refl _) (by decide)) HV.out hS).mono ?_; rintro e w3 ⟨v3, rfl, hO3, hB3⟩
    obtain ⟨ao3, cap3, rfl, hcap3, hm3⟩ := hO3.form
    obtain ⟨g3, rfl, _, _, _, _, _⟩ := hO3.parts (by omega)
    have cT := (ints_cell hO3 (F := T) hT).1
    rw [HFW.out S hS] at cT
    have hT3 := hT1.trans (hB3.mono hT1.size)
    have hO4 := hO1.below hB3 (Nat.le_refl _)
    have bS := HBD.out S hS
    clear hO3 hB3 hT1 hO1
    obtain ⟨dS, hdS⟩ : ∃ d, d = restD rest S := ⟨_, rfl⟩
    have HDS := Lib.hid hdS
    rw [← hdS] at cT bS
    clear hdS
    have hT0 : (T : Int) < (N : Int) := by omega
    by_cases h0 : 0 ≤ dS
    · have h0' : 0 ≤ restD rest S := by rw [← HDS.out]; exact h0
      have hst := HST.out h0'
      have hll := HL.out h0'
      have HLL := Lib.hid hll
      have HS0 := Lib.hid hst
      have hz3 := hT3.size
      clear hll hst h0' HST HL HL0
      go_wp2_with (at_builtin; refine wpList_append_one _ rfl _ _ 32 rfl 3 (.int .i64 0) 8 Try.underlying32 info_int rfl w.heap.size _ _ _ rfl hO4 _ _ rfl rfl (by omega) (by omega) hz3 ?_; intro v5 w5 hO5 hg5 _)
      have hT5 := hT3.trans (below_of_grownBy hg5 hz3 (fun x hx => (hO4.wblk hx).1))
      have hO6 : Own w5 w.heap.size 3 1 v5 [(S : Int)].length ([(S : Int)].map (Value.int .i64)) := hO5
      clear hO4 hO5 hg5 hT3
      go_loopw [9, 10, 11] (fun rv lv av wo => ∃ acc : List Int, ∃ a : Int, av = .int .i64 a ∧ lv = .int .i64 (restD rest a) ∧ Hid (RouteS N S T rs rest acc a) ∧ Own wo w.heap.size 3 1 rv acc.length (acc.map (Value.int .i64)) ∧ Below w.heap.size w wo)
        (fun _ _ av _ => (restD rest (intOf av)).toNat)
      case atStart => exact ⟨[(S : Int)], S, rfl, by rw [HDS.out], HS0, hO6, hT5⟩
      case round =>
        clear hO6 hT5 HS0
        obtain ⟨acc, a, rfl, rfl, HRS, hO, hB⟩ := hrel
        by_cases hat : a = T
        · have hdn := HRS.out.done hat
          have HF : Hid (Own wr w.heap.size 3 1 u9 (routeL N rs S T).length ((routeL N rs S T).map (Value.int .i64)) ∧ Below w.heap.size w wr) := by
            unfold Hid; rw [HLL.out, ← hdn]; exact ⟨hO, hB⟩
          have ne1 : (a != (T : Int)) = false := by simp [hat]
          clear hdn hO hB hat
          go_wp2_with fail
          go_ret
          exact ⟨_, rfl, HF.out⟩
        · have ne1 : (a != (T : Int)) = true := by simpa using hat
          obtain ⟨hn1, hn2⟩ := HRS.out.step HTW.out hat
          have hend := next_end HTW.out HRS.out.a0 HRS.out.a1 HRS.out.d0 hat
          have HN1 := Lib.hid hn1
          have ha0 := HRS.out.a0
          have ha1 := HRS.out.a1
          have had := HRS.out.d0
          have hal := HRS.out.len
          obtain ⟨A, rfl⟩ := Int.eq_ofNat_of_zero_le ha0
          have hAN : A < N := by omega
          have bA' := HBD.out A hAN
          obtain ⟨dA, hdA⟩ : ∃ d, d = restD rest A := ⟨_, rfl⟩
          have HDA := Lib.hid hdA
          rw [← hdA] at bA' hn2 had hal hend ⊢
          have HEN := Lib.hid hend
          have hHT : Hid (∀ r ∈ rs, 0 ≤ r.t ∧ r.t < N) := fun r hr => ⟨(HTW.out.road hr).2.2.1, (HTW.out.road hr).2.2.2.1⟩
          have hst0 : nextS rs rest N A 0 = -1 ∧ costS rs rest N A 0 = 0 := by unfold nextS costS; simp [nextI]
          have HSZ := Lib.hid hst0
          clear hn1 hat hdA hend hst0
          go_wp2_with fail
          go_loopw [12, 13, 14] (fun nv cv i wi => ∃ k : Nat, k ≤ rs.length ∧ i = .int .i64 k ∧ nv = .int .i64 (nextS rs rest N A k) ∧ cv = .int .i64 (costS rs rest N A k) ∧ Own wi w.heap.size 3 1 u9 acc.length (acc.map (Value.int .i64)) ∧ Below w.heap.size w wi)
            (fun _ _ i _ => rs.length - (intOf i).toNat)
          case atStart => exact ⟨0, Nat.zero_le _, rfl, by rw [HSZ.out.1], by rw [HSZ.out.2], hO, hB⟩
          case round =>
            clear hO hB
            obtain ⟨k, hk, rfl, rfl, rfl, hO, hB⟩ := hrel
            by_cases hlt : k < rs.length
            · have hvr : Rods wr lo _ rs := Rd.below hv hB (Nat.le_refl _) (by decide)
              obtain ⟨b, off, rfl, _, hb1, hc⟩ := Rods.spot hvr (by omega)
              obtain ⟨s1, s2, s3⟩ := hc k hlt
              have hx0 := HR.out k hlt
              obtain ⟨hs1, hs2⟩ := nextS_step (rest := rest) (n := (N : Int)) (a := (A : Int)) hHT.out hlt
              have hcd := cand_iff (rest := rest) (a := (A : Int)) (r := rs.getD k r0)
              have hnb := nextS_bd (rest := rest) (N := (N : Int)) (a := (A : Int)) hHT.out (by omega) hk
              obtain ⟨x, hx⟩ : ∃ x, x = rs.getD k r0 := ⟨_, rfl⟩
              rw [← hx] at s1 s2 s3 hx0 hs1 hs2 hcd
              obtain ⟨xf, xt, xc⟩ := x
              simp only at s1 s2 s3 hx0 hs1 hs2 hcd
              obtain ⟨x1, x2, x3, x4, x5, x6⟩ := hx0
              obtain ⟨F, rfl⟩ := Int.eq_ofNat_of_zero_le x1
              obtain ⟨X, rfl⟩ := Int.eq_ofNat_of_zero_le x3
              have bX := HBD.out X (by omega)
              have hfx := HFW.out X (by omega)
              obtain ⟨dX, hdX⟩ : ∃ d, d = restD rest X := ⟨_, rfl⟩
              rw [← hdX, ← HDA.out] at hcd
              rw [← hdX] at bX hfx
              have HFX := Lib.hid hfx
              obtain ⟨nk, hnk⟩ : ∃ m, m = nextS rs rest N A k := ⟨_, rfl⟩
              obtain ⟨ck, hck⟩ : ∃ m, m = costS rs rest N A k := ⟨_, rfl⟩
              rw [← hnk] at hs1 hs2 hnb ⊢
              rw [← hck] at hs2 ⊢
              have HS1 := Lib.hid hs1
              have HS2 := Lib.hid hs2
              have HCD := Lib.hid hcd
              have HO := Lib.hid hO
              have HB := Lib.hid hB
              have hX0 : (X : Int) < (N : Int) := by omega
              clear hc hx hs1 hs2 hcd hdX hnk hck hO hB hfx
              go_wp2_with fail
              go_at_call 37
              refine (spec_times _ _ N X _ rs hvr HV.out (by omega)).mono ?_; rintro e w4 ⟨v4, rfl, hO4, hB4⟩
              obtain ⟨ao4, cap4, rfl, hcap4, hm4⟩ := hO4.form
              obtain ⟨g4, rfl, _, _, _, _, _⟩ := hO4.parts (by omega)
              have cX := (ints_cell hO4 (F := T) hT).1
              rw [HFX.out] at cX
              rw [← hB4.cell (p := ⟨b, off + k * 3, none⟩) hb1] at s1
              rw [← hB4.cell (p := ⟨b, off + k * 3 + 1, none⟩) hb1] at s2
              rw [← hB4.cell (p := ⟨b, off + k * 3 + 2, none⟩) hb1] at s3
              have HO5 : Hid (Own w4 w.heap.size 3 1 u9 acc.length (acc.map (Value.int .i64)) ∧ Below w.heap.size w w4) := ⟨HO.out.below hB4 (Nat.le_refl _), HB.out.trans (hB4.mono HB.out.size)⟩
              have wr2 : IntKind.i64.wrap (xc + dX) = xc + dX := IntWalk.i64_in _ (by omega)
              clear hvr hO4 hB4 HO HB HFX
              by_cases q1 : F = A
              · have e1 : ((F : Int) == (A : Int)) = true := by simp [q1]
                have e1n : (F == A) = true := by simp [q1]
                by_cases q2 : 0 ≤ dX
                · have e2 : decide (0 ≤ dX) = true := decide_eq_true q2
                  by_cases q3 : xc + dX = dA
                  · have e3 : (xc + dX == dA) = true := by simp [q3]
                    have hc1 := HCD.out.2 ⟨by omega, q2, q3⟩
                    clear q1 q3
                    by_cases q4 : nk < 0
                    · have e4 : decide (nk < 0) = true := decide_eq_true q4
                      have HE := Lib.hid (HS1.out ⟨hc1, .inl q4⟩)
                      clear HS1 HS2 HCD hc1
                      go_wp2_with fail
                      go_roundw
                      case rel => exact ⟨k + 1, by omega, by go_num, by rw [HE.out.1], by rw [HE.out.2], HO5.out.1, HO5.out.2⟩
                      case measure => simp [intOf]; omega
                    · have e4 : decide (nk < 0) = false := decide_eq_false q4
                      by_cases q5 : (X : Int) < nk
                      · have e5 : decide ((X : Int) < nk) = true := decide_eq_true q5
                        have HE := Lib.hid (HS1.out ⟨hc1, .inr q5⟩)
                        clear HS1 HS2 HCD hc1
                        go_wp2_with fail
                        go_roundw
                        case rel => exact ⟨k + 1, by omega, by go_num, by rw [HE.out.1], by rw [HE.out.2], HO5.out.1, HO5.out.2⟩
                        case measure => simp [intOf]; omega
                      · have e5 : decide ((X : Int) < nk) = false := decide_eq_false q5
                        have HE := Lib.hid (HS2.out (fun h => by rcases h.2 with h | h <;> omega))
                        clear HS1 HS2 HCD
                        go_wp2_with fail
                        go_roundw
                        case rel => exact ⟨k + 1, by omega, by go_num, by rw [HE.out.1], by rw [HE.out.2], HO5.out.1, HO5.out.2⟩
                        case measure => simp [intOf]; omega
                  · have e3 : (xc + dX == dA) = false := by simp [q3]
                    have HE := Lib.hid (HS2.out (fun h => q3 (HCD.out.1 h.1).2.2))
                    clear HS1 HS2 HCD
                    go_wp2_with fail
                    go_roundw
                    case rel => exact ⟨k + 1, by omega, by go_num, by rw [HE.out.1], by rw [HE.out.2], HO5.out.1, HO5.out.2⟩
                    case measure => simp [intOf]; omega
                · have e2 : decide (0 ≤ dX) = false := decide_eq_false q2
                  have HE := Lib.hid (HS2.out (fun h => q2 (HCD.out.1 h.1).2.1))
                  clear HS1 HS2 HCD
                  go_wp2_with fail
                  go_roundw
                  case rel => exact ⟨k + 1, by omega, by go_num, by rw [HE.out.1], by rw [HE.out.2], HO5.out.1, HO5.out.2⟩
                  case measure => simp [intOf]; omega
              · have e1 : ((F : Int) == (A : Int)) = false := beq_eq_false_iff_ne.mpr (by omega)
                have e1n : (F == A) = false := beq_eq_false_iff_ne.mpr q1
                have HE := Lib.hid (HS2.out (fun h => q1 (by have := (HCD.out.1 h.1).1; omega)))
                clear HS1 HS2 HCD
                go_wp2_with fail
                go_roundw
                case rel => exact ⟨k + 1, by omega, by go_num, by rw [HE.out.1], by rw [HE.out.2], HO5.out.1, HO5.out.2⟩
                case measure => simp [intOf]; omega
            · obtain rfl : k = rs.length := by omega
              rw [HEN.out.1, HEN.out.2]
              obtain ⟨m, hm'⟩ : ∃ m, m = nx rs rest N A := ⟨_, rfl⟩
              rw [← hm'] at HN1 hn2 ⊢
              have hdm := HN1.out.d0
              obtain ⟨dm, hdm'⟩ : ∃ d, d = restD rest m := ⟨_, rfl⟩
              have HDM := Lib.hid hdm'
              rw [← hdm'] at hdm hn2 ⊢
              have wr3 : IntKind.i64.wrap (dA - (dA - dm)) = dm := by rw [IntWalk.i64_in _ (by omega)]; omega
              have wr4 : dA - (dA - dm) = dm := by omega
              clear hm' hdm'
              have hsz := hB.size
              go_wp2_with (at_builtin; refine wpList_append_one _ rfl _ _ 32 rfl 3 (.int .i64 0) 8 Try.underlying32 info_int rfl w.heap.size _ _ _ rfl hO _ _ rfl rfl (by omega) (by omega) hsz ?_; intro v7 w7 hO7 hg7 _)
              have hB7 := hB.trans (below_of_grownBy hg7 hsz (fun x hx => (hO.wblk hx).1))
              have hO8 : Own w7 w.heap.size 3 1 v7 (acc ++ [m]).length ((acc ++ [m]).map (Value.int .i64)) := by
                rw [List.map_append, List.length_append]; exact hO7
              clear hO hO7 hg7 hB
              go_roundw
              case rel => exact ⟨acc ++ [m], m, rfl, by rw [← HDM.out], HN1, hO8, hB7⟩
              case measure =>
                show (restD rest m).toNat < (restD rest (A : Int)).toNat
                have e := HDA.out
                have e2 := HDM.out
                omega
    · have h0' : ¬ 0 ≤ restD rest S := by rw [← HDS.out]; exact h0
      have hll := HL0.out (by first | exact h0' | omega)
      have HLL := Lib.hid hll
      clear hll h0' HST HL HL0
      go_wp2_with fail
      go_ret
      exact ⟨_, rfl, by rw [HLL.out]; exact Own.nil _ _ _ _, hT3⟩
  · have hL : Hid (routeL n rs s t = []) := by unfold Hid routeL; rw [if_neg (fun h => hask h.1)]
    by_cases hval : validR n rs = true
    · obtain ⟨a1, a2, a3, a4⟩ := validR_iff.1 hval
      have wr1 : IntKind.i64.wrap (n - 1) = n - 1 := IntWalk.i64_in _ (by omega)
      by_cases hs : 0 ≤ s ∧ s ≤ n - 1
      · have ds : (decide (0 ≤ s) && decide (s ≤ n - 1)) = true := by simp; omega
        have ht : ¬ (0 ≤ t ∧ t ≤ n - 1) := fun h => hask (askR_iff.2 ⟨hval, hs, h⟩)
        have dt : (decide (0 ≤ t) && decide (t ≤ n - 1)) = false := by simp; omega
        clear hask a4
        go_enter Try.func27, Try.ntmps27
        go_wp2_with fail
        go_at_call 28
        refine (spec_validRoads _ _ _ _ rs hvz).mono ?_; rintro e' w1 ⟨rfl, hB1⟩
        rw [hval]
        go_wp2_with (first
          | (go_at_call 36; with_reducible refine (inRange_dec s 0 (n - 1) true _ ds).mono ?_; rintro e' w2 ⟨rfl, rfl⟩)
          | (go_at_call 36; with_reducible refine (inRange_dec t 0 (n - 1) false _ dt).mono ?_; rintro e' w2 ⟨rfl, rfl⟩))
        go_ret
        exact ⟨_, rfl, by rw [hL.out]; exact Own.nil _ _ _ _, hBz.trans (hB1.mono hBz.size)⟩
      · have ds : (decide (0 ≤ s) && decide (s ≤ n - 1)) = false := by simp; omega
        clear hask a4
        go_enter Try.func27, Try.ntmps27
        go_wp2_with fail
        go_at_call 28
        refine (spec_validRoads _ _ _ _ rs hvz).mono ?_; rintro e' w1 ⟨rfl, hB1⟩
        rw [hval]
        go_wp2_with (go_at_call 36; with_reducible refine (inRange_dec s 0 (n - 1) false _ ds).mono ?_; rintro e' w2 ⟨rfl, rfl⟩)
        go_ret
        exact ⟨_, rfl, by rw [hL.out]; exact Own.nil _ _ _ _, hBz.trans (hB1.mono hBz.size)⟩
    · have hval : validR n rs = false := by simpa using hval
      clear hask
      go_enter Try.func27, Try.ntmps27
      go_wp2_with fail
      go_at_call 28
      refine (spec_validRoads _ _ _ _ rs hvz).mono ?_; rintro e' w1 ⟨rfl, hB1⟩
      rw [hval]
      go_wp2_with fail
      go_ret
      exact ⟨_, rfl, by rw [hL.out]; exact Own.nil _ _ _ _, hBz.trans (hB1.mono hBz.size)⟩
end Go.Proofs.Ytfacedmdpbddcaa
