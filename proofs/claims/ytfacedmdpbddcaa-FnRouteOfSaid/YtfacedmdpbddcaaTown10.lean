/- RouteOf: the program's. -/
import Derived.Test.YtfacedmdpbddcaaTown9
import Derived.Test.YtfacedmdpbddcaaTownD
namespace Go.Proofs.Ytfacedmdpbddcaa
open Go.RowKit
set_option linter.unusedVariables false
set_option linter.unusedSimpArgs false

theorem turn_valid {n : Int} {rs : List Rod} (hval : validR n rs = true) : validR n (rs.map turn) = true := by
  obtain ⟨a1, a2, a3, a4⟩ := validR_iff.1 hval
  refine validR_of a1 a2 (by simpa using a3) (fun q hq => ?_)
  obtain ⟨r, hr, rfl⟩ := List.mem_map.1 hq
  have ok := okR_iff.1 (validR_mem hval hr)
  rw [okR_iff]; simp only [turn]
  exact ⟨by omega, by omega, by omega, by omega, fun e => ok.2.2.2.2.1 e.symm, by omega, by omega⟩
theorem routeN_head (rs : List Rod) (rest : List Int) (n to : Int) (k : Nat) (a : Int) : routeN rs rest n to k a = a :: (routeN rs rest n to k a).tail := by
  cases k with
  | zero => rfl
  | succ k => simp only [routeN]; split <;> rfl
theorem askR_iff {n : Int} {rs : List Rod} {s t : Int} : askR n rs s t = true ↔ validR n rs = true ∧ (0 ≤ s ∧ s ≤ n - 1) ∧ (0 ≤ t ∧ t ≤ n - 1) := by
  simp only [askR, Bool.and_eq_true, decide_eq_true_eq]
  constructor
  · rintro ⟨⟨a, b⟩, c⟩; exact ⟨a, b, c⟩
  · rintro ⟨a, b, c⟩; exact ⟨⟨a, b⟩, c⟩
theorem rest_bd {N T : Nat} {rs : List Rod} (hval : validR N rs = true) (hT : T < N) {v : Nat} (hv : v < N) : -1 ≤ restD (restOf N rs T) v ∧ restD (restOf N rs T) v ≤ 20000 := by
  have := tt_bd (turn_valid hval) hT hv
  simpa [restD, restOf] using this

def RouteRet (w : World) (n : Int) (rs : List Rod) (s t : Int) (e : Ending) (w' : World) : Prop :=
  ∃ v', e = .returned v' ∧ Own w' w.heap.size 3 1 v' (routeL n rs s t).length ((routeL n rs s t).map (Value.int .i64)) ∧ Below w.heap.size w w'

/-- What the loops of a route know. -/
structure RouteS (N S T : Nat) (rs : List Rod) (rest : List Int) (acc : List Int) (a : Int) : Prop where
  a0 : 0 ≤ a
  a1 : a < N
  d0 : 0 ≤ restD rest a
  tot : acc ++ (routeN rs rest N T (restD rest a).toNat a).tail = routeN rs rest N T (restD rest S).toNat S
  len : (acc.length : Int) + restD rest a ≤ 20001
theorem RouteS.start {N S T : Nat} {rs : List Rod} {rest : List Int} (hS : S < N) (h0 : 0 ≤ restD rest S) (hb : restD rest S ≤ 20000) : RouteS N S T rs rest [(S : Int)] S :=
  ⟨by omega, by omega, h0, by rw [List.singleton_append, ← routeN_head], by simp; omega⟩
theorem RouteS.step {N S T : Nat} {rs : List Rod} {rest acc : List Int} {a : Int} (hT : Town N rs T rest) (h : RouteS N S T rs rest acc a) (hne : a ≠ T) :
    RouteS N S T rs rest (acc ++ [nx rs rest N a]) (nx rs rest N a) ∧ restD rest (nx rs rest N a) < restD rest a := by
  have s := hT.step h.a0 h.a1 h.d0 hne
  refine ⟨⟨s.1, s.2.1, s.2.2.1, ?_, ?_⟩, s.2.2.2⟩
  · have e := h.tot
    rw [hT.unfold_ h.a0 h.a1 h.d0 hne, List.tail_cons, routeN_head] at e
    rw [← e]; simp
  · have := h.len; have := s.2.2.2; simp; omega
theorem RouteS.done {N S T : Nat} {rs : List Rod} {rest acc : List Int} {a : Int} (h : RouteS N S T rs rest acc a) (he : a = T) : acc = routeN rs rest N T (restD rest S).toNat S := by
  have := h.tot
  rw [Town.at_end a he] at this
  simpa using this

set_option maxHeartbeats 8000000 in
theorem impl_routeOf (w : World) (lo : Nat) (n : Int) (v : Value) (rs : List Rod) (s t : Int) (hv : Rods w lo v rs) :
    Calls Try.prog 26 #[.int .i64 n, v, .int .i64 s, .int .i64 t] w (RouteRet w n rs s t) := by
  obtain ⟨ao, cap, rfl, hcap, hm⟩ := hv.form
  by_cases hask : askR n rs s t = true
  · obtain ⟨hval, hs, ht⟩ := askR_iff.1 hask
    obtain ⟨a1, a2, a3, a4⟩ := validR_iff.1 hval
    have wr1 : IntKind.i64.wrap (n - 1) = n - 1 := IntWalk.i64_in _ (by omega)
    have ds : (decide (0 ≤ s) && decide (s ≤ n - 1)) = true := by simp; omega
    have dt : (decide (0 ≤ t) && decide (t ≤ n - 1)) = true := by simp; omega
    obtain ⟨N, rfl⟩ := Int.eq_ofNat_of_zero_le (show 0 ≤ n by omega)
    obtain ⟨S, rfl⟩ := Int.eq_ofNat_of_zero_le hs.1
    obtain ⟨T, rfl⟩ := Int.eq_ofNat_of_zero_le ht.1
    have hS : S < N := by omega
    have hT : T < N := by omega
    have HTW : Hid (Town N rs T (restOf N rs T)) := town_of hval (by omega) (by omega)
    have HRT : Hid (ttL N (rs.map turn) T = restOf N rs T) := by
      unfold Hid ttL; rw [if_pos (askT_iff.2 ⟨turn_valid hval, by omega, by omega⟩)]; simp [restOf]
    have HR : Hid (∀ i, i < rs.length → 0 ≤ (rs.getD i r0).f ∧ (rs.getD i r0).f < N ∧ 0 ≤ (rs.getD i r0).t ∧ (rs.getD i r0).t < N ∧ 1 ≤ (rs.getD i r0).c ∧ (rs.getD i r0).c ≤ 60) := fun i hi => by
      have := okR_iff.1 (validR_mem hval (r := rs.getD i r0) (by simp [hi])); omega
    have HV := Lib.hid hval
    have HK := Lib.hid hask
    clear a4 hs ht hask
    go_enter Try.func26, Try.ntmps26
    go_wp2_with fail
    go_at_call 14
    refine (impl_validRoads _ _ _ _ rs hv).mono ?_; rintro e' w1 ⟨rfl, hB1⟩
    rw [hval]
    clear hval
    go_wp2_with (first
      | (go_at_call 30; with_reducible refine (within_dec (S : Int) 0 ((N : Int) - 1) true _ ds).mono ?_; rintro e' w2 ⟨rfl, rfl⟩)
      | (go_at_call 30; with_reducible refine (within_dec (T : Int) 0 ((N : Int) - 1) true _ dt).mono ?_; rintro e' w2 ⟨rfl, rfl⟩))
    go_loopw [9, 38] (fun bv i wo => ∃ k : Nat, k ≤ rs.length ∧ i = .int .i64 k ∧ Own wo w.heap.size 39 3 bv ((rs.take k).map turn).length (((rs.take k).map turn).flatMap rodCells) ∧ Below w.heap.size w wo)
      (fun _ i _ => rs.length - (intOf i).toNat)
    case atStart => exact ⟨0, Nat.zero_le _, rfl, Own.nil _ _ _ _, hB1⟩
    case round =>
      clear hB1
      obtain ⟨k, hk, rfl, hO, hB⟩ := hrel
      by_cases hlt : k < rs.length
      · obtain ⟨b, off, rfl, _, hb1, hc⟩ := Rods.spot (Rd.below hv hB (Nat.le_refl _) (by decide)) (by omega)
        obtain ⟨s1, s2, s3⟩ := hc k hlt
        have htk : rs.take (k + 1) = rs.take k ++ [rs.getD k r0] := by rw [List.take_succ_eq_append_getElem hlt]; simp [hlt]
        obtain ⟨x, hx⟩ : ∃ x, x = rs.getD k r0 := ⟨_, rfl⟩
        rw [← hx] at s1 s2 s3 htk
        obtain ⟨xf, xt, xc⟩ := x
        simp only at s1 s2 s3
        have hl2 : ((rs.take k).map turn).length ≤ 24 := by simp; omega
        have HTK := Lib.hid htk
        have hsz := hB.size
        have hOa := hO.alloc (.cells #[.int .i64 xf, .int .i64 xt, .int .i64 xc] 39)
        clear hc hx htk
        go_wp2_with (at_builtin; refine wpList_append_rod _ rfl _ _ 25 rfl 39 Try.underlying25 info_road w.heap.size u9 ((rs.take k).map turn) rfl hOa _ _ _ _ (by rw [World.size_alloc]; rfl) (by omega) (by omega) (by simp; omega) ?_; intro v5 w5 hO5 hg5 _)
        have hB5 := (hB.alloc hsz (.cells #[.int .i64 xf, .int .i64 xt, .int .i64 xc] 39)).trans (below_of_grownBy hg5 (by simp; omega) (fun x hx => (hOa.wblk hx).1))
        have e5 : (rs.take k).map turn ++ [⟨xt, xf, xc⟩] = (rs.take (k + 1)).map turn := by rw [HTK.out, List.map_append]; rfl
        rw [e5] at hO5
        clear hO hOa hg5 e5 hB
        go_roundw
        case rel => exact ⟨k + 1, by omega, by go_num, hO5, hB5⟩
        case measure => simp [intOf]; omega
      · obtain rfl : k = rs.length := by omega
        rw [List.take_length] at hO
        have hbk : Rods wr 0 u9 (rs.map turn) := hO.rd.mono (Nat.zero_le _)
        clear hO
        go_wp2_with fail
        go_at_call 17
        refine (impl_travelTimes _ 0 N _ (rs.map turn) T hbk).mono ?_; rintro e w5 ⟨v5, rfl, hO5, hB5⟩
        rw [HRT.out] at hO5
        have hlr : (restOf N rs T).length = N := by simp [restOf, times_len]
        rw [hlr] at hO5
        have hT5 := hB.trans (hB5.mono hB.size)
        obtain ⟨ao5, cap5, rfl, hcap5, hm5⟩ := hO5.form
        obtain ⟨g5, rfl, _, hg5, _, _, _⟩ := hO5.parts (by omega)
        have HC5 : Hid (∀ v, v < N → w5.cell? ⟨g5, v, none⟩ = some (.int .i64 (restD (restOf N rs T) v))) := fun v hv => by
          have := (ints_cell hO5 hv).1; simpa [restD] using this
        have HBD : Hid (∀ v : Nat, v < N → -1 ≤ restD (restOf N rs T) v ∧ restD (restOf N rs T) v ≤ 20000) := fun v hv => rest_bd HV.out hT hv
        have cS := HC5.out S hS
        have bS := HBD.out S hS
        have HST : Hid (∀ h : 0 ≤ restD (restOf N rs T) S, RouteS N S T rs (restOf N rs T) [(S : Int)] S) := fun h => RouteS.start hS h bS.2
        have HL : Hid (∀ h : 0 ≤ restD (restOf N rs T) S, routeL N rs S T = routeN rs (restOf N rs T) N T (restD (restOf N rs T) S).toNat S) := fun h => by
          unfold routeL; rw [if_pos ⟨HK.out, h⟩]
        have HL0 : Hid (¬ 0 ≤ restD (restOf N rs T) S → routeL N rs S T = []) := fun h => by
          unfold routeL; rw [if_neg (fun h' => h h'.2)]
        obtain ⟨rest, hrest⟩ : ∃ rest, rest = restOf N rs T := ⟨_, rfl⟩
        rw [← hrest] at HC5 HBD cS bS HST HL HL0 HTW
        clear hrest hO5 hB5 hB hbk hlr HRT
        obtain ⟨dS, hdS⟩ : ∃ d, d = restD rest S := ⟨_, rfl⟩
        have HDS := Lib.hid hdS
        rw [← hdS] at cS bS
        clear hdS
        by_cases h0 : 0 ≤ dS
        · have h0' : 0 ≤ restD rest S := by rw [← HDS.out]; exact h0
          have hst := HST.out h0'
          have hll := HL.out h0'
          have HLL := Lib.hid hll
          have HS0 := Lib.hid hst
          have hR0 := Own.made w5 [.int .i64 (S : Int)] 3 w5.heap.size 1 1 rfl (Nat.le_refl _) (by decide)
          have hB0 : Below w5.heap.size w5 (w5.alloc (.cells #[.int .i64 (S : Int)] 3)) := (Below.refl _ _).alloc (Nat.le_refl _) _
          clear hll hst h0' HST HL HL0
          go_wp2_with fail
          go_loopw [13, 14] (fun rv av wo => ∃ acc : List Int, ∃ a : Int, av = .int .i64 a ∧ Hid (RouteS N S T rs rest acc a) ∧ Own wo w5.heap.size 3 1 rv acc.length (acc.map (Value.int .i64)) ∧ Below w5.heap.size w5 wo)
            (fun _ av _ => (restD rest (intOf av)).toNat)
          case atStart => exact ⟨[(S : Int)], S, rfl, HS0, hR0, hB0⟩
          case round =>
            clear hR0 hB0 HS0
            obtain ⟨acc, a, rfl, HRS, hO, hB⟩ := hrel
            by_cases hat : a = T
            · have hdn := HRS.out.done hat
              have HF : Hid (Own wr w.heap.size 3 1 u13 (routeL N rs S T).length ((routeL N rs S T).map (Value.int .i64)) ∧ Below w.heap.size w wr) := by
                unfold Hid; rw [HLL.out, ← hdn]; exact ⟨hO.mono hT5.size, hT5.trans (hB.mono hT5.size)⟩
              have ne1 : (a != (T : Int)) = false := by simp [hat]
              clear hdn hO hB hat
              go_wp2_with fail
              go_ret
              exact ⟨_, rfl, HF.out⟩
            · have ne1 : (a != (T : Int)) = true := by simpa using hat
              obtain ⟨hn1, hn2⟩ := HRS.out.step HTW.out hat
              have HN1 := Lib.hid hn1
              have ha0 := HRS.out.a0
              have ha1 := HRS.out.a1
              have had := HRS.out.d0
              have hal := HRS.out.len
              obtain ⟨A, rfl⟩ := Int.eq_ofNat_of_zero_le ha0
              have hAN : A < N := by omega
              have cA := HC5.out A hAN
              have bA' := HBD.out A hAN
              obtain ⟨dA, hdA⟩ : ∃ d, d = restD rest A := ⟨_, rfl⟩
              have HDA := Lib.hid hdA
              rw [← hdA] at cA bA' hn2 had hal
              have hHT : Hid (∀ r ∈ rs, 0 ≤ r.t ∧ r.t < N) := fun r hr => ⟨(HTW.out.road hr).2.2.1, (HTW.out.road hr).2.2.2.1⟩
              clear hn1 hat hdA
              go_wp2_with fail
              go_loopw [15, 71] (fun nv i wi => ∃ k : Nat, k ≤ rs.length ∧ i = .int .i64 k ∧ nv = .int .i64 (nextI rs rest N A k) ∧ Own wi w5.heap.size 3 1 u13 acc.length (acc.map (Value.int .i64)) ∧ Below w5.heap.size w5 wi)
                (fun _ i _ => rs.length - (intOf i).toNat)
              case atStart => exact ⟨0, Nat.zero_le _, rfl, rfl, hO, hB⟩
              case round =>
                clear hO hB
                obtain ⟨k, hk, rfl, rfl, hO, hB⟩ := hrel
                by_cases hlt : k < rs.length
                · obtain ⟨b, off, rfl, _, hb1, hc⟩ := Rods.spot (Rd.below hv (hT5.trans (hB.mono hT5.size)) (Nat.le_refl _) (by decide)) (by omega)
                  obtain ⟨s1, s2, s3⟩ := hc k hlt
                  have hx0 := HR.out k hlt
                  have hstep : nextI rs rest N A (k + 1) = if cand rest A (rs.getD k r0) = true ∧ (rs.getD k r0).t < nextI rs rest N A k then (rs.getD k r0).t else nextI rs rest N A k := rfl
                  have hcd := cand_iff (rest := rest) (a := (A : Int)) (r := rs.getD k r0)
                  have hnb : 0 ≤ nextI rs rest N A k ∧ nextI rs rest N A k ≤ N := by
                    rcases nextI_spec (rest := rest) (n := (N : Int)) (a := (A : Int)) hHT.out k hk with h | ⟨r, hr, _, e⟩
                    · omega
                    · have := hHT.out r hr; omega
                  obtain ⟨x, hx⟩ : ∃ x, x = rs.getD k r0 := ⟨_, rfl⟩
                  rw [← hx] at s1 s2 s3 hx0 hstep hcd
                  obtain ⟨xf, xt, xc⟩ := x
                  simp only at s1 s2 s3 hx0 hstep hcd
                  obtain ⟨x1, x2, x3, x4, x5, x6⟩ := hx0
                  obtain ⟨F, rfl⟩ := Int.eq_ofNat_of_zero_le x1
                  obtain ⟨X, rfl⟩ := Int.eq_ofNat_of_zero_le x3
                  have cX := HC5.out X (by omega)
                  have bX := HBD.out X (by omega)
                  rw [← hB.cell (p := ⟨g5, X, none⟩) hg5] at cX
                  have hgr : g5 < wr.heap.size := Nat.lt_of_lt_of_le hg5 hB.size
                  have cA2 := (hB.cell (p := ⟨g5, A, none⟩) hg5).trans cA
                  obtain ⟨dX, hdX⟩ : ∃ d, d = restD rest X := ⟨_, rfl⟩
                  rw [← hdX, ← HDA.out] at hcd
                  rw [← hdX] at cX bX
                  obtain ⟨nk, hnk⟩ : ∃ m, m = nextI rs rest N A k := ⟨_, rfl⟩
                  rw [← hnk] at hstep hnb ⊢
                  have HST2 := Lib.hid hstep
                  have HCD := Lib.hid hcd
                  have hOa := hO.alloc (.cells #[.int .i64 (F : Int), .int .i64 (X : Int), .int .i64 xc] 39)
                  have hBa := hB.alloc hB.size (.cells #[.int .i64 (F : Int), .int .i64 (X : Int), .int .i64 xc] 39)
                  have HOA : Hid (∀ m, Own ((wr.alloc (.cells #[.int .i64 (F : Int), .int .i64 (X : Int), .int .i64 xc] 39)).drewN m) w5.heap.size 3 1 u13 acc.length (acc.map (Value.int .i64)) ∧ Below w5.heap.size w5 ((wr.alloc (.cells #[.int .i64 (F : Int), .int .i64 (X : Int), .int .i64 xc] 39)).drewN m)) := fun m => ⟨hOa.drewN m, below_drewN hBa m⟩
                  have wr2 : IntKind.i64.wrap (xc + dX) = xc + dX := IntWalk.i64_in _ (by omega)
                  have hX0 : (X : Int) < (N : Int) := by omega
                  have hA0 : (A : Int) < (N : Int) := by omega
                  clear hc hx hstep hcd hdX hnk hO hB hOa hBa cA
                  by_cases q1 : F = A
                  · have e1 : ((F : Int) == (A : Int)) = true := by simp [q1]
                    have e1n : (F == A) = true := by simp [q1]
                    by_cases q2 : 0 ≤ dX
                    · have e2 : decide (0 ≤ dX) = true := decide_eq_true q2
                      by_cases q3 : xc + dX = dA
                      · have e3 : (xc + dX == dA) = true := by simp [q3]
                        have hc1 := HCD.out.2 ⟨by omega, q2, q3⟩
                        by_cases q4 : (X : Int) < nk
                        · have HE : Hid (nextI rs rest N A (k + 1) = X) := by unfold Hid; rw [HST2.out, if_pos ⟨hc1, q4⟩]
                          clear HST2 HCD hc1 q1 q3
                          go_wp2_with fail
                          go_quiet (fail)
                          go_wp2
                          go_roundw
                          case rel => exact ⟨k + 1, by omega, by go_num, by rw [HE.out], (HOA.out _).1, (HOA.out _).2⟩
                          case measure => simp [intOf]; omega
                        · have HE : Hid (nextI rs rest N A (k + 1) = nk) := by unfold Hid; rw [HST2.out, if_neg (fun h => q4 h.2)]
                          clear HST2 HCD hc1 q1 q3
                          go_wp2_with fail
                          go_quiet (fail)
                          go_wp2
                          go_roundw
                          case rel => exact ⟨k + 1, by omega, by go_num, by rw [HE.out], (HOA.out _).1, (HOA.out _).2⟩
                          case measure => simp [intOf]; omega
                      · have e3 : (xc + dX == dA) = false := by simp [q3]
                        have HE : Hid (nextI rs rest N A (k + 1) = nk) := by unfold Hid; rw [HST2.out, if_neg (fun h => q3 (HCD.out.1 h.1).2.2)]
                        clear HST2 HCD q1 q3
                        go_wp2_with fail
                        go_quiet (fail)
                        go_wp2
                        go_roundw
                        case rel => exact ⟨k + 1, by omega, by go_num, by rw [HE.out], (HOA.out _).1, (HOA.out _).2⟩
                        case measure => simp [intOf]; omega
                    · have e2 : decide (0 ≤ dX) = false := decide_eq_false q2
                      have HE : Hid (nextI rs rest N A (k + 1) = nk) := by unfold Hid; rw [HST2.out, if_neg (fun h => q2 (HCD.out.1 h.1).2.1)]
                      clear HST2 HCD q1
                      go_wp2_with fail
                      go_quiet (fail)
                      go_wp2
                      go_roundw
                      case rel => exact ⟨k + 1, by omega, by go_num, by rw [HE.out], (HOA.out _).1, (HOA.out _).2⟩
                      case measure => simp [intOf]; omega
                  · have e1 : ((F : Int) == (A : Int)) = false := beq_eq_false_iff_ne.mpr (by omega)
                    have e1n : (F == A) = false := beq_eq_false_iff_ne.mpr q1
                    have HE : Hid (nextI rs rest N A (k + 1) = nk) := by unfold Hid; rw [HST2.out, if_neg (fun h => q1 (by have := (HCD.out.1 h.1).1; omega))]
                    clear HST2 HCD q1
                    go_wp2_with fail
                    go_quiet (fail)
                    go_wp2
                    go_roundw
                    case rel => exact ⟨k + 1, by omega, by go_num, by rw [HE.out], (HOA.out _).1, (HOA.out _).2⟩
                    case measure => simp [intOf]; omega
                · obtain rfl : k = rs.length := by omega
                  have hnx : nextI rs rest N A rs.length = nx rs rest N A := rfl
                  rw [hnx]
                  obtain ⟨m, hm'⟩ : ∃ m, m = nx rs rest N A := ⟨_, rfl⟩
                  rw [← hm'] at HN1 hn2 ⊢
                  clear hnx hm'
                  have hsz := hB.size
                  go_wp2_with (at_builtin; refine wpList_append_one _ rfl _ _ 32 rfl 3 (.int .i64 0) 8 Try.underlying32 info_int rfl w5.heap.size _ _ _ rfl hO _ _ rfl rfl (by omega) (by omega) hsz ?_; intro v7 w7 hO7 hg7 _)
                  have hB7 := hB.trans (below_of_grownBy hg7 hsz (fun x hx => (hO.wblk hx).1))
                  have hO8 : Own w7 w5.heap.size 3 1 v7 (acc ++ [m]).length ((acc ++ [m]).map (Value.int .i64)) := by
                    rw [List.map_append, List.length_append]; exact hO7
                  clear hO hO7 hg7 hB
                  go_roundw
                  case rel => exact ⟨acc ++ [m], m, rfl, HN1, hO8, hB7⟩
                  case measure =>
                    show (restD rest m).toNat < (restD rest (A : Int)).toNat
                    have e := HDA.out
                    have e2 := HN1.out.d0
                    omega
        · have h0' : ¬ 0 ≤ restD rest S := by rw [← HDS.out]; exact h0
          have hll := HL0.out h0'
          have HLL := Lib.hid hll
          clear hll h0' HST HL HL0
          go_wp2_with fail
          go_ret
          exact ⟨_, rfl, by rw [HLL.out]; exact Own.nil _ _ _ _, hT5⟩
  · have hL : Hid (routeL n rs s t = []) := by unfold Hid routeL; rw [if_neg (fun h => hask h.1)]
    by_cases hval : validR n rs = true
    · obtain ⟨a1, a2, a3, a4⟩ := validR_iff.1 hval
      have wr1 : IntKind.i64.wrap (n - 1) = n - 1 := IntWalk.i64_in _ (by omega)
      by_cases hs : 0 ≤ s ∧ s ≤ n - 1
      · have ds : (decide (0 ≤ s) && decide (s ≤ n - 1)) = true := by simp; omega
        have ht : ¬ (0 ≤ t ∧ t ≤ n - 1) := fun h => hask (askR_iff.2 ⟨hval, hs, h⟩)
        have dt : (decide (0 ≤ t) && decide (t ≤ n - 1)) = false := by simp; omega
        clear hask a4
        go_enter Try.func26, Try.ntmps26
        go_wp2_with fail
        go_at_call 14
        refine (impl_validRoads _ _ _ _ rs hv).mono ?_; rintro e' w1 ⟨rfl, hB1⟩
        rw [hval]
        go_wp2_with (first
          | (go_at_call 30; with_reducible refine (within_dec s 0 (n - 1) true _ ds).mono ?_; rintro e' w2 ⟨rfl, rfl⟩)
          | (go_at_call 30; with_reducible refine (within_dec t 0 (n - 1) false _ dt).mono ?_; rintro e' w2 ⟨rfl, rfl⟩))
        go_ret
        exact ⟨_, rfl, by rw [hL.out]; exact Own.nil _ _ _ _, hB1⟩
      · have ds : (decide (0 ≤ s) && decide (s ≤ n - 1)) = false := by simp; omega
        clear hask a4
        go_enter Try.func26, Try.ntmps26
        go_wp2_with fail
        go_at_call 14
        refine (impl_validRoads _ _ _ _ rs hv).mono ?_; rintro e' w1 ⟨rfl, hB1⟩
        rw [hval]
        go_wp2_with (go_at_call 30; with_reducible refine (within_dec s 0 (n - 1) false _ ds).mono ?_; rintro e' w2 ⟨rfl, rfl⟩)
        go_ret
        exact ⟨_, rfl, by rw [hL.out]; exact Own.nil _ _ _ _, hB1⟩
    · have hval : validR n rs = false := by simpa using hval
      clear hask
      go_enter Try.func26, Try.ntmps26
      go_wp2_with fail
      go_at_call 14
      refine (impl_validRoads _ _ _ _ rs hv).mono ?_; rintro e' w1 ⟨rfl, hB1⟩
      rw [hval]
      go_wp2_with fail
      go_ret
      exact ⟨_, rfl, by rw [hL.out]; exact Own.nil _ _ _ _, hB1⟩
end Go.Proofs.Ytfacedmdpbddcaa
