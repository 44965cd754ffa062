/- StopsOf: the program's and the model's. -/
import Derived.Test.YtfdnkfhldgcnmaaLogD
import Derived.Test.YtfdnkfhldgcnmaaLog4
import Derived.ProofKit
namespace Go.Proofs.Ytfdnkfhldgcnmaa
open Go.RowKit
set_option linter.unusedVariables false
set_option linter.unusedSimpArgs false

theorem stops_len (es : List Ent) : (stops es).length ≤ es.length := by
  unfold stops; split
  · exact stopsN_len es _
  · simp

def flags (es : List Ent) (k : Nat) : List Bool := (List.range 8).map fun (U : Nat) => lastS es (U : Int) k
theorem flags_get {es : List Ent} {k U : Nat} (hU : U < 8) : (flags es k)[U]? = some (lastS es U k) := by simp [flags, hU]
theorem flags_step {es : List Ent} {k : Nat} (h0 : 0 ≤ (es.getD k e0).u) (h1 : (es.getD k e0).u ≤ 7) : (flags es k).set (es.getD k e0).u.toNat (es.getD k e0).s = flags es (k + 1) := by
  apply List.ext_getElem?
  intro i
  by_cases hi : i < 8
  · rw [flags_get hi]
    by_cases h : i = (es.getD k e0).u.toNat
    · subst h
      rw [List.getElem?_set_self (by rw [show (flags es k).length = 8 by simp [flags]]; omega)]
      simp only [lastS]; rw [if_pos (by omega)]
    · rw [List.getElem?_set_ne (fun e => h e.symm), flags_get hi]
      simp only [lastS]; rw [if_neg (by omega)]
  · rw [List.getElem?_eq_none (by simp [flags]; omega), List.getElem?_eq_none (by simp [flags]; omega)]

theorem arr_cell {w : World} {lo : Nat} {e : TypeId} {sz g : Nat} {cs : List Value} {i : Nat} {u : Value} (h : Own w lo e sz (.slice (some ⟨g, 0, none⟩) 1 1) 1 cs) (hc : cs[i]? = some u) :
    w.cell? ⟨g, i, none⟩ = some u ∧ w.frozen? ⟨g, i, none⟩ = false ∧ g < w.heap.size := by
  obtain ⟨g', e1, h2, h3, h4, h5, h6⟩ := h.parts (by omega)
  cases e1
  obtain ⟨hl, he⟩ := List.getElem?_eq_some_iff.1 hc
  exact ⟨by rw [h4 i hl, he], h5 i, h3⟩

def StopsRet (w : World) (es : List Ent) (e : Ending) (w' : World) : Prop :=
  ∃ v', e = .returned v' ∧ Own w' w.heap.size 34 3 v' (stops es).length ((stops es).flatMap entCells) ∧ Below w.heap.size w w'

set_option maxHeartbeats 2000000 in
theorem impl_stopsOf (w : World) (lo : Nat) (v : Value) (es : List Ent) (hv : Ents w lo v es) :
    Calls Try.prog 26 #[v] w (StopsRet w es) := by
  obtain ⟨ao, cap, rfl, hcap, hm⟩ := hv.form
  by_cases hva : validL es = true
  · have h30 := (validL_iff.1 hva).1
    have HOK : Hid (∀ i, i < es.length → 0 ≤ (es.getD i e0).u ∧ (es.getD i e0).u ≤ 7) := fun i hi => by
      have := okE_iff.1 ((validL_iff.1 hva).2 i hi); exact ⟨this.2.2.1, this.2.2.2.1⟩
    have HST : Hid (stops es = stopsN es es.length) := by unfold Hid stops; rw [if_pos hva]
    go_enter Try.func26, Try.ntmps26
    go_wp2_with fail
    go_at_call 15
    refine (impl_validLog _ _ _ es hv).mono ?_; rintro e' w1 ⟨rfl, hB1⟩
    rw [hva]
    have hv1 : Ents w1 lo _ es := Rd.below hv hB1 (Nat.le_refl _) (by decide)
    have hA0 : Own (w1.alloc (.cells #[.bool false, .bool false, .bool false, .bool false, .bool false, .bool false, .bool false, .bool false] 55)) w1.heap.size 55 8 (.slice (some ⟨w1.heap.size, 0, none⟩) 1 1) 1 ((flags es 0).map .bool) := by
      exact Own.made w1 ((flags es 0).map .bool) 55 w1.heap.size 8 1 rfl (Nat.le_refl _) (by decide)
    have hB0 : Below w1.heap.size w1 (w1.alloc (.cells #[.bool false, .bool false, .bool false, .bool false, .bool false, .bool false, .bool false, .bool false] 55)) := (Below.refl _ _).alloc (Nat.le_refl _) _
    have hz0 : w1.heap.size + 1 ≤ (w1.alloc (.cells #[.bool false, .bool false, .bool false, .bool false, .bool false, .bool false, .bool false, .bool false] 55)).heap.size := by simp
    have hgw : w.heap.size ≤ w1.heap.size := by have := hB1.size; omega
    have HB1 := Lib.hid hB1
    clear hv hB1
    go_wp2_with fail
    go_loopw [3, 12] (fun sv i wo => ∃ k : Nat, k ≤ es.length ∧ i = .int .i64 k ∧ Own wo (w1.heap.size + 1) 34 3 sv (stopsN es k).length ((stopsN es k).flatMap entCells) ∧ Own wo w1.heap.size 55 8 (.slice (some ⟨w1.heap.size, 0, none⟩) 1 1) 1 ((flags es k).map .bool) ∧ Below w1.heap.size w1 wo ∧ w1.heap.size + 1 ≤ wo.heap.size)
      (fun _ i _ => es.length - (intOf i).toNat)
    case atStart => exact ⟨0, Nat.zero_le _, rfl, Own.nil _ _ _ _, hA0, hB0, hz0⟩
    case round =>
      clear hA0 hB0 hz0
      obtain ⟨k, hk, rfl, hS, hA, hB, hz⟩ := hrel
      by_cases hlt : k < es.length
      · obtain ⟨b, off, rfl, _, hb1, hc⟩ := Ents.spot (Rd.below hv1 hB (Nat.le_refl _) (by decide)) (by omega)
        obtain ⟨s1, s2, s3⟩ := hc k hlt
        obtain ⟨hu0, hu1⟩ := HOK.out k hlt
        have hfl := flags_step (es := es) (k := k) hu0 hu1
        have hst : stopsN es (k + 1) = if stopHere es k = true then stopsN es k ++ [es.getD k e0] else stopsN es k := rfl
        have hsh : stopHere es k = ((es.getD k e0).s && !lastS es (es.getD k e0).u k) := rfl
        have hfg : (flags es k)[(es.getD k e0).u.toNat]? = some (lastS es (es.getD k e0).u k) := by
          rw [flags_get (by omega), show (((es.getD k e0).u.toNat : Nat) : Int) = (es.getD k e0).u by omega]
        have hsl := stopsN_len es k
        obtain ⟨x, hx⟩ : ∃ x, x = es.getD k e0 := ⟨_, rfl⟩
        rw [← hx] at s1 s2 s3 hu0 hu1 hfl hst hsh hfg
        obtain ⟨lb, hlb⟩ : ∃ lb, lb = lastS es x.u k := ⟨_, rfl⟩
        rw [← hlb] at hsh hfg
        obtain ⟨un, hun⟩ : ∃ un : Nat, x.u = un ∧ un < 8 := ⟨x.u.toNat, by omega, by omega⟩
        obtain ⟨xt, xu, xs⟩ := x
        obtain ⟨hun, hun8⟩ := hun
        simp only at s1 s2 s3 hu0 hu1 hfl hst hsh hfg hun
        subst hun
        rw [Int.toNat_natCast] at hfl hfg
        rw [hsh] at hst
        have hfgv : ((flags es k).map Value.bool)[un]? = some (.bool lb) := by rw [List.getElem?_map, hfg]; rfl
        obtain ⟨ca, fa, hgl⟩ := arr_cell hA hfgv
        have HFV := Lib.hid hfgv
        clear hfgv
        have HST2 := Lib.hid hst
        have HFL := Lib.hid hfl
        have hwz := hB.size
        clear hc hx hlb hst hfl hsh hfg hv1
        have hne : w1.heap.size ≤ wr.heap.size := hwz
        cases xs
        · go_wp2_with fail
          have HA1 := hA.store (by omega) un (.bool false)
          have HA2 := HA1.1.alloc (.cells #[.int .i64 xt, .int .i64 (un : Int), .bool false] 34)
          have HS2 := (hS.grown HA1.2 (fun k hk => .inl (by cases hk; omega))).alloc (.cells #[.int .i64 xt, .int .i64 (un : Int), .bool false] 34)
          have HST3 : stopsN es (k + 1) = stopsN es k := by rw [HST2.out]; rfl
          go_roundw
          case rel => exact ⟨k + 1, by omega, by go_num, by rw [HST3]; exact HS2, by have := HA2; rw [← HFL.out, List.map_set]; exact this, (hB.setCell (Nat.le_refl _) _).alloc (by simp; omega) _, by simp; omega⟩
          case measure => simp [intOf]; omega
        · cases lb
          · have hSA := hS.alloc (.cells #[.int .i64 xt, .int .i64 (un : Int), .bool true] 34)
            have hAA := hA.alloc (.cells #[.int .i64 xt, .int .i64 (un : Int), .bool true] 34)
            go_wp2_with (((at_builtin; refine wpList_append_ent _ rfl _ _ 25 rfl 34 Try.underlying25 info_entry (w1.heap.size + 1) u3 (stopsN es k) rfl hSA _ _ _ _ (by rw [World.size_alloc]; rfl) (by omega) (by omega) (by simp; omega) ?_; intro v' w5 hO5 hg5 _; have hA5 := hAA.grown hg5 (fun k hk => .inr (by have := (hSA.wblk hk).1; simp [Value.ownBlock]; omega)); obtain ⟨ca5, fa5, hgl5⟩ := arr_cell hA5 HFV.out; have hsz5 := hg5.size; simp only [World.size_alloc] at hsz5; have hbk := hg5.block wr.heap.size (by simp) (fun e => by have := (hS.wblk e.symm).2; omega); have hx1 : w5.cell? ⟨wr.heap.size, 1, none⟩ = some (.int .i64 (un : Int)) := (by rw [World.cell?_of_block hbk, cell_of_row _ wr.heap.size 1 #[.int .i64 xt, .int .i64 (un : Int), .bool true] 34 (0, 0) (heap_alloc_new wr _)]; simp); have hx2 : w5.cell? ⟨wr.heap.size, 2, none⟩ = some (.bool true) := (by rw [World.cell?_of_block hbk, cell_of_row _ wr.heap.size 2 #[.int .i64 xt, .int .i64 (un : Int), .bool true] 34 (0, 0) (heap_alloc_new wr _)]; simp); clear hbk)))
            have HA2 := hA5.store (by omega) un (.bool true)
            have HS2 := hO5.grown HA2.2 (fun k hk => .inl (by cases hk; omega))
            have HST3 : stopsN es (k + 1) = stopsN es k ++ [⟨xt, (un : Int), true⟩] := by rw [HST2.out]; rfl
            go_roundw
            case rel => exact ⟨k + 1, by omega, by go_num, by rw [HST3]; exact HS2, by have := HA2.1; rw [← HFL.out, List.map_set]; exact this, ((hB.alloc (by omega) _).trans (below_of_grownBy hg5 (by simp; omega) (fun k hk => by have := (hSA.wblk hk).1; omega))).setCell (Nat.le_refl _) _, by have := hg5.size; simp at this ⊢; omega⟩
            case measure => simp [intOf]; omega
          · go_wp2_with fail
            have HA1 := hA.store (by omega) un (.bool true)
            have HA2 := HA1.1.alloc (.cells #[.int .i64 xt, .int .i64 (un : Int), .bool true] 34)
            have HS2 := (hS.grown HA1.2 (fun k hk => .inl (by cases hk; omega))).alloc (.cells #[.int .i64 xt, .int .i64 (un : Int), .bool true] 34)
            have HST3 : stopsN es (k + 1) = stopsN es k := by rw [HST2.out]; rfl
            go_roundw
            case rel => exact ⟨k + 1, by omega, by go_num, by rw [HST3]; exact HS2, by have := HA2; rw [← HFL.out, List.map_set]; exact this, (hB.setCell (Nat.le_refl _) _).alloc (by simp; omega) _, by simp; omega⟩
            case measure => simp [intOf]; omega
      · obtain rfl : k = es.length := by omega
        have HR : Hid (Own wr w.heap.size 34 3 u3 (stops es).length ((stops es).flatMap entCells) ∧ Below w.heap.size w wr) := by
          unfold Hid; rw [HST.out]; exact ⟨hS.mono (by omega), HB1.out.trans (hB.mono HB1.out.size)⟩
        clear hS hA
        go_wp2_with fail
        go_ret
        exact ⟨_, rfl, HR.out⟩
  · have hva : validL es = false := by simpa using hva
    have HST : Hid (stops es = []) := by unfold Hid stops; rw [if_neg (by simp [hva])]
    go_enter Try.func26, Try.ntmps26
    go_wp2_with fail
    go_at_call 15
    refine (impl_validLog _ _ _ es hv).mono ?_; rintro e' w1 ⟨rfl, hB1⟩
    rw [hva]
    go_wp2_with fail
    go_ret
    exact ⟨_, rfl, by rw [HST.out]; exact Own.nil _ _ _ _, hB1⟩
theorem Own.drewN {w : World} {lo : Nat} {e : TypeId} {sz : Nat} {v : Value} {n : Nat} {cs : List Value} (h : Own w lo e sz v n cs) (m : Nat) : Own (w.drewN m) lo e sz v n cs :=
  h.grown (row := none) ⟨rfl, rfl, rfl, Nat.le_refl _, fun _ _ _ => rfl⟩ (fun _ e => by cases e)

set_option maxHeartbeats 2000000 in
theorem spec_stopsOf (w : World) (lo : Nat) (v : Value) (es : List Ent) (hv : Ents w lo v es) :
    Calls Try.prog 25 #[v] w (StopsRet w es) := by
  obtain ⟨ao, cap, rfl, hcap, hm⟩ := hv.form
  have hO0 := Own.made w [] 34 w.heap.size 3 0 rfl (Nat.le_refl _) (by decide)
  have hB0 : Below w.heap.size w (w.alloc (.cells #[] 34)) := (Below.refl _ _).alloc (Nat.le_refl _) _
  have hv0 : Ents _ lo _ es := Rd.below hv hB0 (Nat.le_refl _) (by decide)
  by_cases hva : validL es = true
  · have h30 := (validL_iff.1 hva).1
    have HST : Hid (stops es = stopsN es es.length) := by unfold Hid stops; rw [if_pos hva]
    go_enter Try.func25, Try.ntmps25
    go_wp2_with fail
    go_at_call 31
    refine (spec_validLog0 _ _ _ es hv0).mono ?_; rintro e' w1 ⟨rfl, hB1⟩
    rw [hva]
    have hO1 := hO0.below hB1 (Nat.le_refl _)
    have hT1 := hB0.trans (hB1.mono hB0.size)
    clear hO0 hB0 hv0 hB1
    go_wp2_with fail
    go_loopw [3, 4] (fun sv i wo => ∃ k : Nat, k ≤ es.length ∧ i = .int .i64 k ∧ Own wo w.heap.size 34 3 sv (stopsN es k).length ((stopsN es k).flatMap entCells) ∧ Below w.heap.size w wo)
      (fun _ i _ => es.length - (intOf i).toNat)
    case atStart => exact ⟨0, Nat.zero_le _, rfl, hO1, hT1⟩
    case round =>
      clear hO1 hT1
      obtain ⟨k, hk, rfl, hO, hT⟩ := hrel
      by_cases hlt : k < es.length
      · go_wp2_with fail
        go_loopw [5, 6] (fun bv i wi => ∃ j : Nat, j ≤ k ∧ i = .int .i64 j ∧ bv = .bool (lastS es (es.getD k e0).u j) ∧ Own wi w.heap.size 34 3 u3 (stopsN es k).length ((stopsN es k).flatMap entCells) ∧ Below w.heap.size w wi)
          (fun _ i _ => k - (intOf i).toNat)
        case atStart => exact ⟨0, Nat.zero_le _, rfl, rfl, hO, hT⟩
        case round =>
          clear hO hT
          obtain ⟨j, hj, rfl, rfl, hO, hT⟩ := hrel
          obtain ⟨b, off, rfl, _, hb1, hc⟩ := Ents.spot (Rd.below hv hT (Nat.le_refl _) (by decide)) (by omega)
          obtain ⟨s1, s2, s3⟩ := hc k hlt
          have hst : stopsN es (k + 1) = if stopHere es k = true then stopsN es k ++ [es.getD k e0] else stopsN es k := rfl
          have hsh : stopHere es k = ((es.getD k e0).s && !lastS es (es.getD k e0).u k) := rfl
          have hsl := stopsN_len es k
          have hwz := hT.size
          have hk0 : (0 : Int) ≤ (k : Int) := by omega
          have hk1 : (k : Int) < (es.length : Int) := by omega
          by_cases hjk : j < k
          · obtain ⟨q1, q2, q3⟩ := hc j (by omega)
            have hla : lastS es (es.getD k e0).u (j + 1) = if (es.getD j e0).u = (es.getD k e0).u then (es.getD j e0).s else lastS es (es.getD k e0).u j := rfl
            have hj0 : (0 : Int) ≤ (j : Int) := by omega
            have hj1 : (j : Int) < (es.length : Int) := by omega
            obtain ⟨x, hx⟩ : ∃ x, x = es.getD k e0 := ⟨_, rfl⟩
            obtain ⟨y, hy⟩ : ∃ y, y = es.getD j e0 := ⟨_, rfl⟩
            rw [← hx] at s1 s2 s3 hla ⊢
            rw [← hy] at q1 q2 q3 hla
            clear hc hx hy hst hsh hv
            have HLA := Lib.hid hla
            clear hla
            by_cases heq : y.u = x.u
            · have t1 : (y.u == x.u) = true := by simp [heq]
              have HLB : Hid (lastS es x.u (j + 1) = y.s) := by unfold Hid; rw [HLA.out, if_pos heq]
              clear heq HLA
              go_wp2_with fail
              go_quiet (fail)
              go_wp2
              go_roundw
              case rel => exact ⟨j + 1, by omega, by go_num, by rw [HLB.out], hO.drewN _, below_drewN hT _⟩
              case measure => simp [intOf]; omega
            · have t1 : (y.u == x.u) = false := by simp [heq]
              have HLB : Hid (lastS es x.u (j + 1) = lastS es x.u j) := by unfold Hid; rw [HLA.out, if_neg heq]
              clear heq HLA
              go_wp2_with fail
              go_quiet (fail)
              go_wp2
              go_roundw
              case rel => exact ⟨j + 1, by omega, by go_num, by rw [HLB.out], hO.drewN _, below_drewN hT _⟩
              case measure => simp [intOf]; omega
          · obtain rfl : j = k := by omega
            obtain ⟨x, hx⟩ : ∃ x, x = es.getD j e0 := ⟨_, rfl⟩
            rw [← hx] at s1 s2 s3 hst hsh ⊢
            obtain ⟨lb, hlb⟩ : ∃ lb, lb = lastS es x.u j := ⟨_, rfl⟩
            rw [← hlb] at hsh ⊢
            rw [hsh] at hst
            obtain ⟨xt, xu, xs⟩ := x
            have HST2 := Lib.hid hst
            clear hc hx hlb hst hsh hv
            cases xs
            · go_wp2_with fail
              have HST3 : stopsN es (j + 1) = stopsN es j := by rw [HST2.out]; rfl
              go_roundw
              case rel => exact ⟨j + 1, by omega, by go_num, by rw [HST3]; exact hO, hT⟩
              case measure => simp [intOf]; omega
            · cases lb
              · go_wp2_with (at_builtin; refine wpList_append_ent _ rfl _ _ 25 rfl 34 Try.underlying25 info_entry w.heap.size u3 (stopsN es j) rfl hO _ _ _ _ rfl (by omega) (by omega) (by omega) ?_; intro v' w5 hO5 hg5 _)
                have HST3 : stopsN es (j + 1) = stopsN es j ++ [⟨xt, xu, true⟩] := by rw [HST2.out]; rfl
                go_roundw
                case rel => exact ⟨j + 1, by omega, by go_num, by rw [HST3]; exact hO5, hT.trans (below_of_grownBy hg5 (by omega) (fun k hk => (hO.wblk hk).1))⟩
                case measure => simp [intOf]; omega
              · go_wp2_with fail
                have HST3 : stopsN es (j + 1) = stopsN es j := by rw [HST2.out]; rfl
                go_roundw
                case rel => exact ⟨j + 1, by omega, by go_num, by rw [HST3]; exact hO, hT⟩
                case measure => simp [intOf]; omega
      · obtain rfl : k = es.length := by omega
        have HR : Hid (Own wr w.heap.size 34 3 u3 (stops es).length ((stops es).flatMap entCells) ∧ Below w.heap.size w wr) := by
          unfold Hid; rw [HST.out]; exact ⟨hO, hT⟩
        clear hO hT
        go_wp2_with fail
        go_ret
        exact ⟨_, rfl, HR.out⟩
  · have hva : validL es = false := by simpa using hva
    have HST : Hid (stops es = []) := by unfold Hid stops; rw [if_neg (by simp [hva])]
    go_enter Try.func25, Try.ntmps25
    go_wp2_with fail
    go_at_call 31
    refine (spec_validLog0 _ _ _ es hv0).mono ?_; rintro e' w1 ⟨rfl, hB1⟩
    rw [hva]
    go_wp2_with fail
    go_ret
    exact ⟨_, rfl, by rw [HST.out]; exact Own.nil _ _ _ _, hB0.trans (hB1.mono hB0.size)⟩
end Go.Proofs.Ytfdnkfhldgcnmaa
