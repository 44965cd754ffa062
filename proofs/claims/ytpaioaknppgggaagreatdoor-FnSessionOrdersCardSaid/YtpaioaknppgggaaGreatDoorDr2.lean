/- The draw of a session's lines. -/
import Derived.Test.YtpaioaknppgggaaGreatDoorDr1
namespace Go.Proofs.YtpaioaknppgggaaGreatDoor
open Go.RowKit
set_option linter.unusedVariables false
set_option linter.unusedSimpArgs false

theorem info_strD : (Tryz.prog.info? 9).map (fun i => (i.zero, i.size, i.bytes)) = some (some (.string ⟨#[]⟩), 1, 16) := by kernel_rfl
theorem strV_self (S : ByteArray) : strV S.data.toList = .string S := by unfold strV; simp
/-- Lines of a draw: few, and short. -/
def fewL (ls : List (List UInt8)) (n m : Nat) : Prop := ls.length ≤ n ∧ ∀ x ∈ ls, x.length ≤ m
def DrawRs (w : World) (e : Ending) (w' : World) : Prop := ∃ v ls, e = .returned v ∧ Own w' (w.heap.size + 1) 9 1 v ls.length (ls.map strV) ∧ fewL ls 15 1000 ∧ Below w.heap.size w w'
theorem few_snoc {ls : List (List UInt8)} {n m : Nat} {S : ByteArray} (h : fewL ls n m) (hS : S.size ≤ m) : fewL (ls ++ [S.data.toList]) (n + 1) m := by
  refine ⟨by rw [List.length_append]; have := h.1; simp; omega, fun x hx => ?_⟩
  rcases List.mem_append.1 hx with hx | hx
  · exact h.2 x hx
  · simp at hx; rw [hx]
    have : S.data.toList.length = S.size := (str8_self S).size.symm
    omega
theorem few_set {ls : List (List UInt8)} {n m : Nat} {S : ByteArray} (h : fewL ls n m) (k : Nat) (hS : S.size ≤ m) : fewL (ls.set k S.data.toList) n m := by
  refine ⟨by rw [List.length_set]; exact h.1, fun x hx => ?_⟩
  rcases List.mem_or_eq_of_mem_set hx with hx | hx
  · exact h.2 x hx
  · rw [hx]
    have : S.data.toList.length = S.size := (str8_self S).size.symm
    omega
theorem few_mono {ls : List (List UInt8)} {n m n' m' : Nat} (h : fewL ls n m) (hn : n ≤ n') (hm : m ≤ m') : fewL ls n' m' := ⟨Nat.le_trans h.1 hn, fun x hx => Nat.le_trans (h.2 x hx) hm⟩
theorem drawRs_of {w w' : World} {n0 : Nat} {v : Value} {ls : List (List UInt8)} (h : Hid (n0 = w.heap.size)) (hO : Own w' (n0 + 1) 9 1 v ls.length (ls.map strV)) (hf : fewL ls 15 1000) (hB : Below n0 w w') : DrawRs w (.returned v) w' := by
  have := h.out
  subst this
  exact ⟨v, ls, rfl, hO, hf, hB⟩
def drawnL : List Value := [.string ⟨#[117, 112]⟩, .string ⟨#[100, 111, 119, 110]⟩]

set_option maxRecDepth 100000 in
set_option maxHeartbeats 8000000 in
theorem drawRunSession (w : World) (v : Value) (bs : List UInt8) (hv : Bytes w 0 v bs) :
    Calls Tryz.prog 8 #[v] w (DrawRs w) := by
  obtain ⟨ao, cap, rfl, _, _⟩ := hv.form
  have HBB := Lib.hid (bytes_blk hv)
  have HV := Lib.hid hv
  clear hv
  obtain ⟨n0, hn0⟩ : ∃ n0, n0 = w.heap.size := ⟨_, rfl⟩
  go_enter Tryz.func8, Tryz.ntmps8
  go_wp2_with fail
  go_at_call 15
  refine (newReader_B w w.heap.size _ bs HV.out HBB.out (Nat.le_refl _)).mono ?_; rintro e w1 ⟨rfl, hr1, hB1⟩
  have hr1 : Rdh w.heap.size w1 w.heap.size 0 := hr1
  rw [← hn0] at hr1 hB1 ⊢
  have hlt1 := hr1.lt
  have hO1 := Own.made w1 [] 9 (n0 + 1) 1 0 rfl (by omega) (by decide)
  have ha1 := World.grownBy_alloc w1 (.cells #[] 9) none
  have hr2 := hr1.grown ha1 (fun k hk => by cases hk)
  have hB2 := hB1.alloc (by have := hB1.size; omega) (.cells #[] 9)
  have HN := Lib.hid hn0
  clear hn0 hr1 hB1
  go_wp2_with fail
  go_at_call 16
  obtain ⟨w2, hw2⟩ : ∃ w2, w2 = w1.alloc (.cells #[] 9) := ⟨_, rfl⟩
  have e2 : w1.alloc (.cells [].toArray 9) = w2 := hw2.symm
  rw [e2] at hO1
  rw [← hw2] at hr2 hB2 ⊢
  have hsz2 : w1.heap.size + 1 = w2.heap.size := by rw [hw2]; simp
  first | rw [hsz2] | skip
  refine (one_LR w2 n0 0 [6, 10, 15, 3, 0] _ 5 rfl hr2 (by omega) (by omega) (by omega)).mono ?_
  rintro e w3 ⟨n, rfl, hx, hr3, hg3⟩
  have hnb : 0 ≤ n ∧ n ≤ 15 := by
    have := hx.out
    simp only [List.mem_cons, List.not_mem_nil, or_false] at this
    omega
  obtain ⟨N, rfl⟩ : ∃ N : Nat, n = N := ⟨n.toNat, by omega⟩
  have hO3 := hO1.grown hg3 (fun k hk => by cases hk; exact .inl (Nat.lt_succ_self _))
  have hB3 := hB2.trans (below_of_grownBy hg3 (by have := hB2.size; omega) (fun k hk => by cases hk; exact Nat.le_refl _))
  have HR3 := Lib.hid hr3
  clear hO1 e2 hw2 hsz2 hr2 hB2 hx hr3 hg3 ha1 hlt1
  go_wp2_with fail
  go_loopw [4, 5] (fun lv nv V => ∃ (q p : Nat) (ls : List (List UInt8)), nv = .int .i64 q ∧ ls.length + q ≤ 15 ∧ p ≤ 1 + ls.length ∧ fewL ls ls.length 100 ∧ Own V (n0 + 1) 9 1 lv ls.length (ls.map strV) ∧ Rdh n0 V n0 p ∧ Below n0 w V) (fun _ nv _ => (intOf nv).toNat)
  case atStart => exact ⟨N, 1, [], rfl, by simp; omega, by simp, ⟨Nat.le_refl _, fun x hx => by simp at hx⟩, hO3, HR3.out, hB3⟩
  case round =>
    clear hO3 hB3 HR3
    obtain ⟨q, p, ls, rfl, hq, hp, hfew, hO, hR, hB⟩ := hrel
    have hsz := hR.lt
    by_cases hq0 : 0 < q
    · have hqz : (0 : Int) < (q : Int) := by omega
      have dq : decide (0 < q) = true := decide_eq_true hq0
      have HFW := Lib.hid hfew
      have HRD := Lib.hid hR
      have HB := Lib.hid hB
      clear hfew hR hB
      go_wp2_with fail
      go_at_call 17
      with_reducible refine (of_L _ _ _ _ _ 24 rfl (by kernel_rfl) HRD.out (by omega) (by decide) (by decide)).mono ?_
      rintro e w4 ⟨S, rfl, hS, hr4, hg4⟩
      have hO4 := hO.grown hg4 (fun k hk => by cases hk; exact .inl (Nat.lt_succ_self _))
      have hB4 := HB.out.trans (below_of_grownBy hg4 (by omega) (fun k hk => by cases hk; exact Nat.le_refl _))
      have hs4 := hg4.size
      have HR4 := Lib.hid hr4
      clear hO hr4 hg4 HRD HB
      go_wp2_with (at_builtin; refine wpList_append_one _ rfl _ _ 23 rfl 9 (.string ⟨#[]⟩) 16 Tryz.underlying23 info_strD rfl (n0 + 1) _ _ _ rfl hO4 _ _ rfl rfl (by omega) (by omega) (by omega) ?_; intro v5 w5 hO5 hg5 hk5; have hr5 := HR4.out.grown hg5 (fun k hk => (hO4.wblk hk).1); have hB5 := hB4.trans (below_of_grownBy hg5 (by omega) (fun k hk => by have := (hO4.wblk hk).1; omega)))
      go_roundw
      case rel => exact ⟨q - 1, p + 1, ls ++ [S.data.toList], by go_num, by rw [List.length_append]; simp; omega, by rw [List.length_append]; simp; omega, by rw [List.length_append]; exact few_snoc HFW.out hS, by rw [List.length_append, List.map_append, List.map_cons, List.map_nil, strV_self]; exact hO5, hr5, hB5⟩
      case measure => simp [intOf]; omega
    · have hq1 : q = 0 := by omega
      subst hq1
      obtain ⟨bo, bc, rfl, _, _⟩ := hO.form
      have HRD := Lib.hid hR
      have HB := Lib.hid hB
      clear hR hB hq0
      by_cases hl0 : 0 < ls.length
      · have dl : ((0 : Int) < ((ls.length : Nat) : Int)) := by omega
        go_wp2_with fail
        go_at_call 18
        refine (pick_h _ _ _ 6 HRD.out (by omega) (by omega)).mono ?_; rintro e w4 ⟨x, rfl, ⟨hx0, hx1, hx2⟩, hr4, hg4⟩
        have hO4 := hO.grown hg4 (fun k hk => by cases hk; exact .inl (Nat.lt_succ_self _))
        have hB4 := HB.out.trans (below_of_grownBy hg4 (by omega) (fun k hk => by cases hk; exact Nat.le_refl _))
        have HR4 := Lib.hid hr4
        have HB4 := Lib.hid hB4
        clear hO HRD HB hr4 hg4 hB4 hx1
        by_cases h0 : x = 0
        · have t0 : (x == 0) = true := by rw [h0]; rfl
          clear h0
          go_wp2_with fail
          go_at_call 18
          refine (pick_h _ _ _ (ls.length : Int) HR4.out (by omega) (by omega)).mono ?_; rintro e w5 ⟨y, rfl, ⟨hy0, hy1, hy2⟩, hr5, hg5⟩
          have hy3 := hy1 (by omega)
          clear hy1
          obtain ⟨k, rfl⟩ : ∃ k : Nat, y = k := ⟨y.toNat, by omega⟩
          have hO5 := hO4.grown hg5 (fun k hk => by cases hk; exact .inl (Nat.lt_succ_self _))
          have hs4 := HR4.out.lt
          have hB5 := HB4.out.trans (below_of_grownBy hg5 (by have := HB4.out.size; have := HN.out; omega) (fun k hk => by cases hk; exact Nat.le_refl _))
          obtain ⟨g, rfl, hg0, hg1, hcell, hfr, hset⟩ := hO5.parts hl0
          obtain ⟨S, hS⟩ : ∃ S : ByteArray, S = ⟨(ls.getD k []).toArray⟩ := ⟨_, rfl⟩
          have hSs : S.size ≤ 100 := by
            rw [hS]
            have h := hfew.2 (ls.getD k []) (by rw [List.getD_eq_getElem?_getD, List.getElem?_eq_getElem (by omega)]; exact List.getElem_mem _)
            show (ls.getD k []).toArray.size ≤ 100
            simpa using h
          have hc5 : w5.cell? ⟨g, k, none⟩ = some (.string S) := by
            rw [hcell k (by rw [List.length_map]; omega), List.getElem_map, hS, List.getD_eq_getElem?_getD, List.getElem?_eq_getElem (by omega)]; rfl
          have HR5 := Lib.hid hr5
          have HB5 := Lib.hid hB5
          clear hS hcell hr5 hg5 hB5 hO4 HR4 HB4 hset
          have hs5 : g < w5.heap.size := hg1
          go_wp2_with (go_at_call 19; refine (mutate_h _ _ _ S HR5.out (by omega) (by omega)).mono ?_; rintro e w6 ⟨A, p', rfl, hA, hp', hr6, hgm6⟩; have hO6 := hO5.grown hgm6 (fun k hk => by cases hk; exact .inl (Nat.lt_succ_self _)); obtain ⟨g', eg, _, hg6, hcell6, hfr6, hset6⟩ := hO6.parts hl0; cases eg; have f6 := hfr6 k; have c6 := hcell6 k (by rw [List.length_map]; omega); have hset6 := Lib.hid (hset6 k (.string A)); have HC6 := Lib.hid c6; have hg6' := Lib.hid hg6; obtain ⟨z, hz⟩ : ∃ z, w6.cell? ⟨g, k, none⟩ = some z := ⟨_, c6⟩; clear hfr6 hcell6 c6)
          go_ret
          have hs0 : n0 ≤ w6.heap.size := by have := hset6.out.2.size; have := HB5.out.size; have := HN.out; have := hgm6.size; omega
          refine drawRs_of (ls := ls.set k A.data.toList) HN ?_ (few_mono (few_set (few_mono hfew (Nat.le_refl _) (by omega : 100 ≤ 200)) k (by omega)) (by omega) (by omega)) ((HB5.out.trans (below_of_grownBy hgm6 (by have := HB5.out.size; have := HN.out; omega) (fun k hk => by cases hk; exact Nat.le_refl _))).trans (below_of_grownBy hset6.out.2 hs0 (fun k hk => by cases hk; omega)))
          rw [List.length_set, List.map_set, strV_self]
          exact hset6.out.1
        · have t0 : (x == 0) = false := beq_eq_false_iff_ne.mpr h0
          go_wp2_with fail
          go_ret
          exact drawRs_of HN hO4 (few_mono hfew (by omega) (by omega)) HB4.out
      · have dl : ¬ ((0 : Int) < ((ls.length : Nat) : Int)) := by omega
        go_wp2_with fail
        go_ret
        exact drawRs_of HN hO (few_mono hfew (by omega) (by omega)) HB.out
end Go.Proofs.YtpaioaknppgggaaGreatDoor
