/- ConflictsOf, clear, fits: the reference's. -/
import Derived.Test.YtokpgipbgkiepaaPlP
namespace Go.Proofs.Ytokpgipbgkiepaa
open Go.RowKit
set_option linter.unusedVariables false
set_option linter.unusedSimpArgs false

theorem info_bool2 : (Try.prog.info? 4).map (fun i => (i.zero, i.size, i.bytes)) = some (some (.bool false), 1, 1) := by kernel_rfl
/-- The first k rows of a table of conflicts: each in a block of its own. -/
def RowsC (w : World) (lo : Nat) (v : Value) (t : List (List Int)) (hs : List Value) (k : Nat) : Prop :=
  ∀ j, j < k → ∃ b1 c1, hs[j]? = some (.slice (some ⟨b1, 0, none⟩) t.length c1) ∧ t.length ≤ c1 ∧ c1 ≤ 9223372036854775807 ∧ lo ≤ b1 ∧ b1 < w.heap.size ∧ wblk v ≠ some b1 ∧ ∀ c, c < t.length → w.cell? ⟨b1, c, none⟩ = some (.bool (decide (0 < tat t j c)))
theorem RowsC.grown {w w' : World} {lo k : Nat} {v v' : Value} {t : List (List Int)} {hs : List Value} {row : Option Nat} (h : RowsC w lo v t hs k) (hg : w.grownBy w' row)
    (hr : ∀ q, row = some q → wblk v = some q ∨ w.heap.size ≤ q) (hv : ∀ q, wblk v' = some q → wblk v = some q ∨ w.heap.size ≤ q) : RowsC w' lo v' t hs k := by
  intro j hj
  obtain ⟨b1, c1, q1, q2, q3, q4, q5, q6, q7⟩ := h j hj
  refine ⟨b1, c1, q1, q2, q3, q4, Nat.lt_of_lt_of_le q5 hg.size, fun e => ?_, fun c hc => ?_⟩
  · rcases hv b1 e with h | h
    · exact q6 h
    · omega
  · rw [← q7 c hc]
    refine World.cell?_of_block (hg.block b1 q5 (fun e => ?_))
    rcases hr b1 e.symm with h | h
    · exact q6 h
    · omega
theorem RowsC.below {w w' : World} {lo k B : Nat} {v : Value} {t : List (List Int)} {hs : List Value} (h : RowsC w lo v t hs k) (hb : Below B w w') (hB : w.heap.size ≤ B) : RowsC w' lo v t hs k :=
  h.grown (row := none) (v' := v) ⟨hb.os, hb.tape, hb.output, hb.size, fun k hk _ => hb.block k (by omega)⟩ (fun _ e => by cases e) (fun _ e => .inl e)
theorem RowsC.snoc {w : World} {lo k b1 c1 : Nat} {v : Value} {t : List (List Int)} {hs : List Value} (h : RowsC w lo v t hs k) (hl : hs.length = k) (q2 : t.length ≤ c1) (q3 : c1 ≤ 9223372036854775807) (q4 : lo ≤ b1) (q5 : b1 < w.heap.size) (q6 : wblk v ≠ some b1)
    (q7 : ∀ c, c < t.length → w.cell? ⟨b1, c, none⟩ = some (.bool (decide (0 < tat t k c)))) : RowsC w lo v t (hs ++ [.slice (some ⟨b1, 0, none⟩) t.length c1]) (k + 1) := by
  intro j hj
  by_cases e : j = k
  · subst e
    refine ⟨b1, c1, by rw [List.getElem?_append_right (by omega), hl]; simp, q2, q3, q4, q5, q6, q7⟩
  · obtain ⟨b2, c2, p1, p⟩ := h j (by omega)
    exact ⟨b2, c2, by rw [List.getElem?_append_left (by omega)]; exact p1, p⟩
def rowBs (t : List (List Int)) (a c : Nat) : List Value := (List.range c).map fun j => .bool (decide (0 < tat t a j))
theorem rowBs_succ (t : List (List Int)) (a c : Nat) : rowBs t a (c + 1) = rowBs t a c ++ [.bool (decide (0 < tat t a c))] := by unfold rowBs; rw [List.range_succ, List.map_append]; rfl
theorem rowBs_len (t : List (List Int)) (a c : Nat) : (rowBs t a c).length = c := by simp [rowBs]

theorem spec_validClearance_H (w : World) (lo : Nat) (v : Value) (t : List (List Int)) (r : Bool) (hv : IntSS w lo v t) (h : validCl t = r) :
    Calls Try.prog 105 #[v] w fun e w' => e = .returned (.bool r) ∧ Below w.heap.size w w' := by
  rw [← h]; exact spec_validClearance w lo v t hv

set_option maxHeartbeats 8000000 in
theorem spec_conflictsOf (w : World) (lo : Nat) (v : Value) (t : List (List Int)) (hv : IntSS w lo v t) (hval : validCl t = true) :
    Calls Try.prog 123 #[v] w (ConfRet w t) := by
  obtain ⟨ao, cap, rfl, hcap, hm⟩ := hv.form
  obtain ⟨hn1, hn2, hrow, hsym⟩ := validCl_iff.1 hval
  obtain ⟨b, off, rfl, _, hb, hc⟩ := hv.spot (by omega)
  have HC := Lib.hid hc
  have HROW := Lib.hid hrow
  have HV := Lib.hid hv
  have HVAL := Lib.hid hval
  clear hc hrow hsym hv hval
  obtain ⟨w0, hw0⟩ : ∃ w0, w0 = w.alloc (.cells #[] 100) := ⟨_, rfl⟩
  have hB0 : Below w.heap.size w w0 := by rw [hw0]; exact (Below.refl _ _).alloc (Nat.le_refl _) _
  have hO0 : Own w0 w.heap.size 100 1 (.slice (some ⟨w.heap.size, 0, none⟩) 0 0) 0 [] := by rw [hw0]; exact Own.made w [] 100 w.heap.size 1 0 rfl (Nat.le_refl _) (by decide)
  go_enter Try.func123, Try.ntmps123
  go_wp2_with fail
  rw [← hw0]
  clear hw0
  refine (spec_validClearance_H _ lo _ t true (HV.out.below hB0 (Nat.le_refl _)) HVAL.out).mono ?_; rintro e w1 ⟨rfl, hB1⟩
  have hO1 := hO0.below hB1 (Nat.le_refl _)
  have hT1 := hB0.trans (hB1.mono hB0.size)
  clear hO0 hB0 hB1
  go_wp2_with fail
  go_loopw [3, 4] (fun ov i wo => ∃ a : Nat, ∃ hs, a ≤ t.length ∧ i = .int .i64 a ∧ Own wo w.heap.size 100 1 ov a hs ∧ RowsC wo w.heap.size ov t hs a ∧ Below w.heap.size w wo) (fun _ i _ => t.length - (intOf i).toNat)
  case atStart => exact ⟨0, [], Nat.zero_le _, rfl, hO1, fun j hj => by omega, hT1⟩
  case round =>
    clear hO1 hT1
    obtain ⟨wo, rfl⟩ : ∃ wo : World, wo = wr := ⟨_, rfl⟩
    obtain ⟨a, hs, ha, rfl, hO, hR, hB⟩ := hrel
    by_cases hlt : a < t.length
    · obtain ⟨ai, ci, h1w, hIw⟩ := HC.out a hlt
      have hrl := (rowOk_iff.1 (HROW.out a hlt)).1
      rw [hrl] at h1w hIw
      obtain ⟨b1, off1, rfl, _, hb1, hx⟩ := hIw.spot 0 (by omega)
      obtain ⟨_, hc1, hc2⟩ := IntSS.rowlen hIw
      have HX : Hid (∀ c, c < t.length → w.cell? ⟨b1, off1 + c, none⟩ = some (.int .i64 (tat t a c))) := fun c hc => hx c (by omega)
      have hsz := hB.size
      have hlen := hO.len
      have HLEN : Hid (hs.length = a) := by unfold Hid; omega
      have hI0 : Own (wo.alloc (.cells #[] 4)) wo.heap.size 4 1 (.slice (some ⟨wo.heap.size, 0, none⟩) 0 0) 0 (rowBs t a 0) := Own.made wo [] 4 wo.heap.size 1 0 rfl (Nat.le_refl _) (by decide)
      have hBi : Below wo.heap.size wo (wo.alloc (.cells #[] 4)) := (Below.refl _ _).alloc (Nat.le_refl _) _
      obtain ⟨w2, hw2⟩ : ∃ w2, w2 = wo.alloc (.cells #[] 4) := ⟨_, rfl⟩
      rw [← hw2] at hI0 hBi
      have HO := Lib.hid hO
      have HR := Lib.hid hR
      clear hx hIw hlen hO hR
      go_wp2_with fail
      rw [← hw2]
      clear hw2
      go_loopw [5, 6] (fun rv i wi => ∃ c : Nat, c ≤ t.length ∧ i = .int .i64 c ∧ Own wi wo.heap.size 4 1 rv c (rowBs t a c) ∧ Below wo.heap.size wo wi) (fun _ i _ => t.length - (intOf i).toNat)
      case atStart => exact ⟨0, Nat.zero_le _, rfl, hI0, hBi⟩
      case round =>
        clear hI0 hBi
        obtain ⟨c, hc, rfl, hI, hBi⟩ := hrel
        have hszi := hBi.size
        by_cases hltc : c < t.length
        · have hT := hB.trans (hBi.mono hB.size)
          have q1 := (hT.cell (p := ⟨b, off + a, none⟩) hb).trans h1w
          have q2 := (hT.cell (p := ⟨b1, off1 + c, none⟩) hb1).trans (HX.out c hltc)
          have hsu := rowBs_succ t a c
          obtain ⟨x, hx⟩ : ∃ x, x = tat t a c := ⟨_, rfl⟩
          rw [← hx] at q2 hsu
          have HSU := Lib.hid hsu
          clear hx hsu hT
          go_wp2_with (at_builtin; refine wpList_append_one _ rfl _ _ 100 rfl 4 (.bool false) 1 Try.underlying100 info_bool2 rfl wo.heap.size _ _ _ rfl hI _ _ rfl rfl (by omega) (by omega) hszi ?_; intro v' w3 hI3 hg3 _)
          have hB3 := hBi.trans (below_of_grownBy hg3 hszi (fun q hq => (hI.wblk hq).1))
          rw [← HSU.out] at hI3
          clear hI hg3 hBi
          go_roundw
          case rel => exact ⟨c + 1, by omega, by go_num, hI3, hB3⟩
          case measure => simp [intOf]; omega
        · obtain rfl : c = t.length := by omega
          have hO2 := HO.out.below hBi (Nat.le_refl _)
          have hR2 := HR.out.below hBi (Nat.le_refl _)
          have hB2 := hB.trans (hBi.mono hB.size)
          have hsz2 := hB2.size
          obtain ⟨ao3, cap3, rfl, hcap3, hm3⟩ := hI.form
          obtain ⟨g, rfl, hgl, hgs, hcell, _, _⟩ := hI.parts (by omega)
          have HCELL : Hid (∀ c, c < t.length → wr.cell? ⟨g, c, none⟩ = some (.bool (decide (0 < tat t a c)))) := fun c hc => by
            rw [hcell c (by rw [rowBs_len]; omega)]; simp [rowBs]
          have hne : ∀ q, wblk u3 = some q → q < wo.heap.size := fun q hq => (HO.out.wblk hq).2
          have HNE := Lib.hid hne
          clear hcell hne
          go_wp2_with (at_builtin; refine wpList_append_one _ rfl _ _ 58 rfl 100 (.slice none 0 0) 24 Try.underlying58 info_boolsl rfl w.heap.size _ _ _ rfl hO2 _ _ rfl rfl (by omega) (by omega) hsz2 ?_; intro v' w3 hO3 hg3 hk3)
          have hB3 := hB2.trans (below_of_grownBy hg3 hsz2 (fun q hq => (hO2.wblk hq).1))
          have hR3 := hR2.grown (v' := v') hg3 (fun q hq => .inl hq) hk3
          have hR4 := hR3.snoc HLEN.out hcap3 hm3 (by omega) (Nat.lt_of_lt_of_le hgs hg3.size) (fun e => by
            rcases hk3 g e with h | h
            · have := HNE.out g h; omega
            · omega) (fun c hc => by
            rw [← HCELL.out c hc]
            exact World.cell?_of_block (hg3.block g hgs (fun e => by have := HNE.out g e.symm; omega)))
          clear hR3 hR2 hO2 hg3 hk3 hI hBi
          go_roundw
          case rel => exact ⟨a + 1, _, by omega, by go_num, hO3, hR4, hB3⟩
          case measure => simp [intOf]; omega
    · obtain rfl : a = t.length := by omega
      have hlen := hO.len
      obtain ⟨ao3, cap3, rfl, hcap3, hm3⟩ := hO.form
      obtain ⟨g, rfl, hgl, hgs, hcell, _, _⟩ := hO.parts (by omega)
      have hF : Hid (ConfR wo w.heap.size (.slice (some ⟨g, 0, none⟩) t.length cap3) t) := by
        refine ⟨g, 0, cap3, rfl, hcap3, hm3, hgl, hgs, fun j hj => ?_⟩
        obtain ⟨b1, c1, q1, q2, q3, q4, q5, q6, q7⟩ := hR j hj
        obtain ⟨hl, he⟩ := List.getElem?_eq_some_iff.1 q1
        refine ⟨b1, 0, c1, by rw [Nat.zero_add, hcell j hl, he], q2, q3, q4, q5, fun c hc => by rw [Nat.zero_add]; exact q7 c hc⟩
      clear hO hR hcell
      go_wp2_with fail
      go_ret
      exact ⟨_, rfl, hF.out, hB⟩

set_option maxHeartbeats 4000000 in
theorem spec_clear (w : World) (lo lo' : Nat) (vc vp : Value) (t : List (List Int)) (ph : List Int) (hc : ConfR w lo vc t) (hp : Ints w lo' vp ph) (hin : ∀ i, i < ph.length → 0 ≤ ph.getD i 0 ∧ ph.getD i 0 < t.length) :
    Calls Try.prog 122 #[vc, vp] w fun e w' => e = .returned (.bool (apartB t ph)) ∧ Below w.heap.size w w' := by
  obtain ⟨ao, cap, rfl, hcap, hm⟩ := hp.form
  obtain ⟨b, off, capc, rfl, hcc, hcm, _, hb, hcx⟩ := hc
  have HC := Lib.hid hcx
  have HIN := Lib.hid hin
  clear hcx hin
  go_enter Try.func122, Try.ntmps122
  go_wp2_with fail
  go_loopw [5] (fun i wo => ∃ k : Nat, k ≤ ph.length ∧ i = .int .i64 k ∧ (∀ i', i' < k → ∀ j, j < i' → ¬ 0 < tat t (ph.getD i' 0).toNat (ph.getD j 0).toNat) ∧ Below w.heap.size w wo) (fun i _ => ph.length - (intOf i).toNat)
  case atStart => exact ⟨0, Nat.zero_le _, rfl, fun j hj => by omega, Below.refl _ _⟩
  case round =>
    obtain ⟨k, hk, rfl, hall, hB⟩ := hrel
    have HA := Lib.hid hall
    clear hall
    by_cases hlt : k < ph.length
    · obtain ⟨bp, op, rfl, _, hbp, hx⟩ := hp.spot 0 (by omega)
      have HX := Lib.hid hx
      have hxi := HIN.out k hlt
      have hxw := hx k hlt
      obtain ⟨x, hxx⟩ : ∃ x, x = ph.getD k 0 := ⟨_, rfl⟩
      rw [← hxx] at hxi hxw
      have HXX := Lib.hid hxx
      obtain ⟨A, rfl⟩ := Int.eq_ofNat_of_zero_le hxi.1
      have hA : A < t.length := by omega
      obtain ⟨b1, off1, c1, h1, q1, q2, _, hb1, hx1⟩ := HC.out A hA
      have HX1 := Lib.hid hx1
      have HB := Lib.hid hB
      clear hx hxx hx1 hxi hB
      go_wp2_with fail
      go_loopw [6] (fun i wi => ∃ j : Nat, j ≤ k ∧ i = .int .i64 j ∧ (∀ j', j' < j → ¬ 0 < tat t A (ph.getD j' 0).toNat) ∧ Below w.heap.size w wi) (fun i _ => k - (intOf i).toNat)
      case atStart => exact ⟨0, Nat.zero_le _, rfl, fun j hj => by omega, HB.out⟩
      case round =>
        clear HB
        obtain ⟨j, hj, rfl, hall, hB⟩ := hrel
        have HJ := Lib.hid hall
        clear hall
        by_cases hjk : j < k
        · have hyi := HIN.out j (by omega)
          have hyw := (hB.cell (p := ⟨bp, op + j, none⟩) hbp).trans (HX.out j (by omega))
          have hxw2 := (hB.cell (p := ⟨bp, op + k, none⟩) hbp).trans hxw
          obtain ⟨y, hyy⟩ : ∃ y, y = ph.getD j 0 := ⟨_, rfl⟩
          rw [← hyy] at hyi hyw
          have HYY := Lib.hid hyy
          obtain ⟨Y, rfl⟩ := Int.eq_ofNat_of_zero_le hyi.1
          have hY : Y < t.length := by omega
          have s1 := (hB.cell (p := ⟨b, off + A, none⟩) hb).trans h1
          have s2 := (hB.cell (p := ⟨b1, off1 + Y, none⟩) hb1).trans (HX1.out Y hY)
          have a0 : (0 : Int) ≤ (A : Int) := by omega
          have a1 : (A : Int) < (t.length : Int) := by omega
          have y0 : (0 : Int) ≤ (Y : Int) := by omega
          have y1 : (Y : Int) < (t.length : Int) := by omega
          have j0 : (0 : Int) ≤ (j : Int) := by omega
          have j1 : (j : Int) < (ph.length : Int) := by omega
          have k0 : (0 : Int) ≤ (k : Int) := by omega
          have k1 : (k : Int) < (ph.length : Int) := by omega
          clear hyy hyi
          by_cases hcf : 0 < tat t A Y
          · have d1 : decide (0 < tat t A Y) = true := decide_eq_true hcf
            rw [d1] at s2
            have HN : Hid (apartB t ph = false) := by
              unfold Hid; rw [Bool.eq_false_iff]; intro h
              have := (apartB_iff.1 h) k hlt j hjk
              rw [← HXX.out, ← HYY.out] at this
              exact this hcf
            clear hcf d1
            go_wp2_with fail
            go_quiet (fail)
            go_wp2
            go_ret
            exact ⟨ret_B HN, below_drewN hB _⟩
          · have d1 : decide (0 < tat t A Y) = false := decide_eq_false hcf
            rw [d1] at s2
            have HY : Hid (¬ 0 < tat t A (ph.getD j 0).toNat) := by unfold Hid; rw [← HYY.out]; exact hcf
            clear hcf d1
            go_wp2_with fail
            go_quiet (fail)
            go_wp2
            go_roundw
            case rel => exact ⟨j + 1, by omega, by go_num, fun j' hj' => by
              by_cases h : j' = j
              · subst h; have := HY.out; omega
              · have := HJ.out j' (by omega); omega, below_drewN hB _⟩
            case measure => simp [intOf]; omega
        · have HK : Hid (∀ j', j' < k → ¬ 0 < tat t (ph.getD k 0).toNat (ph.getD j' 0).toNat) := fun j' hj' => by
            rw [← HXX.out]; exact HJ.out j' (by omega)
          clear HJ
          go_wp2_with fail
          go_roundw
          case rel => exact ⟨k + 1, by omega, by go_num, fun i' hi' j' hj' => by
            by_cases h : i' = k
            · subst h; exact HK.out j' hj'
            · have q := HA.out i' (by omega) j' hj'; omega, hB⟩
          case measure => simp [intOf]; omega
    · have HN : Hid (apartB t ph = true) := apartB_iff.2 (fun i hi k' hk' => HA.out i (by omega) k' hk')
      go_wp2_with fail
      go_ret
      exact ⟨ret_B HN, hB⟩

def fitO (t : List (List Int)) (ph : List Int) : Bool := validCl t && fitsB t ph
set_option maxHeartbeats 4000000 in
theorem spec_fits (w : World) (lo lo' : Nat) (vt vp : Value) (t : List (List Int)) (ph : List Int) (ht : IntSS w lo vt t) (hp : Ints w lo' vp ph) :
    Calls Try.prog 106 #[vt, vp] w fun e w' => e = .returned (.bool (fitO t ph)) ∧ Below w.heap.size w w' := by
  obtain ⟨ao, cap, rfl, hcap, hm⟩ := hp.form
  obtain ⟨aot, capt, rfl, hcapt, hmt⟩ := ht.form
  have HT := Lib.hid ht
  have HP := Lib.hid hp
  have wr1 : IntKind.i64.wrap ((t.length : Int) - 1) = (t.length : Int) - 1 := IntWalk.i64_in _ (by omega)
  clear ht hp
  cases hval : validCl t
  · have HN : Hid (fitO t ph = false) := by unfold Hid fitO; rw [hval]; rfl
    have HV := Lib.hid hval
    clear hval
    go_enter Try.func106, Try.ntmps106
    go_wp2_with fail
    refine (spec_validClearance_H _ lo _ t false HT.out HV.out).mono ?_; rintro e w1 ⟨rfl, hB1⟩
    go_wp2_with fail
    go_ret
    exact ⟨ret_B HN, hB1⟩
  · have HV := Lib.hid hval
    have hl1 := (validCl_iff.1 hval).1
    have hl8 := (validCl_iff.1 hval).2.1
    have hmv : (ascB ph && allB ph 0 ((t.length : Int) - 1)) = movesB ph t.length := by unfold movesB; rw [Bool.and_comm]
    have HMV := Lib.hid hmv
    clear hval hmv
    cases hmo : movesB ph t.length
    · have HN : Hid (fitO t ph = false) := by unfold Hid fitO fitsB; rw [hmo]; simp
      go_enter Try.func106, Try.ntmps106
      go_wp2_with fail
      refine (spec_validClearance_H _ lo _ t true HT.out HV.out).mono ?_; rintro e w1 ⟨rfl, hB1⟩
      go_wp2_with fail
      go_at_call 121
      refine (ascending_any _ lo' _ ph 0 ((t.length : Int) - 1) (Rd.below HP.out hB1 (Nat.le_refl _) (by decide))).mono ?_; rintro e w2 ⟨rfl, hB2⟩
      rw [HMV.out, hmo]
      clear hmo
      go_wp2_with fail
      go_ret
      exact ⟨ret_B HN, hB1.trans (hB2.mono hB1.size)⟩
    · have hN : fitO t ph = apartB t ph := by unfold fitO fitsB; rw [hmo, HV.out]; rfl
      have HN := Lib.hid hN
      have HMO := Lib.hid hmo
      clear hN
      go_enter Try.func106, Try.ntmps106
      go_wp2_with fail
      refine (spec_validClearance_H _ lo _ t true HT.out HV.out).mono ?_; rintro e w1 ⟨rfl, hB1⟩
      go_wp2_with fail
      go_at_call 121
      refine (ascending_any _ lo' _ ph 0 ((t.length : Int) - 1) (Rd.below HP.out hB1 (Nat.le_refl _) (by decide))).mono ?_; rintro e w2 ⟨rfl, hB2⟩
      rw [HMV.out, hmo]
      have hT2 := hB1.trans (hB2.mono hB1.size)
      clear hmo
      go_wp2_with fail
      refine (spec_conflictsOf _ lo _ t (HT.out.below hT2 (Nat.le_refl _)) HV.out).mono ?_; rintro e w3 ⟨vc, rfl, hC, hB3⟩
      have hT3 := hT2.trans (hB3.mono hT2.size)
      go_wp2_with fail
      go_at_call 122
      refine (spec_clear _ _ lo' _ _ t ph hC (Rd.below HP.out hT3 (Nat.le_refl _) (by decide)) (fun i hi => by have := movesB_in HMO.out hi; omega)).mono ?_; rintro e w4 ⟨rfl, hB4⟩
      rw [← HN.out]
      go_wp2_with fail
      go_ret
      exact ⟨rfl, hT3.trans (hB4.mono hT3.size)⟩
end Go.Proofs.Ytokpgipbgkiepaa
