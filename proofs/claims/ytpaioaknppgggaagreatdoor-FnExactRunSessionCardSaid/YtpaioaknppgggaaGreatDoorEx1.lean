/- FnExactRunSession: copies and sizes of lines, and the walk. -/
import Derived.Test.YtpaioaknppgggaaGreatDoorSsE
import Derived.Deep.QuietTactic
import Derived.BigQuiet
namespace Go.Proofs.YtpaioaknppgggaaGreatDoor
open Go.RowKit
set_option linter.unusedVariables false
set_option linter.unusedSimpArgs false

theorem info_strE : (Tryz.prog.info? 9).map (fun i => (i.zero, i.size, i.bytes)) = some (some (.string ⟨#[]⟩), 1, 16) := by kernel_rfl
def ToRet (w : World) (ls : List (List UInt8)) (e : Ending) (w' : World) : Prop := ∃ v', e = .returned v' ∧ Own w' w.heap.size 9 1 v' ls.length (ls.map strV) ∧ Below w.heap.size w w'
theorem toLns_any (w : World) (v : Value) (ls : List (List UInt8)) (hv : LnsR w 0 v ls) (hn : ls.length ≤ 2097152) :
    Calls Tryz.prog 13 #[v] w (ToRet w ls) := by
  obtain ⟨ao, cap, rfl, hcap, hm⟩ := hv.form
  obtain ⟨i0, hi, hz0, hz1, hz2⟩ := info_parts info_strE
  have HV := Lib.hid hv
  clear hv
  go_enter Tryz.func13, Tryz.ntmps13
  go_wp2_with (at_make; refine wpList_make_full _ rfl _ _ 23 rfl w.heap.size 9 i0 (.string ⟨#[]⟩) 1 Tryz.underlying23 hi hz0 hz1 .i64 .i64 ls.length ls.length ls.length rfl rfl rfl rfl (by rw [hz2]; omega) (by unfold maxLen; omega) (Nat.le_refl _) ?_; intro w1 hown hg1)
  have hO : Own w1 w.heap.size 9 1 (.slice (some ⟨w.heap.size, 0, none⟩) ls.length ls.length) ls.length (madeCells (Value.string ⟨#[]⟩).cells (ls.length * 1)).toList := .inl hown
  have hB := below_of_grownBy hg1 (Nat.le_refl _) (fun k hk => by cases hk)
  clear hown hg1
  go_loopw [4] (fun i wr => ∃ k : Nat, ∃ cs, k ≤ ls.length ∧ i = .int .i64 k ∧ Own wr w.heap.size 9 1 (.slice (some ⟨w.heap.size, 0, none⟩) ls.length ls.length) ls.length cs ∧ Hid (∀ i, i < k → cs[i]? = (ls.map strV)[i]?) ∧ Below w.heap.size w wr)
    (fun i _ => ls.length - (intOf i).toNat)
  case atStart => exact ⟨0, _, Nat.zero_le _, rfl, hO, fun i hi => by omega, hB⟩
  case round =>
    clear hO hB
    obtain ⟨k, cs, hk, rfl, hO, HCS, hB⟩ := hrel
    have hlen := hO.len
    by_cases hlt : k < ls.length
    · have hltz : (k : Int) < (ls.length : Int) := by omega
      obtain ⟨b, off, rfl, _, hb, hx⟩ := HV.out.spot [] (by omega)
      have s1 := (hB.cell (p := ⟨b, off + k, none⟩) hb).trans (hx k hlt)
      obtain ⟨X, hX⟩ : ∃ X : ByteArray, X = ⟨(ls.getD k []).toArray⟩ := ⟨_, rfl⟩
      have s1' : wr.cell? ⟨b, off + k, none⟩ = some (.string X) := by rw [hX]; exact s1
      have HX : Hid ((ls.map strV)[k]? = some (.string X)) := by unfold Hid; rw [hX]; simp [hlt, strV]
      obtain ⟨g, hg, _, hg2, hcell, hfr, hset⟩ := hO.parts (by omega)
      cases hg
      have hd := hcell k (by omega)
      obtain ⟨u, hu⟩ : ∃ u, u = cs[k]'(by omega) := ⟨_, rfl⟩
      rw [← hu] at hd
      have hf := hfr k
      have HS := Lib.hid (hset k (.string X))
      have HB := Lib.hid hB
      clear hcell hfr hset hx hX s1 hu hB hO
      go_wp2
      go_roundw
      case rel => exact ⟨k + 1, _, by omega, by go_num, HS.out.1, fun i hi => by
        by_cases h : i = k
        · subst h; rw [List.getElem?_set_self (by omega), HX.out]
        · rw [List.getElem?_set_ne (fun e => h e.symm)]; exact HCS.out i (by omega), HB.out.setCell (Nat.le_refl _) _⟩
      case measure => simp [intOf]; omega
    · have hltz : ¬ (k : Int) < (ls.length : Int) := by omega
      have e1 : cs = ls.map strV := list_eq_of (n := ls.length) (by omega) (by simp) (fun i hi => HCS.out i (by omega))
      subst e1
      have HO := Lib.hid hO
      have HB := Lib.hid hB
      clear hO hB
      go_wp2_with fail
      go_ret
      exact ⟨_, rfl, HO.out, HB.out⟩
theorem lns_of_own {w : World} {lo : Nat} {v : Value} {ls : List (List UInt8)} (h : Own w lo 9 1 v ls.length (ls.map strV)) : LnsR w 0 v ls := h.rd.mono (Nat.zero_le _)

set_option maxHeartbeats 2000000 in
theorem eqLns_same (w : World) (v v' : Value) (ls : List (List UInt8)) (hv : LnsR w 0 v ls) (hv' : LnsR w 0 v' ls) :
    Calls Tryz.prog 14 #[v, v'] w fun e w' => e = .returned (.bool true) ∧ Below w.heap.size w w' := by
  obtain ⟨ao, cap, rfl, hcap, hm⟩ := hv.form
  obtain ⟨ao', cap', rfl, hcap', hm'⟩ := hv'.form
  have HV := Lib.hid hv
  have HV' := Lib.hid hv'
  have d0 : ((ls.length : Int) != (ls.length : Int)) = false := by simp
  clear hv hv'
  go_enter Tryz.func14, Tryz.ntmps14
  go_wp2_with fail
  go_loopw [5] (fun i W => ∃ k m : Nat, k ≤ ls.length ∧ i = .int .i64 k ∧ W = w.drewN m) (fun i _ => ls.length - (intOf i).toNat)
  case atStart => exact ⟨0, 0, Nat.zero_le _, rfl, rfl⟩
  case round =>
    obtain ⟨k, m, hk, rfl, rfl⟩ := hrel
    by_cases hlt : k < ls.length
    · have hltz : (k : Int) < (ls.length : Int) := by omega
      obtain ⟨b, off, rfl, _, hb, hx⟩ := HV.out.spot [] (by omega)
      obtain ⟨b', off', rfl, _, hb', hx'⟩ := HV'.out.spot [] (by omega)
      obtain ⟨X, hX⟩ : ∃ X : ByteArray, X = ⟨(ls.getD k []).toArray⟩ := ⟨_, rfl⟩
      have s1 : w.cell? ⟨b, off + k, none⟩ = some (.string X) := by rw [hX]; exact hx k hlt
      have s2 : w.cell? ⟨b', off' + k, none⟩ = some (.string X) := by rw [hX]; exact hx' k hlt
      have t1 : (X.toList == X.toList) = true := by simp
      have t2 : (X.toList != X.toList) = false := by simp
      clear hx hx' hX
      go_wp2_with fail
      go_quiet (fail)
      go_wp2
      go_roundw
      case rel => exact ⟨k + 1, _, by omega, by go_num, rfl⟩
      case measure => simp [intOf]; omega
    · have hltz : ¬ (k : Int) < (ls.length : Int) := by omega
      go_wp2_with fail
      go_ret
      exact ⟨rfl, below_drewN (Below.refl _ _) _⟩

set_option maxHeartbeats 2000000 in
theorem szLns_any (w : World) (v : Value) (ls : List (List UInt8)) (left : Int) (hv : LnsR w 0 v ls) (hml : ∀ x ∈ ls, x.length ≤ maxLen) (hl : 0 ≤ left ∧ left ≤ 1048576) :
    Calls Tryz.prog 12 #[v, .int .i64 left] w (SzRet w left ((ls.length : Int) ≤ left ∧ ∀ i, i < ls.length → ((ls.getD i []).length : Int) ≤ left)) := by
  obtain ⟨ao, cap, rfl, hcap, hm⟩ := hv.form
  obtain ⟨hl0, hl1⟩ := hl
  have HV := Lib.hid hv
  have HML : Hid (∀ i, (ls.getD i []).length ≤ 9223372036854775807) := fun i => by
    by_cases h : i < ls.length
    · have := hml (ls.getD i []) (by rw [List.getD_eq_getElem?_getD, List.getElem?_eq_getElem h]; exact List.getElem_mem _)
      unfold maxLen at this; exact this
    · rw [List.getD_eq_getElem?_getD, List.getElem?_eq_none (by omega)]; simp
  clear hv hml
  have wr1 : IntKind.i64.wrap (left - (ls.length : Int)) = left - (ls.length : Int) := IntWalk.i64_in _ (by omega)
  by_cases h : left - (ls.length : Int) < 0
  · have d : decide (left - (ls.length : Int) < 0) = true := decide_eq_true h
    go_enter Tryz.func12, Tryz.ntmps12
    go_wp2
    go_ret
    exact ⟨_, rfl, ⟨by omega, fun _ => rfl, fun h => by omega⟩, Below.refl _ _⟩
  · have d : decide (left - (ls.length : Int) < 0) = false := decide_eq_false h
    go_enter Tryz.func12, Tryz.ntmps12
    go_wp2_with fail
    go_loopw [1, 5] (fun lv i wo => ∃ k : Nat, ∃ r : Int, k ≤ ls.length ∧ i = .int .i64 k ∧ lv = .int .i64 r ∧ (0 ≤ r ∧ r ≤ left) ∧ Hid (∀ j, j < k → ((ls.getD j []).length : Int) ≤ left) ∧ wo = w) (fun _ i _ => ls.length - (intOf i).toNat)
    case atStart => exact ⟨0, _, Nat.zero_le _, rfl, rfl, ⟨by omega, by omega⟩, fun j hj => by omega, rfl⟩
    case round =>
      obtain ⟨k, r, hk, rfl, rfl, ⟨hr0, hr1⟩, HJ, rfl⟩ := hrel
      by_cases hlt : k < ls.length
      · have hltz : (k : Int) < (ls.length : Int) := by omega
        obtain ⟨b, off, rfl, _, hb, hx⟩ := HV.out.spot [] (by omega)
        obtain ⟨X, hX⟩ : ∃ X : ByteArray, X = ⟨(ls.getD k []).toArray⟩ := ⟨_, rfl⟩
        have s1 : wr.cell? ⟨b, off + k, none⟩ = some (.string X) := by rw [hX]; exact hx k hlt
        have hsz : X.size = (ls.getD k []).length := Str8.size hX
        have hm2 := HML.out k
        obtain ⟨q, hq⟩ : ∃ q, q = (ls.getD k []).length := ⟨_, rfl⟩
        rw [← hq] at hsz hm2
        have HQ := Lib.hid hq
        have hszz : (X.size : Int) = (q : Int) := by rw [hsz]
        have wr2 : IntKind.i64.wrap (r - (q : Int)) = r - (q : Int) := IntWalk.i64_in _ (by omega)
        clear hx hX hq hsz
        by_cases h2 : r - (q : Int) < 0
        · have d2 : decide (r - (q : Int) < 0) = true := decide_eq_true h2
          go_wp2_with fail
          go_ret
          exact ⟨_, rfl, ⟨by omega, fun _ => rfl, fun h => by omega⟩, Below.refl _ _⟩
        · have d2 : decide (r - (q : Int) < 0) = false := decide_eq_false h2
          go_wp2_with fail
          go_roundw
          case rel => exact ⟨k + 1, r - (q : Int), by omega, by go_num, rfl, ⟨by omega, by omega⟩, fun j hj => by
            by_cases e : j = k
            · subst e; rw [← HQ.out]; omega
            · exact HJ.out j (by omega), trivial⟩
          case measure => simp [intOf]; omega
      · have hltz : ¬ (k : Int) < (ls.length : Int) := by omega
        go_wp2_with fail
        go_ret
        exact ⟨_, rfl, ⟨by omega, fun h => by omega, fun _ => ⟨by omega, fun j hj => HJ.out j (by omega)⟩⟩, Below.refl _ _⟩

set_option maxRecDepth 100000 in
set_option maxHeartbeats 16000000 in
theorem fnExactRunSession_walk (w : World) (v : Value) (ls : List (List UInt8)) (hv : LnsR w 0 v ls) (hml : ∀ x ∈ ls, x.length ≤ maxLen) (hg : GW w) :
    Calls Tryz.prog 6 #[v] w fun e w' => e = .returned (.bool true) ∧ Below w.heap.size w w' := by
  have HSZ := Lib.hid (szLns_any w v ls 1048576 hv hml (by omega))
  have HV : Hid (∀ V, Below w.heap.size w V → LnsR V 0 v ls) := fun V hb => Rd.below hv hb (Nat.le_refl _) (by decide)
  have HG := Lib.hid hg
  clear hv hml hg
  go_enter Tryz.func6, Tryz.ntmps6
  go_wp2_with fail
  go_at_call 12
  refine HSZ.out.mono ?_
  rintro e w1 ⟨r, rfl, ⟨hr1, hr2, hr3⟩, hB1⟩
  have HB1 := Lib.hid hB1
  clear hB1
  by_cases h0 : r < 0
  · have d0 : decide (r < 0) = true := decide_eq_true h0
    clear hr2 hr3
    go_wp2_with fail
    go_ret
    exact ⟨rfl, HB1.out⟩
  · have d0 : decide (r < 0) = false := decide_eq_false h0
    obtain ⟨q1, q2⟩ := hr3 (by omega)
    have hn : ls.length ≤ 2097152 := by omega
    have hlen : ∀ x ∈ ls, x.length ≤ 1000000000 := fun x hx => by
      obtain ⟨i, hi, rfl⟩ := List.mem_iff_getElem.1 hx
      have := q2 i hi
      rw [List.getD_eq_getElem?_getD, List.getElem?_eq_getElem hi] at this
      simp at this; omega
    obtain ⟨D, hD⟩ : ∃ D : ByteArray, D = ⟨(sesO ls).toArray⟩ := ⟨_, rfl⟩
    have HRS : Hid (∀ V u, LnsR V 0 u ls → Calls Tryz.prog 10 #[u] V fun e w' => e = .returned (.string D) ∧ Below V.heap.size V w') := fun V u hu => by
      refine (spec_runSession V 0 u ls hu hlen).mono ?_
      rintro e w' ⟨S, rfl, hS, hb⟩
      rw [hD]; unfold Str8 at hS; rw [hS]; exact ⟨rfl, hb⟩
    have HRI : Hid (∀ V u, LnsR V 0 u ls → GW V → Calls Tryz.prog 9 #[u] V fun e w' => e = .returned (.string D) ∧ Below V.heap.size V w') := fun V u hu hgv => by
      refine (impl_runSession V 0 u ls hu hlen hgv).mono ?_
      rintro e w' ⟨S, rfl, hS, hb⟩
      rw [hD]; unfold Str8 at hS; rw [hS]; exact ⟨rfl, hb⟩
    have HTO : Hid (∀ V, Below w.heap.size w V → Calls Tryz.prog 13 #[v] V (ToRet V ls)) := fun V hb => toLns_any V v ls (HV.out V hb) hn
    have t1 : (D.toList == D.toList) = true := by simp
    have t2 : (D.toList != D.toList) = false := by simp
    clear hr2 q1 q2 hlen hD
    go_wp2_with (first
      | (go_at_call 13
         first
         | (have h6 := HB6.out; refine (HTO.out _ h6).mono ?_; rintro e w7 ⟨v7, rfl, hO7, hB7⟩; have HL7 := Lib.hid (lns_of_own hO7); have HX7 := Lib.hid (Rd.below HX6.out hB7 (Nat.le_refl _) (by decide)); have HB7 := Lib.hid (HB6.out.trans (hB7.mono HB6.out.size)); clear hO7 hB7)
         | (have h3 := HB3.out; refine (HTO.out _ h3).mono ?_; rintro e w5 ⟨v5, rfl, hO5, hB5⟩; have HL5 := Lib.hid (lns_of_own hO5); have HB5 := Lib.hid (HB3.out.trans (hB5.mono HB3.out.size)); clear hO5 hB5)
         | (refine (HTO.out _ HB1.out).mono ?_; rintro e w2 ⟨v2, rfl, hO2, hB2⟩; have HL2 := Lib.hid (lns_of_own hO2); have HB2 := Lib.hid (HB1.out.trans (hB2.mono HB1.out.size)); clear hO2 hB2))
      | (go_at_call 10; refine (HRS.out _ _ HL2.out).mono ?_; rintro e w3 ⟨rfl, hB3⟩; have HB3 := Lib.hid (HB2.out.trans (hB3.mono HB2.out.size)); clear hB3)
      | (go_at_call 9; refine (HRI.out _ _ HL5.out (HG.out.below HB5.out)).mono ?_; rintro e w6 ⟨rfl, hB6⟩; have HX6 := Lib.hid (Rd.below HL5.out hB6 (Nat.le_refl _) (by decide)); have HB6 := Lib.hid (HB5.out.trans (hB6.mono HB5.out.size)); clear hB6)
      | (go_at_call 14; refine (eqLns_same _ _ _ ls HX7.out HL7.out).mono ?_; rintro e w8 ⟨rfl, hB8⟩; have HB8 := Lib.hid (HB7.out.trans (hB8.mono HB7.out.size)); clear hB8))
    go_ret
    exact ⟨rfl, HB8.out⟩
end Go.Proofs.YtpaioaknppgggaaGreatDoor
