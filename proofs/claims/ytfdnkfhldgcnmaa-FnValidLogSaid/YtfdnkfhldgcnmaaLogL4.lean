/- FnValidLog: the walk. -/
import Derived.Test.YtfdnkfhldgcnmaaLog9
import Derived.Test.YtfdnkfhldgcnmaaLog3
import Derived.ProofKit
import Derived.Deep.RegionHeld3
namespace Go.Proofs.Ytfdnkfhldgcnmaa
open Go.RowKit

theorem flat_take (k : Nat) : ∀ es : List Ent, k ≤ es.length → (es.take k).flatMap entCells = (es.flatMap entCells).take (k * 3) := by
  induction k with
  | zero => intro es _; simp
  | succ k ih =>
    intro es h
    cases es with
    | nil => simp at h
    | cons x r =>
      have e1 : (k + 1) * 3 = k * 3 + 1 + 1 + 1 := by omega
      rw [e1, List.take_succ_cons, List.flatMap_cons, List.flatMap_cons, ih r (by simpa using h)]
      simp [entCells]

theorem Ents.take {w : World} {lo : Nat} {ao : Option Addr} {n cap k : Nat} {es : List Ent} (h : Ents w lo (.slice ao n cap) es) (hk : k ≤ es.length) : Ents w lo (.slice ao k cap) (es.take k) := by
  obtain ⟨h1, ao', cap', h2, h3, h4, h5, h6⟩ := h
  cases h2
  have hl : (es.take k).length = k := by simp; omega
  unfold Ents
  rw [hl, flat_take k es hk]
  refine ⟨by rw [List.length_take]; omega, ao, cap, rfl, by omega, h4, h5, fun h0 => ?_⟩
  obtain ⟨b', off', e, hb, hc⟩ := h6 (by omega)
  refine ⟨b', off', e, hb, fun i hi => ?_⟩
  rw [List.length_take] at hi
  rw [hc i (by omega), List.getElem_take]

theorem snoc_self {es : List Ent} (h : 0 < es.length) : es.take (es.length - 1) ++ [es.getD (es.length - 1) e0] = es := by
  have e : es.getD (es.length - 1) e0 = es[es.length - 1] := by rw [List.getD_eq_getElem?_getD, List.getElem?_eq_getElem (by omega)]; rfl
  rw [e, ← List.take_succ_eq_append_getElem (by omega), List.take_of_length_le (by omega)]

set_option maxHeartbeats 2000000 in
theorem fnValidLog_walk (w : World) (v : Value) (bs : List UInt8) (hv : Bytes w 0 v bs) :
    Calls Try.prog 4 #[v] w fun e w' => e = .returned (.bool true) ∧ Below w.heap.size w w' := by
  obtain ⟨ao, cap, rfl, hcap, hm⟩ := hv.form
  by_cases hlen : bs.length ≤ 1048576
  · go_enter Try.func4, Try.ntmps4
    go_wp2_with fail
    go_at_call 17
    refine (drawValidLog _ _ bs hv).mono ?_; rintro e w1 ⟨v1, es, rfl, hr, hl31, hB⟩
    clear hv
    obtain ⟨ao1, cap1, rfl, hcap1, hm1⟩ := hr.form
    go_wp2_with fail
    go_at_call 15
    refine (impl_validLog _ _ _ es hr).mono ?_; rintro e w2 ⟨rfl, hB2⟩
    have hr2 : Ents w2 0 _ es := Rd.below hr hB2 (Nat.le_refl _) (by decide)
    have hT2 := hB.trans (hB2.mono hB.size)
    clear hr hB2 hB
    go_wp2_with fail
    go_at_call 13
    refine (spec_validLog _ _ _ es hr2).mono ?_; rintro e w3 ⟨rfl, hB3⟩
    have hr3 : Ents w3 0 _ es := Rd.below hr2 hB3 (Nat.le_refl _) (by decide)
    have hT3 := hT2.trans (hB3.mono hT2.size)
    clear hr2 hB3 hT2
    by_cases hgo : validL es = true ∧ 0 < es.length
    · obtain ⟨hva, hn⟩ := hgo
      have hsn := snoc_self hn
      have hvp : validL (es.take (es.length - 1)) = true := valid_of_snoc (x := es.getD (es.length - 1) e0) (by rw [hsn]; exact hva)
      have hadd : Hid (addOk (es.take (es.length - 1)) (es.getD (es.length - 1) e0) = true ∧ addE (es.take (es.length - 1)) (es.getD (es.length - 1) e0) = es) := by
        unfold Hid addOk addE; rw [hvp, hsn, hva]; simp
      rw [hva]
      have hln : ((es.length : Int) == 0) = false := beq_eq_false_iff_ne.mpr (by omega)
      obtain ⟨n, hnn⟩ : ∃ n, n = es.length - 1 := ⟨_, rfl⟩
      have hn1 : es.length = n + 1 := by omega
      have hpre : Ents w3 0 (.slice ao1 n cap1) (es.take n) := hr3.take (by omega)
      obtain ⟨b, off, rfl, _, hb1, hc⟩ := Ents.spot hr3 (by omega)
      obtain ⟨s1, s2, s3⟩ := hc n (by omega)
      rw [← hnn] at hadd hvp
      obtain ⟨en, hen⟩ : ∃ en, en = es.getD n e0 := ⟨_, rfl⟩
      rw [← hen] at s1 s2 s3 hadd
      have wr1 : IntKind.i64.wrap ((es.length : Int) - 1) = (n : Int) := by rw [IntWalk.i64_in _ (by omega)]; omega
      have g0 : (0 : Int) ≤ (n : Int) := by omega
      have g1 : (n : Int) < (es.length : Int) := by omega
      have g2 : (n : Int) ≤ (cap1 : Int) := by omega
      have g7 : (n : Int) < (n : Int) + 1 := by omega
      have g8 : (n : Int) ≤ (n : Int) + 1 := by omega
      have g3 : (0 : Int) ≤ (es.length : Int) - 1 := by omega
      have g4 : (es.length : Int) - 1 < (es.length : Int) := by omega
      have g5 : (es.length : Int) - 1 ≤ (cap1 : Int) := by omega
      have g6 : ((es.length : Int) - 1).toNat = n := by omega
      have HV := Lib.hid hvp
      have HA := Lib.hid hva
      clear hc hen hnn hsn hvp hva
      go_wp2_with fail
      go_region_held3 (fun w' => w'.cell? ⟨b, off + n * 3, none⟩ = some (.int .i64 en.t) ∧ w'.cell? ⟨b, off + n * 3 + 1, none⟩ = some (.int .i64 en.u) ∧ w'.cell? ⟨b, off + n * 3 + 2, none⟩ = some (.bool en.s))
        (first | go_keep | exact ⟨(hB4.cell (p := ⟨b, off + n * 3, none⟩) (by simpa using hb1)).trans s1, (hB4.cell (p := ⟨b, off + n * 3 + 1, none⟩) (by simpa using hb1)).trans s2, (hB4.cell (p := ⟨b, off + n * 3 + 2, none⟩) (by simpa using hb1)).trans s3⟩)
        ((go_at_call 18; refine (impl_addEntry _ 0 _ (es.take n) en (Rd.below hpre (B := w3.heap.size) (Below.drew (Below.refl _ _)) (Nat.le_refl _) (by decide))).mono ?_; rintro e' w4 ⟨v4, rfl, hO4, hB4⟩))
      rw [hadd.out.1]
      rw [hadd.out.2] at hO4
      have hT4 := (Below.drew hT3).trans (hB4.mono hT3.size)
      have hr4 : Ents w4 0 _ es := Rd.below (Rd.below hr3 (Below.drew (Below.refl w3.heap.size w3)) (Nat.le_refl _) (by decide)) hB4 (Nat.le_refl _) (by decide)
      have hp4 : Ents w4 0 _ (es.take n) := Rd.below (Rd.below hpre (Below.drew (Below.refl w3.heap.size w3)) (Nat.le_refl _) (by decide)) hB4 (Nat.le_refl _) (by decide)
      have he4 : Ents w4 0 v4 es := hO4.rd.mono (Nat.zero_le _)
      rw [hn1] at hr4
      clear hO4 hB4 hr3 hpre s1 s2 s3
      go_wp2_with fail
      go_at_call 15
      refine (impl_validLog _ 0 _ (es.take n) hp4).mono ?_; rintro e' w5 ⟨rfl, hB5⟩
      rw [HV.out]
      have hr5 : Ents w5 0 _ es := Rd.below hr4 hB5 (Nat.le_refl _) (by decide)
      have he5 : Ents w5 0 _ es := Rd.below he4 hB5 (Nat.le_refl _) (by decide)
      have hT5 := hT4.trans (hB5.mono hT4.size)
      clear hr4 he4 hB5 hp4
      go_wp2_with fail
      go_at_call 19
      refine (equalEntries_same _ _ _ es he5 hr5).mono ?_; rintro e' w6 ⟨rfl, hB6⟩
      go_wp2
      go_ret
      exact ⟨rfl, hT5.trans (hB6.mono hT5.size)⟩
    · by_cases hva : validL es = true
      · have h0 : es.length = 0 := by
          apply Classical.byContradiction; intro h; exact hgo ⟨hva, by omega⟩
        have hln : ((es.length : Int) == 0) = true := by rw [h0]; rfl
        rw [hva]
        clear hgo h0
        go_wp2_with fail
        go_at_call 13
        refine (spec_validLog _ _ _ es hr3).mono ?_; rintro e w4 ⟨rfl, hB4⟩
        rw [hva]
        go_wp2
        go_ret
        exact ⟨rfl, hT3.trans (hB4.mono hT3.size)⟩
      · have hva : validL es = false := by simpa using hva
        rw [hva]
        clear hgo
        go_wp2_with fail
        go_at_call 13
        refine (spec_validLog _ _ _ es hr3).mono ?_; rintro e w4 ⟨rfl, hB4⟩
        rw [hva]
        go_wp2
        go_ret
        exact ⟨rfl, hT3.trans (hB4.mono hT3.size)⟩
  · go_enter Try.func4, Try.ntmps4
    go_wp2
    go_ret
    exact ⟨rfl, Below.refl _ _⟩
end Go.Proofs.Ytfdnkfhldgcnmaa
