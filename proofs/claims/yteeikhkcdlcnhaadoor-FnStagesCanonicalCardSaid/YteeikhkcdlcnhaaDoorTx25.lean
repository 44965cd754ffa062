/- FnStagesRoundTrip: the walk. -/
import Derived.Test.YteeikhkcdlcnhaaDoorTx24
import Derived.Test.YteeikhkcdlcnhaaDoorEqI
namespace Go.Proofs.YteeikhkcdlcnhaaDoor
open Go.RowKit
set_option linter.unusedVariables false
set_option linter.unusedSimpArgs false

set_option maxHeartbeats 2000000 in
theorem equalStages_same (w : World) (va vb : Value) (t : List Stg) (ha : StgS w 0 va t) (hb : StgS w 0 vb t) :
    Calls Tryd.prog 17 #[va, vb] w fun e w' => e = .returned (.bool true) ∧ Below w.heap.size w w' := by
  obtain ⟨ao, cap, rfl, hcap, hm⟩ := ha.form
  obtain ⟨ao', cap', rfl, hcap', hm'⟩ := hb.form
  have HA := Lib.hid ha
  have HB := Lib.hid hb
  clear ha hb
  go_enter Tryd.func17, Tryd.ntmps17
  go_wp2
  go_loopw [5] (fun i wo => ∃ k : Nat, k ≤ t.length ∧ i = .int .i64 k ∧ Below w.heap.size w wo) (fun i _ => t.length - (intOf i).toNat)
  case atStart => exact ⟨0, Nat.zero_le _, rfl, Below.refl _ _⟩
  case round =>
    obtain ⟨k, hk, rfl, hB⟩ := hrel
    by_cases hlt : k < t.length
    · obtain ⟨b, off, rfl, _, hb, hc⟩ := (HA.out.below hB (Nat.le_refl _)).spot (by omega)
      obtain ⟨b', off', rfl, _, hb', hc'⟩ := (HB.out.below hB (Nat.le_refl _)).spot (by omega)
      obtain ⟨g1, a1, c1, h1, hI1⟩ := hc k hlt
      obtain ⟨g2, a2, c2, h2, hI2⟩ := hc' k hlt
      obtain ⟨row, hrow⟩ : ∃ row, row = (t.getD k s0).ph := ⟨_, rfl⟩
      obtain ⟨gr, hgr⟩ : ∃ gr, gr = (t.getD k s0).gr := ⟨_, rfl⟩
      rw [← hrow] at h1 hI1 h2 hI2
      rw [← hgr] at g1 g2
      have hk0 : (0 : Int) ≤ (k : Int) := by omega
      have hk1 : (k : Int) < (t.length : Int) := by omega
      have hsz := hB.size
      have HI1 := Lib.hid hI1
      have HI2 := Lib.hid hI2
      have keepA : ∀ W, Below wr.heap.size wr W → (W.cell? ⟨b, off + k * 2, none⟩ = some (.slice a1 row.length c1) ∧ W.cell? ⟨b, off + k * 2 + 1, none⟩ = some (.int .i64 gr) ∧ W.cell? ⟨b', off' + k * 2, none⟩ = some (.slice a2 row.length c2) ∧ W.cell? ⟨b', off' + k * 2 + 1, none⟩ = some (.int .i64 gr)) := fun W h => ⟨(h.cell (p := ⟨b, off + k * 2, none⟩) hb).trans h1, (h.cell (p := ⟨b, off + k * 2 + 1, none⟩) hb).trans g1, (h.cell (p := ⟨b', off' + k * 2, none⟩) hb').trans h2, (h.cell (p := ⟨b', off' + k * 2 + 1, none⟩) hb').trans g2⟩
      have KA := Lib.hid keepA
      have hne : (gr != gr) = false := by simp
      clear hc hc' hrow hgr hI1 hI2 keepA
      go_wp2_with fail
      go_region_held3 (fun w' => w'.cell? ⟨b, off + k * 2, none⟩ = some (.slice a1 row.length c1) ∧ w'.cell? ⟨b, off + k * 2 + 1, none⟩ = some (.int .i64 gr) ∧ w'.cell? ⟨b', off' + k * 2, none⟩ = some (.slice a2 row.length c2) ∧ w'.cell? ⟨b', off' + k * 2 + 1, none⟩ = some (.int .i64 gr))
        (first | exact KA.out _ hB5 | exact KA.out _ (Below.refl _ _) | go_keep | assumption)
        ((go_at_call 38; refine (equalInts_same _ _ _ row (Rd.below HI1.out (Below.drew (Below.refl wr.heap.size wr)) (Nat.le_refl _) (by decide)) (Rd.below HI2.out (Below.drew (Below.refl wr.heap.size wr)) (Nat.le_refl _) (by decide))).mono ?_; rintro e w5 ⟨rfl, hB5'⟩; have hB5 : Below wr.heap.size wr w5 := (Below.drew (Below.refl wr.heap.size wr)).trans hB5'))
      go_wp2
      go_roundw
      case rel => exact ⟨k + 1, by omega, by go_num, hB.trans (hB5.mono hB.size)⟩
      case measure => simp [intOf]; omega
    · go_wp2
      go_ret
      exact ⟨rfl, hB⟩

theorem bytes_blk {w : World} {v : Value} {bs : List UInt8} (hv : Bytes w 0 v bs) : bs ≠ [] → ∀ k, v.ownBlock = some k → k < w.heap.size := by
  intro hne k hk
  obtain ⟨_, ao, cap, rfl, _, _, _, hc⟩ := hv
  obtain ⟨b, off, rfl, _, hcell⟩ := hc (by cases bs <;> simp_all)
  cases hk
  exact World.block_lt_of_cell? w ⟨b, off + 0, none⟩ (hcell 0 (by cases bs <;> simp_all))

theorem parse_txt {ss : List Stg} (h : okSt ss = true) : parseO (txt ss ss.length) = some ss := by
  obtain ⟨i1, i2, i3⟩ := okSt_mem.1 h
  have hw : words (txt ss ss.length) = ss.map stT := by
    rw [txt_all]
    refine words_jn _ ?_ ?_
    · intro e
      have := congrArg List.length e
      simp at this
      rw [this] at i2; simp at i2
    · intro x hx
      obtain ⟨st, hst, rfl⟩ := List.mem_map.1 hx
      exact stT_no32 (i1 st hst)
  unfold parseO
  rw [hw, List.length_map, if_pos (by omega)]
  exact parseL_of i1
theorem txt_pos {ss : List Stg} (h : okSt ss = true) : txt ss ss.length ≠ [] := by
  intro e
  have h1 := parse_txt h
  rw [e] at h1
  have : parseO [] = none := by decide
  rw [this] at h1; cases h1
theorem toList_of {D : ByteArray} {l : List UInt8} (h : Str8 D l) : D.toList = l := by unfold Str8 at h; rw [h, ba_toList]
theorem plan_st (a : Option Addr) (n c : Nat) (b : Option Addr) (m d : Nat) (W : World) : (Instr.field 68 (.agg #[.slice a n c, .slice b m d]) 1).run Tryd.prog W = .ok (.slice b m d) W := by kernel_rfl
def DrawFs (w : World) (e : Ending) (w' : World) : Prop := ∃ v ss, e = .returned v ∧ StgS w' w.heap.size v ss ∧ Below w.heap.size w w'
set_option maxRecDepth 100000 in
set_option maxHeartbeats 8000000 in
theorem drawFormatStages (w : World) (v : Value) (bs : List UInt8) (hv : Bytes w 0 v bs) :
    Calls Tryd.prog 16 #[v] w (DrawFs w) := by
  obtain ⟨ao, cap, rfl, _, _⟩ := hv.form
  have HBB := Lib.hid (bytes_blk hv)
  have HV := Lib.hid hv
  clear hv
  go_enter Tryd.func16, Tryd.ntmps16
  go_wp2_with fail
  go_at_call 37
  refine (newReader_B w w.heap.size _ bs HV.out HBB.out (Nat.le_refl _)).mono ?_; rintro e w1 ⟨rfl, hr1, hB1⟩
  have hr1 : Rdh w.heap.size w1 w.heap.size 0 := hr1
  have HR := Lib.hid hr1
  have HB := Lib.hid hB1
  clear hr1 hB1
  go_wp2_with fail
  go_at_call 36
  refine (anyPlan_any _ _ _ HR.out (by omega)).mono ?_; rintro e w2 ⟨v2, pl, p2, rfl, hP2, hD2, hp2, hr2, hg2⟩
  obtain ⟨vc, vs, rfl, hc2, hs2⟩ := hP2
  obtain ⟨b4, d4, rfl, _, _⟩ := hc2.form
  obtain ⟨b5, d5, rfl, _, _⟩ := hs2.form
  have HS2 := Lib.hid (hs2.mono HB.out.size)
  have HB2 := Lib.hid (HB.out.trans (below_of_grownBy hg2 (B := w.heap.size) HB.out.size (fun k hk => by cases hk; exact Nat.le_refl _)))
  clear hc2 hs2 hD2 hr2 hg2
  have hfd := fun W => plan_st b4 pl.cl.length d4 b5 pl.st.length d5 W
  go_wp2_with fail
  go_ret
  exact ⟨_, _, rfl, HS2.out, HB2.out⟩

set_option maxRecDepth 100000 in
set_option maxHeartbeats 8000000 in
theorem fnStagesRoundTrip_walk (w : World) (v : Value) (bs : List UInt8) (hv : Bytes w 0 v bs) :
    Calls Tryd.prog 5 #[v] w fun e w' => e = .returned (.bool true) ∧ Below w.heap.size w w' := by
  obtain ⟨ao, cap, rfl, _, _⟩ := hv.form
  have HV := Lib.hid hv
  clear hv
  by_cases hbig : 1048576 < bs.length
  · have d1 : (1048576 : Int) < (bs.length : Int) := by omega
    go_enter Tryd.func5, Tryd.ntmps5
    go_wp2_with fail
    go_ret
    exact ⟨rfl, Below.refl _ _⟩
  have d1 : ¬ (1048576 : Int) < (bs.length : Int) := by omega
  clear hbig
  go_enter Tryd.func5, Tryd.ntmps5
  go_wp2_with fail
  go_at_call 16
  refine (drawFormatStages _ _ bs HV.out).mono ?_; rintro e w1 ⟨v1, ss, rfl, hs1, hB1⟩
  have HS1 := Lib.hid hs1
  have HB1 := Lib.hid hB1
  clear hs1 hB1
  obtain ⟨D, hD⟩ : ∃ D : ByteArray, D = ⟨(fmtO ss).toArray⟩ := ⟨_, rfl⟩
  have dd : (D.toList == D.toList) = true := ba_beq.2 rfl
  have hDS : Str8 D (fmtO ss) := hD
  have HD := Lib.hid hD
  have HDS := Lib.hid hDS
  clear hD hDS
  cases hok : okSt ss
  · have de : D.toList.isEmpty = true := by
      rw [toList_of HDS.out]; unfold fmtO; rw [hok]; rfl
    clear hok
    go_wp2_with (first
      | (go_at_call 10; refine (impl_format _ _ _ ss HS1.out).mono ?_; rintro e w2 ⟨rfl, hB2⟩; rw [← HD.out]; have HS2 := Lib.hid (HS1.out.below hB2 (Nat.le_refl _)); have HB2 := Lib.hid (HB1.out.trans (hB2.mono HB1.out.size)); clear hB2)
      | (go_at_call 8
         first
         | (refine (spec_format _ _ _ ss HS3.out).mono ?_; rintro e w4 ⟨rfl, hB4⟩; rw [← HD.out]; have HB4 := Lib.hid (HB3.out.trans (hB4.mono HB3.out.size)); clear hB4)
         | (refine (spec_format _ _ _ ss HS2.out).mono ?_; rintro e w3 ⟨rfl, hB3⟩; rw [← HD.out]; have HS3 := Lib.hid (HS2.out.below hB3 (Nat.le_refl _)); have HB3 := Lib.hid (HB2.out.trans (hB3.mono HB2.out.size)); clear hB3)))
    go_ret
    exact ⟨rfl, HB4.out⟩
  · have hf : fmtO ss = txt ss ss.length := by unfold fmtO; rw [if_pos hok]
    have hl : (fmtO ss).length ≤ 1000000000 := by
      have h1 := txt_len hok ss.length (Nat.le_refl _)
      have h5 := (okSt_iff.1 hok).2.2
      rw [hf]; omega
    have HL := Lib.hid hl
    have HP : Hid (parseO (fmtO ss) = some ss) := by unfold Hid; rw [hf]; exact parse_txt hok
    have de : D.toList.isEmpty = false := by
      rw [toList_of HDS.out, hf, List.isEmpty_eq_false_iff]; exact txt_pos hok
    clear hok hf hl
    go_wp2_with (first
      | (go_at_call 10; refine (impl_format _ _ _ ss HS1.out).mono ?_; rintro e w2 ⟨rfl, hB2⟩; rw [← HD.out]; have HS2 := Lib.hid (HS1.out.below hB2 (Nat.le_refl _)); have HB2 := Lib.hid (HB1.out.trans (hB2.mono HB1.out.size)); clear hB2)
      | (go_at_call 8; refine (spec_format _ _ _ ss HS2.out).mono ?_; rintro e w3 ⟨rfl, hB3⟩; rw [← HD.out]; have HS3 := Lib.hid (HS2.out.below hB3 (Nat.le_refl _)); have HB3 := Lib.hid (HB2.out.trans (hB3.mono HB2.out.size)); clear hB3)
      | (go_at_call 13; refine (impl_parse _ D _ HDS.out HL.out).mono ?_; rintro e w4 ⟨v4, ok, rfl, hcase, hB4⟩; obtain ⟨rfl, hO4⟩ : ok = true ∧ OwnStg w4 w3.heap.size v4 ss := (by
          rcases hcase with ⟨h1, x, hx, hO⟩ | ⟨_, hx, _⟩
          · rw [HP.out] at hx; cases hx; exact ⟨h1, hO⟩
          · rw [HP.out] at hx; cases hx)
         have HS4 := Lib.hid (HS3.out.below hB4 (Nat.le_refl _)); have HB4 := Lib.hid (HB3.out.trans (hB4.mono HB3.out.size)); have HO4 := Lib.hid hO4; clear hB4 hcase hO4)
      | (go_at_call 17; refine (equalStages_same _ _ _ ss (HO4.out.stg.mono (Nat.zero_le _)) (HS4.out.mono (Nat.zero_le _))).mono ?_; rintro e w5 ⟨rfl, hB5⟩; have HB5 := Lib.hid (HB4.out.trans (hB5.mono HB4.out.size)); clear hB5))
    go_ret
    exact ⟨rfl, HB5.out⟩
end Go.Proofs.YteeikhkcdlcnhaaDoor
