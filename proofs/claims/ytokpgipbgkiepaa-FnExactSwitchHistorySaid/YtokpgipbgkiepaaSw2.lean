/- greenAt of the reference. -/
import Derived.Test.YtokpgipbgkiepaaSw1
namespace Go.Proofs.Ytokpgipbgkiepaa
open Go.RowKit
set_option linter.unusedVariables false
set_option linter.unusedSimpArgs false

def gfil (ph nx : List Int) (n : Nat) : List Int := (upto n).filter fun m => hasB ph m && hasB nx m
theorem gfil_succ (ph nx : List Int) (n : Nat) : gfil ph nx (n + 1) = gfil ph nx n ++ if hasB ph n && hasB nx n then [(n : Int)] else [] := by
  unfold gfil; rw [upto_succ, List.filter_append]; simp [List.filter_cons]
theorem gfil_len (ph nx : List Int) : ∀ n, (gfil ph nx n).length ≤ n := by
  intro n
  unfold gfil
  have := List.length_filter_le (fun m => hasB ph m && hasB nx m) (upto n)
  simp only [upto, List.length_map, List.length_range] at this
  exact this

set_option maxHeartbeats 8000000 in
set_option maxRecDepth 100000 in
theorem spec_greenAt (w : World) (lo : Nat) (vp : Value) (p : Pln) (s : Int) (hp : PlanR w lo vp p) (hval : validP p = true) (hs0 : 0 ≤ s) (hs1 : s < cyc p) :
    Calls Try.prog 115 #[vp, .int .i64 s] w (OwnRet w (grn p s)) := by
  have hp0 := hp
  obtain ⟨vc, vs, rfl, hc, hs⟩ := hp
  obtain ⟨hvc, h1, h5, _⟩ := validP_iff.1 hval
  have hcl8 := (validCl_iff.1 hvc).2.1
  obtain ⟨ao, cap, rfl, hcap, hm⟩ := hs.form
  obtain ⟨aoc, capc, rfl, hcapc, hmc⟩ := hc.form
  obtain ⟨b, off, rfl, _, hb, hx⟩ := hs.spot (by omega)
  obtain ⟨hi, hlo, hhi⟩ := stgAt_spec hval hs0 hs1
  obtain ⟨i, hie⟩ : ∃ i, i = stgAt p s := ⟨_, rfl⟩
  rw [← hie] at hi hlo hhi
  obtain ⟨q, hq⟩ : ∃ q, q = (i + 1) % p.st.length := ⟨_, rfl⟩
  have hq1 : q < p.st.length := by rw [hq]; exact Nat.mod_lt _ (by omega)
  obtain ⟨g1w, ai, ci, c0w, hI0⟩ := hx i hi
  obtain ⟨_, aj, cj, c1w, hI1⟩ := hx q hq1
  have hm0 := (validP_st hval hi).1
  have e1 : (((i : Int) + 1) % (p.st.length : Int)).toNat = q := by rw [hq, show ((i : Int) + 1) = ((i + 1 : Nat) : Int) by omega, ← Int.natCast_emod, Int.toNat_natCast]
  have m1 : 0 ≤ ((i : Int) + 1) % (p.st.length : Int) := Int.emod_nonneg _ (by omega)
  have m2 : ((i : Int) + 1) % (p.st.length : Int) < (p.st.length : Int) := Int.emod_lt_of_pos _ (by omega)
  have m3 : ((i : Int) + 1).tmod (p.st.length : Int) = ((i : Int) + 1) % (p.st.length : Int) := Int.tmod_eq_emod_of_nonneg (by omega)
  have m4 : ¬ (p.st.length : Int) = 0 := by omega
  have m6 : ¬ p.st.length = 0 := by omega
  have m5 : 0 ≤ (i : Int) + 1 := by omega
  have wr1 : IntKind.i64.wrap ((i : Int) + 1) = (i : Int) + 1 := IntWalk.i64_in _ (by omega)
  have i0 : (0 : Int) ≤ (i : Int) := by omega
  have i1 : (i : Int) < (p.st.length : Int) := by omega
  obtain ⟨w0, hw0, hB0, x0, x1, hz0⟩ := plan_box w (.slice aoc p.cl.length capc) (.slice (some ⟨b, off, none⟩) p.st.length cap)
  obtain ⟨ph, hph⟩ : ∃ ph, ph = (p.st.getD i s0).ph := ⟨_, rfl⟩
  obtain ⟨nx, hnx⟩ : ∃ nx, nx = (p.st.getD q s0).ph := ⟨_, rfl⟩
  obtain ⟨gr, hgr⟩ : ∃ gr, gr = (p.st.getD i s0).gr := ⟨_, rfl⟩
  obtain ⟨ps, hps⟩ : ∃ x, x = s - beg p i := ⟨_, rfl⟩
  have hgrn : grn p s = if ps < gr then ph else gfil ph nx p.cl.length := by
    unfold grn gfil; rw [← hie, hgr, hps, upto_filter (by rw [hph]; exact hm0), hph, hnx, hq]; rfl
  rw [← hph] at c0w hI0 hm0
  rw [← hgr] at g1w
  rw [← hnx] at c1w hI1
  have hpl := movesB_len hm0 (by omega)
  have HGRN := Lib.hid hgrn
  have HI0 := Lib.hid hI0
  have HI1 := Lib.hid hI1
  have HP0 := Lib.hid hp0
  have HB0 := Lib.hid hB0
  have HV := Lib.hid hval
  have HIE := Lib.hid hie
  have HPS := Lib.hid hps
  have KA : Hid (∀ W, Below w0.heap.size w0 W → (W.cell? ⟨w.heap.size, 0, none⟩ = some (.slice aoc p.cl.length capc) ∧ W.cell? ⟨w.heap.size, 1, none⟩ = some (.slice (some ⟨b, off, none⟩) p.st.length cap)) ∧ W.cell? ⟨b, off + i * 2, none⟩ = some (.slice ai ph.length ci) ∧ W.cell? ⟨b, off + i * 2 + 1, none⟩ = some (.int .i64 gr) ∧ W.cell? ⟨b, off + q * 2, none⟩ = some (.slice aj nx.length cj)) := fun W h => by
    have hT := hB0.trans (h.mono hB0.size)
    exact ⟨⟨(h.cell (p := ⟨w.heap.size, 0, none⟩) hz0).trans x0, (h.cell (p := ⟨w.heap.size, 1, none⟩) hz0).trans x1⟩, (hT.cell (p := ⟨b, off + i * 2, none⟩) hb).trans c0w, (hT.cell (p := ⟨b, off + i * 2 + 1, none⟩) hb).trans g1w, (hT.cell (p := ⟨b, off + q * 2, none⟩) hb).trans c1w⟩
  have hn8 : ph.length ≤ 8 := by omega
  clear hx hq c0w c1w g1w hI0 hI1 hm0 hgrn hph hnx hgr hps hie hc hs hval hvc hB0 hp0 x0 x1 hi hlo hhi hpl
  go_enter Try.func115, Try.ntmps115
  go_wp2_with fail
  rw [← hw0]
  clear hw0
  refine (spec_stageAt _ lo _ p s (HP0.out.below HB0.out (Nat.le_refl _)) HV.out hs0 hs1).mono ?_; rintro e w1 ⟨rfl, hB1⟩
  rw [← HIE.out, ← HPS.out]
  have HB1 := Lib.hid hB1
  obtain ⟨⟨u0, u1⟩, u2, u3, u4⟩ := KA.out _ hB1
  clear hB1
  by_cases hlt : ps < gr
  · have d1 : decide (ps < gr) = true := decide_eq_true hlt
    have HE : Hid (grn p s = ph) := by unfold Hid; rw [HGRN.out, if_pos hlt]
    clear hlt u4
    go_wp2_with fail
    refine (copyInts_any _ _ ph (Rd.mono (Rd.below HI0.out (HB0.out.trans (HB1.out.mono HB0.out.size)) (Nat.le_refl _) (by decide)) (Nat.zero_le _)) (by omega)).mono ?_; rintro e w2 ⟨v2, rfl, hO2, hB2⟩
    have hT := HB0.out.trans ((HB1.out.trans (hB2.mono HB1.out.size)).mono HB0.out.size)
    have HO2 := Lib.hid (hO2.mono (Nat.le_trans HB0.out.size HB1.out.size))
    clear hO2 hB2 u0 u1 u2 u3
    go_wp2_with fail
    go_ret
    exact ⟨_, rfl, by rw [HE.out]; exact HO2.out, hT⟩
  · have d1 : decide (ps < gr) = false := decide_eq_false hlt
    have HE : Hid (grn p s = gfil ph nx p.cl.length) := by unfold Hid; rw [HGRN.out, if_neg hlt]
    have hb1 : b < w1.heap.size := World.block_lt_of_cell? w1 ⟨b, off + i * 2, none⟩ u2
    have HT1 := Lib.hid (HB0.out.trans (HB1.out.mono HB0.out.size))
    clear hlt
    go_wp2_with fail
    go_quiet (fail)
    clear d1 u3 u4
    go_wp2_with fail
    go_loopw [8, 9] (fun sv iv wo => ∃ m : Nat, m ≤ p.cl.length ∧ iv = .int .i64 m ∧ Hid (Own wo w1.heap.size 3 1 sv (gfil ph nx m).length ((gfil ph nx m).map (.int .i64))) ∧ Hid (Below w1.heap.size w1 wo)) (fun _ iv _ => p.cl.length - (intOf iv).toNat)
    case atStart => exact ⟨0, Nat.zero_le _, rfl, .inr ⟨rfl, rfl, _, rfl⟩, (below_drewN (Below.refl _ _) _).alloc (Nat.le_refl _) _⟩
    case round =>
      clear u0 u1 u2
      obtain ⟨m, hm, rfl, HO, HB⟩ := hrel
      have HT := Lib.hid (HT1.out.trans (HB.out.mono HT1.out.size))
      obtain ⟨⟨u0, u1⟩, u2, u3, u4⟩ := KA.out _ (HB1.out.trans (HB.out.mono HB1.out.size))
      clear u3 u4
      by_cases hlt : m < p.cl.length
      · have hI0 : Hid (Ints wr 0 (.slice ai ph.length ci) ph) := Rd.mono (Rd.below HI0.out HT.out (Nat.le_refl _) (by decide)) (Nat.zero_le _)
        have hI1 : Hid (Ints wr 0 (.slice aj nx.length cj) nx) := Rd.mono (Rd.below HI1.out HT.out (Nat.le_refl _) (by decide)) (Nat.zero_le _)
        have HGS := Lib.hid (gfil_succ ph nx m)
        obtain ⟨r1, hr1⟩ : ∃ r, r = hasB ph m := ⟨_, rfl⟩
        obtain ⟨r2, hr2⟩ : ∃ r, r = hasB nx m := ⟨_, rfl⟩
        have HR1 := Lib.hid hr1
        have HR2 := Lib.hid hr2
        clear hr1 hr2
        go_wp2_with fail
        refine (isIn_H _ 0 _ ph m r1 hI0.out HR1.out.symm).mono ?_; rintro e _ ⟨rfl, rfl⟩
        cases r1
        · go_wp2_with fail
          go_roundw
          case rel => exact ⟨m + 1, by omega, by go_num, by rw [HGS.out, ← HR1.out]; unfold Hid; simpa using HO.out, HB⟩
          case measure => simp [intOf]; omega
        · go_wp2_with fail
          refine (isIn_H _ 0 _ nx m r2 hI1.out HR2.out.symm).mono ?_; rintro e _ ⟨rfl, rfl⟩
          cases r2
          · go_wp2_with fail
            go_roundw
            case rel => exact ⟨m + 1, by omega, by go_num, by rw [HGS.out, ← HR1.out, ← HR2.out]; unfold Hid; simpa using HO.out, HB⟩
            case measure => simp [intOf]; omega
          · have hO := HO.out
            have hsz := HB.out.size
            have hgl := gfil_len ph nx m
            go_wp2_with (at_builtin; refine wpList_append_one _ rfl _ _ 27 rfl 3 (.int .i64 0) 8 Try.underlying27 info_int rfl w1.heap.size _ _ _ rfl hO _ _ rfl rfl (by omega) (by omega) hsz ?_; intro v' w3 hO3 hg3 _)
            have HB3 : Hid (Below w1.heap.size w1 w3) := HB.out.trans (below_of_grownBy hg3 hsz (fun k hk => (hO.wblk hk).1))
            have HO3 := Lib.hid hO3
            clear hO3 hg3 hO
            go_wp2
            go_roundw
            case rel => exact ⟨m + 1, by omega, by go_num, by rw [HGS.out, ← HR1.out, ← HR2.out]; unfold Hid; simpa using HO3.out, HB3⟩
            case measure => simp [intOf]; omega
      · obtain rfl : m = p.cl.length := by omega
        have HF : Hid (Own wr w.heap.size 3 1 u8 (grn p s).length ((grn p s).map (.int .i64))) := by rw [HE.out]; exact HO.out.mono (Nat.le_trans HB0.out.size HB1.out.size)
        go_wp2_with fail
        go_ret
        exact ⟨_, rfl, HF.out, HT.out⟩
end Go.Proofs.Ytokpgipbgkiepaa
