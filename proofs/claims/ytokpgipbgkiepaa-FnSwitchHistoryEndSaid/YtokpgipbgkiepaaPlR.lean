/- validPlan, change, gapAfter, cycle: the reference's. -/
import Derived.Test.YtokpgipbgkiepaaPlQ
namespace Go.Proofs.Ytokpgipbgkiepaa
open Go.RowKit
set_option linter.unusedVariables false
set_option linter.unusedSimpArgs false

theorem spec_fits_H (w : World) (lo lo' : Nat) (vt vp : Value) (t : List (List Int)) (ph : List Int) (r : Bool) (ht : IntSS w lo vt t) (hp : Ints w lo' vp ph) (h : fitO t ph = r) :
    Calls Try.prog 106 #[vt, vp] w fun e w' => e = .returned (.bool r) ∧ Below w.heap.size w w' := by
  rw [← h]; exact spec_fits w lo lo' vt vp t ph ht hp

set_option maxHeartbeats 8000000 in
theorem spec_validPlan (w : World) (lo : Nat) (vp : Value) (p : Pln) (hp : PlanR w lo vp p) :
    Calls Try.prog 57 #[vp] w fun e w' => e = .returned (.bool (validP p)) ∧ Below w.heap.size w w' := by
  obtain ⟨vc, vs, rfl, hc, hs⟩ := hp
  obtain ⟨ao, cap, rfl, hcap, hm⟩ := hs.form
  obtain ⟨aoc, capc, rfl, hcapc, hmc⟩ := hc.form
  have HCL := Lib.hid hc
  have HS := Lib.hid hs
  obtain ⟨w0, hw0, hB0, x0, x1, hz0⟩ := plan_box w (.slice aoc p.cl.length capc) (.slice ao p.st.length cap)
  have HB0 := Lib.hid hB0
  clear hc hs hB0
  cases hcl : validCl p.cl
  · have HN : Hid (validP p = false) := by unfold Hid validP; rw [hcl]; rfl
    have HV := Lib.hid hcl
    clear hcl
    go_enter Try.func57, Try.ntmps57
    go_wp2_with fail
    rw [← hw0]
    clear hw0
    refine (spec_validClearance_H _ lo _ p.cl false (HCL.out.below HB0.out (Nat.le_refl _)) HV.out).mono ?_; rintro e w1 ⟨rfl, hB1⟩
    go_wp2_with fail
    go_ret
    exact ⟨ret_B HN, HB0.out.trans (hB1.mono HB0.out.size)⟩
  · have HV := Lib.hid hcl
    clear hcl
    by_cases hn : 1 ≤ p.st.length ∧ p.st.length ≤ 5
    · have dn : (decide (1 ≤ (p.st.length : Int)) && decide ((p.st.length : Int) ≤ 5)) = true := by simp; omega
      obtain ⟨h1, h5⟩ := hn
      obtain ⟨b, off, rfl, _, hb, hx⟩ := HS.out.spot (by omega)
      have HX := Lib.hid hx
      clear hx
      go_enter Try.func57, Try.ntmps57
      go_wp2_with fail
      rw [← hw0]
      clear hw0
      refine (spec_validClearance_H _ lo _ p.cl true (HCL.out.below HB0.out (Nat.le_refl _)) HV.out).mono ?_; rintro e w1 ⟨rfl, hB1⟩
      have hB1' := HB0.out.trans (hB1.mono HB0.out.size)
      have u1 := (hB1.cell (p := ⟨w.heap.size, 1, none⟩) hz0).trans x1
      go_wp2_with (go_at_call 90; with_reducible refine (inRange_dec (p.st.length : Int) 1 5 true _ dn).mono ?_; rintro e' w2 ⟨rfl, rfl⟩)
      go_loopw [3] (fun i wo => ∃ j : Nat, j ≤ p.st.length ∧ i = .int .i64 j ∧ (∀ k, k < j → stOk p.cl (p.st.getD k s0) = true) ∧ Below w0.heap.size w0 wo) (fun i _ => p.st.length - (intOf i).toNat)
      case atStart => exact ⟨0, Nat.zero_le _, rfl, fun j hj => by omega, hB1⟩
      case round =>
        clear hB1 hB1' u1
        obtain ⟨j, hj, rfl, hall, hB⟩ := hrel
        have HA := Lib.hid hall
        have hT := HB0.out.trans (hB.mono HB0.out.size)
        have hzr : w.heap.size < wr.heap.size := Nat.lt_of_lt_of_le hz0 hB.size
        have hbr : b < wr.heap.size := Nat.lt_of_lt_of_le hb hT.size
        have u0 := (hB.cell (p := ⟨w.heap.size, 0, none⟩) hz0).trans x0
        have u1 := (hB.cell (p := ⟨w.heap.size, 1, none⟩) hz0).trans x1
        clear hall
        by_cases hlt : j < p.st.length
        · obtain ⟨g1, ai, ci, g0, hIj⟩ := HX.out j (by omega)
          have c0 := (hT.cell (p := ⟨b, off + j * 2, none⟩) hb).trans g0
          have c1 := (hT.cell (p := ⟨b, off + j * 2 + 1, none⟩) hb).trans g1
          have hno : stOk p.cl (p.st.getD j s0) = false → validP p = false := fun h => by
            rw [Bool.eq_false_iff]; intro h'; rw [(validP_iff.1 h').2.2.2 j hlt] at h; cases h
          have hso : stOk p.cl (p.st.getD j s0) = (fitsB p.cl (p.st.getD j s0).ph && inR (p.st.getD j s0).gr 5 40) := rfl
          obtain ⟨so, hsoo⟩ : ∃ x, x = stOk p.cl (p.st.getD j s0) := ⟨_, rfl⟩
          rw [← hsoo] at hno hso
          obtain ⟨ph, hph⟩ : ∃ x, x = (p.st.getD j s0).ph := ⟨_, rfl⟩
          obtain ⟨gr, hgr⟩ : ∃ gr, gr = (p.st.getD j s0).gr := ⟨_, rfl⟩
          rw [← hph] at c0 hso hIj
          rw [← hgr] at c1 hso
          have HSOO := Lib.hid hsoo
          have HNO := Lib.hid hno
          have HSO := Lib.hid hso
          have HIJ := Lib.hid hIj
          have hj0 : (0 : Int) ≤ (j : Int) := by omega
          have hj1 : (j : Int) < (p.st.length : Int) := by omega
          have keepA : ∀ W, Below wr.heap.size wr W → (W.cell? ⟨w.heap.size, 0, none⟩ = some (.slice aoc p.cl.length capc) ∧ W.cell? ⟨w.heap.size, 1, none⟩ = some (.slice (some ⟨b, off, none⟩) p.st.length cap) ∧ W.cell? ⟨b, off + j * 2, none⟩ = some (.slice ai ph.length ci) ∧ W.cell? ⟨b, off + j * 2 + 1, none⟩ = some (.int .i64 gr)) := fun W h => ⟨(h.cell (p := ⟨w.heap.size, 0, none⟩) hzr).trans u0, (h.cell (p := ⟨w.heap.size, 1, none⟩) hzr).trans u1, (h.cell (p := ⟨b, off + j * 2, none⟩) hbr).trans c0, (h.cell (p := ⟨b, off + j * 2 + 1, none⟩) hbr).trans c1⟩
          have KA := Lib.hid keepA
          clear g0 g1 hIj hgr hsoo hno hso hph keepA
          cases hfi : fitsB p.cl ph
          · have HF : Hid (fitO p.cl ph = false) := by unfold Hid fitO; rw [hfi]; simp
            have HN : Hid (validP p = false) := HNO.out (by rw [HSO.out, hfi]; rfl)
            clear hfi
            go_wp2_with fail
            first | (go_region_with ((go_at_call 106; refine (spec_fits_H _ lo lo _ _ p.cl ph false (HCL.out.below (hT.trans ((Below.drew (Below.refl wr.heap.size wr)).mono hT.size)) (Nat.le_refl _)) (Rd.below HIJ.out (hT.trans ((Below.drew (Below.refl wr.heap.size wr)).mono hT.size)) (Nat.le_refl _) (by decide)) HF.out).mono ?_; rintro e w5 ⟨rfl, hB5'⟩; have hB5 : Below wr.heap.size wr w5 := (Below.drew (Below.refl wr.heap.size wr)).trans hB5'))) | fail "no"
            all_goals
              go_wp2
              go_ret
              exact ⟨ret_B HN, hT.trans (hB5.mono hT.size)⟩
          · have HF : Hid (fitO p.cl ph = true) := by unfold Hid fitO; rw [hfi, HV.out]; rfl
            have hso2 : so = inR gr 5 40 := by rw [HSO.out, hfi]; rfl
            have HSO2 := Lib.hid hso2
            clear hfi hso2
            cases hin : inR gr 5 40
            · have dn2 : (decide (5 ≤ gr) && decide (gr ≤ 40)) = false := hin
              have HN : Hid (validP p = false) := HNO.out (by rw [HSO2.out, hin])
              clear hin
              go_wp2_with fail
              go_region_held3 (fun w' => w'.cell? ⟨w.heap.size, 0, none⟩ = some (.slice aoc p.cl.length capc) ∧ w'.cell? ⟨w.heap.size, 1, none⟩ = some (.slice (some ⟨b, off, none⟩) p.st.length cap) ∧ w'.cell? ⟨b, off + j * 2, none⟩ = some (.slice ai ph.length ci) ∧ w'.cell? ⟨b, off + j * 2 + 1, none⟩ = some (.int .i64 gr))
                (first | exact KA.out _ hB5 | exact KA.out _ (Below.refl _ _) | go_keep | assumption)
                ((first
                  | (go_at_call 106; refine (spec_fits_H _ lo lo _ _ p.cl ph true (HCL.out.below (hT.trans ((Below.drew (Below.refl wr.heap.size wr)).mono hT.size)) (Nat.le_refl _)) (Rd.below HIJ.out (hT.trans ((Below.drew (Below.refl wr.heap.size wr)).mono hT.size)) (Nat.le_refl _) (by decide)) HF.out).mono ?_; rintro e w5 ⟨rfl, hB5'⟩; have hB5 : Below wr.heap.size wr w5 := (Below.drew (Below.refl wr.heap.size wr)).trans hB5')
                  | (go_at_call 90; with_reducible refine (inRange_dec gr 5 40 false _ dn2).mono ?_; rintro e' w6 ⟨rfl, rfl⟩)))
              go_wp2
              go_ret
              exact ⟨ret_B HN, hT.trans (hB5.mono hT.size)⟩
            · have dn2 : (decide (5 ≤ gr) && decide (gr ≤ 40)) = true := hin
              have HY : Hid (stOk p.cl (p.st.getD j s0) = true) := by unfold Hid; rw [← HSOO.out, HSO2.out, hin]
              clear hin
              go_wp2_with fail
              go_region_held3 (fun w' => w'.cell? ⟨w.heap.size, 0, none⟩ = some (.slice aoc p.cl.length capc) ∧ w'.cell? ⟨w.heap.size, 1, none⟩ = some (.slice (some ⟨b, off, none⟩) p.st.length cap) ∧ w'.cell? ⟨b, off + j * 2, none⟩ = some (.slice ai ph.length ci) ∧ w'.cell? ⟨b, off + j * 2 + 1, none⟩ = some (.int .i64 gr))
                (first | exact KA.out _ hB5 | exact KA.out _ (Below.refl _ _) | go_keep | assumption)
                ((first
                  | (go_at_call 106; refine (spec_fits_H _ lo lo _ _ p.cl ph true (HCL.out.below (hT.trans ((Below.drew (Below.refl wr.heap.size wr)).mono hT.size)) (Nat.le_refl _)) (Rd.below HIJ.out (hT.trans ((Below.drew (Below.refl wr.heap.size wr)).mono hT.size)) (Nat.le_refl _) (by decide)) HF.out).mono ?_; rintro e w5 ⟨rfl, hB5'⟩; have hB5 : Below wr.heap.size wr w5 := (Below.drew (Below.refl wr.heap.size wr)).trans hB5')
                  | (go_at_call 90; with_reducible refine (inRange_dec gr 5 40 true _ dn2).mono ?_; rintro e' w6 ⟨rfl, rfl⟩)))
              go_wp2
              go_roundw
              case rel => exact ⟨j + 1, by omega, by go_num, fun k hk => by
                by_cases h : k = j
                · subst h; exact HY.out
                · exact HA.out k (by omega), hB.trans (hB5.mono hB.size)⟩
              case measure => simp [intOf]; omega
        · have HG : Hid (validP p = true) := by
            unfold Hid; exact validP_iff.2 ⟨HV.out, h1, h5, fun i hi => HA.out i (by omega)⟩
          go_wp2_with fail
          go_ret
          exact ⟨ret_B HG, hT⟩
    · have dn : (decide (1 ≤ (p.st.length : Int)) && decide ((p.st.length : Int) ≤ 5)) = false := by simp; omega
      have HN : Hid (validP p = false) := by
        unfold Hid; rw [Bool.eq_false_iff]; intro h
        have := validP_iff.1 h
        exact hn ⟨this.2.1, this.2.2.1⟩
      clear hn
      go_enter Try.func57, Try.ntmps57
      go_wp2_with fail
      rw [← hw0]
      clear hw0
      refine (spec_validClearance_H _ lo _ p.cl true (HCL.out.below HB0.out (Nat.le_refl _)) HV.out).mono ?_; rintro e w1 ⟨rfl, hB1⟩
      have u1 := (hB1.cell (p := ⟨w.heap.size, 1, none⟩) hz0).trans x1
      go_wp2_with (go_at_call 90; with_reducible refine (inRange_dec (p.st.length : Int) 1 5 false _ dn).mono ?_; rintro e' w2 ⟨rfl, rfl⟩)
      go_ret
      exact ⟨ret_B HN, HB0.out.trans (hB1.mono HB0.out.size)⟩

theorem isIn_H (w : World) (lo : Nat) (v : Value) (xs : List Int) (x : Int) (r : Bool) (hv : Ints w lo v xs) (h : hasB xs x = r) :
    Calls Try.prog 125 #[v, .int .i64 x] w fun e w' => e = .returned (.bool r) ∧ w = w' := by
  rw [← h]; exact isIn_any w lo v xs x hv

set_option maxHeartbeats 8000000 in
theorem spec_change (w : World) (lo l1 l2 : Nat) (vt vf vo : Value) (t : List (List Int)) (fr to : List Int) (ht : IntSS w lo vt t) (hval : validCl t = true) (hf : Ints w l1 vf fr) (ho : Ints w l2 vo to)
    (hfm : movesB fr t.length = true) (hom : movesB to t.length = true) :
    Calls Try.prog 127 #[vt, vf, vo] w fun e w' => e = .returned (.int .i64 (change t fr to)) ∧ Below w.heap.size w w' := by
  obtain ⟨aot, capt, rfl, hcapt, hmt⟩ := ht.form
  obtain ⟨aof, capf, rfl, hcapf, hmf⟩ := hf.form
  obtain ⟨aoo, capo, rfl, hcapo, hmo⟩ := ho.form
  obtain ⟨hn1, hn2, hrow, _⟩ := validCl_iff.1 hval
  obtain ⟨bt, offt, rfl, _, hbt, hct⟩ := ht.spot (by omega)
  have HT : Hid (∀ a, a < t.length → ∃ b1 off1 c1, w.cell? ⟨bt, offt + a, none⟩ = some (.slice (some ⟨b1, off1, none⟩) t.length c1) ∧ t.length ≤ c1 ∧ c1 ≤ 9223372036854775807 ∧ b1 < w.heap.size ∧ ∀ c, c < t.length → w.cell? ⟨b1, off1 + c, none⟩ = some (.int .i64 (tat t a c))) := fun a ha => by
    obtain ⟨ai, ci, h1, hI⟩ := hct a ha
    have hrl := (rowOk_iff.1 (hrow a ha)).1
    rw [hrl] at h1 hI
    obtain ⟨b1, off1, rfl, _, hb1, hx⟩ := hI.spot 0 (by omega)
    obtain ⟨_, q1, q2⟩ := IntSS.rowlen hI
    exact ⟨b1, off1, ci, h1, q1, q2, hb1, fun c hc => hx c (by omega)⟩
  have HBD : Hid (∀ i, i ≤ fr.length → 0 ≤ chg t fr to i ∧ chg t fr to i ≤ 5) := fun i hi => chg_bd hval hfm hom i hi
  have HFM : Hid (∀ i, i < fr.length → 0 ≤ fr.getD i 0 ∧ fr.getD i 0 ≤ (t.length : Int) - 1) := fun i hi => movesB_in hfm hi
  have HOM : Hid (∀ i, i < to.length → 0 ≤ to.getD i 0 ∧ to.getD i 0 ≤ (t.length : Int) - 1) := fun i hi => movesB_in hom hi
  have HVL := Lib.hid hval
  have HF := Lib.hid hf
  have HO := Lib.hid ho
  clear ht hct hrow hval hfm hom hf ho
  go_enter Try.func127, Try.ntmps127
  go_wp2_with fail
  go_loopw [7, 8] (fun tv i wo => ∃ k : Nat, k ≤ fr.length ∧ i = .int .i64 k ∧ tv = .int .i64 (chg t fr to k) ∧ Below w.heap.size w wo) (fun _ i _ => fr.length - (intOf i).toNat)
  case atStart => exact ⟨0, Nat.zero_le _, rfl, rfl, Below.refl _ _⟩
  case round =>
    obtain ⟨k, hk, rfl, rfl, hB0⟩ := hrel
    by_cases hlt : k < fr.length
    · obtain ⟨bf, off, rfl, _, hbf, hx⟩ := HF.out.spot 0 (by omega)
      have hxk := hx k hlt
      have hin := HFM.out k hlt
      have hsu := chg_succ t fr to k
      have hbd := HBD.out k hk
      obtain ⟨x, hxx⟩ : ∃ x, x = fr.getD k 0 := ⟨_, rfl⟩
      rw [← hxx] at hxk hin hsu
      obtain ⟨A, rfl⟩ := Int.eq_ofNat_of_zero_le hin.1
      have hA : A < t.length := by omega
      obtain ⟨m, hmm⟩ : ∃ m, m = chg t fr to k := ⟨_, rfl⟩
      rw [← hmm] at hsu hbd ⊢
      have HSU := Lib.hid hsu
      obtain ⟨b1, off1, c1, h1, q1, q2, hb1, hx1⟩ := HT.out A hA
      have HX1 := Lib.hid hx1
      obtain ⟨hh, hhh⟩ : ∃ x, x = hasB to (A : Int) := ⟨_, rfl⟩
      have HH := Lib.hid hhh
      have k0 : (0 : Int) ≤ (k : Int) := by omega
      have k1 : (k : Int) < (fr.length : Int) := by omega
      have HB0 := Lib.hid hB0
      clear hx hxx hsu hmm hin hx1 hhh hB0
      go_wp2_with fail
      go_loopw [7, 9] (fun tv i wi => ∃ j : Nat, j ≤ to.length ∧ i = .int .i64 j ∧ tv = .int .i64 (chg1 t fr to A m j) ∧ Below w.heap.size w wi) (fun _ i _ => to.length - (intOf i).toNat)
      case atStart => exact ⟨0, Nat.zero_le _, rfl, rfl, HB0.out⟩
      case round =>
        clear HB0
        obtain ⟨j, hj, rfl, rfl, hB⟩ := hrel
        by_cases hjl : j < to.length
        · obtain ⟨bo, offo, rfl, _, hbo, hy⟩ := HO.out.spot 0 (by omega)
          have hyj := (hB.cell (p := ⟨bo, offo + j, none⟩) hbo).trans (hy j hjl)
          have hxk2 := (hB.cell (p := ⟨bf, off + k, none⟩) hbf).trans hxk
          have hin := HOM.out j hjl
          have hsu : chg1 t fr to A m (j + 1) = if hasB to (A : Int) = false ∧ hasB fr (to.getD j 0) = false then max (chg1 t fr to A m j) (tat t (A : Int).toNat (to.getD j 0).toNat) else chg1 t fr to A m j := rfl
          obtain ⟨y, hyy⟩ : ∃ y, y = to.getD j 0 := ⟨_, rfl⟩
          rw [← hyy] at hyj hin hsu
          obtain ⟨Y, rfl⟩ := Int.eq_ofNat_of_zero_le hin.1
          have hY : Y < t.length := by omega
          have s1 := (hB.cell (p := ⟨bt, offt + A, none⟩) hbt).trans h1
          have s2 := (hB.cell (p := ⟨b1, off1 + Y, none⟩) hb1).trans (HX1.out Y hY)
          have hbx := tat_bd HVL.out hA hY
          have hcb : 0 ≤ chg1 t fr to A m j ∧ chg1 t fr to A m j ≤ 5 := chg1_bd (fun q hq => by have := HOM.out q hq; exact tat_bd HVL.out (by omega) (by omega)) hbd j hj
          rw [Int.toNat_natCast, Int.toNat_natCast] at hsu
          obtain ⟨z, hz⟩ : ∃ z, z = tat t A Y := ⟨_, rfl⟩
          obtain ⟨c, hcc⟩ : ∃ c, c = chg1 t fr to A m j := ⟨_, rfl⟩
          rw [← hz] at s2 hsu hbx
          rw [← hcc] at hsu hcb ⊢
          have HSJ := Lib.hid hsu
          have hA0 : (0 : Int) ≤ (A : Int) := by omega
          have hA1 : (A : Int) < (t.length : Int) := by omega
          have hY0 : (0 : Int) ≤ (Y : Int) := by omega
          have hY1 : (Y : Int) < (t.length : Int) := by omega
          have j0 : (0 : Int) ≤ (j : Int) := by omega
          have j1 : (j : Int) < (to.length : Int) := by omega
          have hO2 : Ints wr l2 _ to := Rd.below HO.out hB (Nat.le_refl _) (by decide)
          have hF2 : Ints wr l1 _ fr := Rd.below HF.out hB (Nat.le_refl _) (by decide)
          clear hy hyy hz hcc hsu hin
          cases hv : hh
          · subst hv
            cases hg : hasB fr Y
            · have HG := Lib.hid hg
              have HE : Hid (chg1 t fr to A m (j + 1) = max c z) := by unfold Hid; rw [HSJ.out, if_pos ⟨HH.out.symm, hg⟩]
              clear HSJ hg
              go_wp2_with (first
                | (go_at_call 125; with_reducible refine (isIn_H _ l2 _ to (A : Int) false hO2 HH.out.symm).mono ?_; rintro e' w2 ⟨rfl, rfl⟩)
                | (go_at_call 125; with_reducible refine (isIn_H _ l1 _ fr (Y : Int) false hF2 HG.out).mono ?_; rintro e' w2 ⟨rfl, rfl⟩))
              go_quiet (fail)
              go_wp2
              all_goals
                go_roundw
                case rel => exact ⟨j + 1, by omega, by go_num, by rw [HE.out]; congr 1; omega, below_drewN hB _⟩
                case measure => simp [intOf]; omega
            · have HG := Lib.hid hg
              have HE : Hid (chg1 t fr to A m (j + 1) = c) := by unfold Hid; rw [HSJ.out, if_neg (fun h => by rw [hg] at h; cases h.2)]
              clear HSJ hg
              go_wp2_with (first
                | (go_at_call 125; with_reducible refine (isIn_H _ l2 _ to (A : Int) false hO2 HH.out.symm).mono ?_; rintro e' w2 ⟨rfl, rfl⟩)
                | (go_at_call 125; with_reducible refine (isIn_H _ l1 _ fr (Y : Int) true hF2 HG.out).mono ?_; rintro e' w2 ⟨rfl, rfl⟩))
              go_roundw
              case rel => exact ⟨j + 1, by omega, by go_num, by rw [HE.out], hB⟩
              case measure => simp [intOf]; omega
          · subst hv
            have HE : Hid (chg1 t fr to A m (j + 1) = c) := by unfold Hid; rw [HSJ.out, if_neg (fun h => by rw [← HH.out] at h; cases h.1)]
            clear HSJ
            go_wp2_with (go_at_call 125; with_reducible refine (isIn_H _ l2 _ to (A : Int) true hO2 HH.out.symm).mono ?_; rintro e' w2 ⟨rfl, rfl⟩)
            go_roundw
            case rel => exact ⟨j + 1, by omega, by go_num, by rw [HE.out], hB⟩
            case measure => simp [intOf]; omega
        · obtain rfl : j = to.length := by omega
          go_wp2_with fail
          go_roundw
          case rel => exact ⟨k + 1, by omega, by go_num, by rw [HSU.out], hB⟩
          case measure => simp [intOf]; omega
    · obtain rfl : k = fr.length := by omega
      go_wp2_with fail
      go_ret
      exact ⟨rfl, hB0⟩
end Go.Proofs.Ytokpgipbgkiepaa
