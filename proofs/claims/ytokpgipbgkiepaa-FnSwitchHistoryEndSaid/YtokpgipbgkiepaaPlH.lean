/- validPhases and changeOf: the program's. -/
import Derived.Test.YtokpgipbgkiepaaPlG
namespace Go.Proofs.Ytokpgipbgkiepaa
open Go.RowKit
set_option linter.unusedVariables false
set_option linter.unusedSimpArgs false

def phsB (t : List (List Int)) (phs : List (List Int)) : Bool := (List.range phs.length).all fun i => fitsB t (phs.getD i [])
theorem phsB_iff {t phs : List (List Int)} : phsB t phs = true ↔ ∀ i, i < phs.length → fitsB t (phs.getD i []) = true := by
  simp only [phsB, List.all_eq_true, List.mem_range]
theorem phsB_no {t phs : List (List Int)} {i : Nat} (hi : i < phs.length) (h : fitsB t (phs.getD i []) = false) : phsB t phs = false := by
  rw [Bool.eq_false_iff]; intro h'; rw [phsB_iff.1 h' i hi] at h; cases h

set_option maxHeartbeats 4000000 in
theorem impl_validPhases (w : World) (lo lo' : Nat) (vt vl : Value) (t phs : List (List Int)) (ht : IntSS w lo vt t) (hval : validCl t = true) (hl : IntSS w lo' vl phs) :
    Calls Try.prog 64 #[vt, vl] w fun e w' => e = .returned (.bool (phsB t phs)) ∧ Below w.heap.size w w' := by
  obtain ⟨ao, cap, rfl, hcap, hm⟩ := hl.form
  have HV := Lib.hid hval
  go_enter Try.func64, Try.ntmps64
  go_wp2_with fail
  go_at_call 39
  refine (impl_conflictsOf _ _ _ t ht hval).mono ?_; rintro e' w1 ⟨vc, rfl, hC, hB1⟩
  clear hval
  go_wp2_with fail
  go_loopw [12] (fun i wo => ∃ k : Nat, k ≤ phs.length ∧ i = .int .i64 k ∧ (∀ j, j < k → fitsB t (phs.getD j []) = true) ∧ Below w1.heap.size w1 wo) (fun i _ => phs.length - (intOf i).toNat)
  case atStart => exact ⟨0, Nat.zero_le _, rfl, fun j hj => by omega, Below.refl _ _⟩
  case round =>
    obtain ⟨k, hk, rfl, hall, hB⟩ := hrel
    have HA := Lib.hid hall
    clear hall
    have hT := hB1.trans (hB.mono hB1.size)
    by_cases hlt : k < phs.length
    · obtain ⟨b, off, rfl, _, hb, hc⟩ := (hl.below hT (Nat.le_refl _)).spot (by omega)
      obtain ⟨ai, ci, h1, hI⟩ := hc k hlt
      have hCr : ConfR wr w.heap.size vc t := hC.below hB (Nat.le_refl _)
      have hno : fitsB t (phs.getD k []) = false → phsB t phs = false := phsB_no hlt
      obtain ⟨ph, hph⟩ : ∃ ph, ph = phs.getD k [] := ⟨_, rfl⟩
      rw [← hph] at h1 hI hno
      have HPH := Lib.hid hph
      clear hph hc
      cases hf : fitsB t ph
      · have HN := Lib.hid (hno hf)
        clear hno
        go_wp2_with fail
        go_at_call 38
        refine (impl_validPhase _ _ _ _ _ t ph hCr HV.out hI).mono ?_; rintro e' w2 ⟨rfl, hB2⟩
        rw [hf]
        have hT2 := hT.trans (hB2.mono hT.size)
        clear hCr hI hf
        go_wp2_with fail
        go_ret
        exact ⟨by rw [HN.out]; rfl, hT2⟩
      · have HF := Lib.hid hf
        clear hno
        go_wp2_with fail
        go_at_call 38
        refine (impl_validPhase _ _ _ _ _ t ph hCr HV.out hI).mono ?_; rintro e' w2 ⟨rfl, hB2⟩
        rw [hf]
        have hB3 := hB.trans (hB2.mono hB.size)
        clear hCr hI hf
        go_wp2_with fail
        go_roundw
        case rel => exact ⟨k + 1, by omega, by go_num, fun j hj => by
          by_cases h : j = k
          · subst h; rw [← HPH.out]; exact HF.out
          · exact HA.out j (by omega), hB3⟩
        case measure => simp [intOf]; omega
    · have HN : Hid (phsB t phs = true) := phsB_iff.2 (fun i hi => HA.out i (by omega))
      go_wp2_with fail
      go_ret
      exact ⟨by rw [HN.out]; rfl, hT⟩

theorem chg_succ (t : List (List Int)) (from_ to : List Int) (i : Nat) : chg t from_ to (i + 1) = chg1 t from_ to (from_.getD i 0) (chg t from_ to i) to.length := rfl
theorem chg_bd {t : List (List Int)} (hv : validCl t = true) {from_ to : List Int} (hf : movesB from_ t.length = true) (hto : movesB to t.length = true) (i : Nat) (hi : i ≤ from_.length) : 0 ≤ chg t from_ to i ∧ chg t from_ to i ≤ 5 := by
  induction i with
  | zero => exact ⟨Int.le_refl _, by simp [chg]⟩
  | succ i ih =>
    rw [chg_succ]
    refine chg1_bd (fun k hk => ?_) (ih (by omega)) _ (Nat.le_refl _)
    have a := movesB_in hf (i := i) (by omega)
    have b := movesB_in hto hk
    exact tat_bd hv (by omega) (by omega)

set_option maxHeartbeats 4000000 in
theorem impl_changeOf (w : World) (lo l1 l2 : Nat) (vt vf vo : Value) (t : List (List Int)) (fr to : List Int) (ht : IntSS w lo vt t) (hval : validCl t = true) (hf : Ints w l1 vf fr) (ho : Ints w l2 vo to)
    (hfm : movesB fr t.length = true) (hom : movesB to t.length = true) :
    Calls Try.prog 97 #[vt, vf, vo] w fun e w' => e = .returned (.int .i64 (change t fr to)) ∧ w = w' := by
  obtain ⟨aot, capt, rfl, hcapt, hmt⟩ := ht.form
  obtain ⟨aof, capf, rfl, hcapf, hmf⟩ := hf.form
  obtain ⟨aoo, capo, rfl, hcapo, hmo⟩ := ho.form
  obtain ⟨hn1, hn2, hrow, _⟩ := validCl_iff.1 hval
  obtain ⟨bt, offt, rfl, _, hbt, hct⟩ := ht.spot (by omega)
  have HT : Hid (∀ a, a < t.length → ∃ b1 off1 c1, w.cell? ⟨bt, offt + a, none⟩ = some (.slice (some ⟨b1, off1, none⟩) t.length c1) ∧ t.length ≤ c1 ∧ c1 ≤ 9223372036854775807 ∧ ∀ c, c < t.length → w.cell? ⟨b1, off1 + c, none⟩ = some (.int .i64 (tat t a c))) := fun a ha => by
    obtain ⟨ai, ci, h1, hI⟩ := hct a ha
    have hrl := (rowOk_iff.1 (hrow a ha)).1
    rw [hrl] at h1 hI
    obtain ⟨b1, off1, rfl, _, _, hx⟩ := hI.spot 0 (by omega)
    obtain ⟨_, q1, q2⟩ := IntSS.rowlen hI
    exact ⟨b1, off1, ci, h1, q1, q2, fun c hc => hx c (by omega)⟩
  have HBD : Hid (∀ i, i ≤ fr.length → 0 ≤ chg t fr to i ∧ chg t fr to i ≤ 5) := fun i hi => chg_bd hval hfm hom i hi
  have HFM : Hid (∀ i, i < fr.length → 0 ≤ fr.getD i 0 ∧ fr.getD i 0 ≤ (t.length : Int) - 1) := fun i hi => movesB_in hfm hi
  have HOM : Hid (∀ i, i < to.length → 0 ≤ to.getD i 0 ∧ to.getD i 0 ≤ (t.length : Int) - 1) := fun i hi => movesB_in hom hi
  have HVL := Lib.hid hval
  have HF := Lib.hid hf
  have HO := Lib.hid ho
  clear ht hct hrow hval hfm hom hf ho
  go_enter Try.func97, Try.ntmps97
  go_wp2_with fail
  go_loop [7, 14] (fun tv i => ∃ k : Nat, k ≤ fr.length ∧ i = .int .i64 k ∧ tv = .int .i64 (chg t fr to k)) (fun _ i => fr.length - (intOf i).toNat)
  case atStart => exact ⟨0, Nat.zero_le _, rfl, rfl⟩
  case round =>
    obtain ⟨k, hk, rfl, rfl⟩ := hrel
    by_cases hlt : k < fr.length
    · obtain ⟨bf, off, rfl, _, hbf, hx⟩ := HF.out.spot 0 (by omega)
      have hxk := hx k hlt
      have hin := HFM.out k hlt
      have hsu := chg_succ t fr to k
      have hbd := HBD.out k hk
      obtain ⟨x, hxx⟩ : ∃ x, x = fr.getD k 0 := ⟨_, rfl⟩
      rw [← hxx] at hxk hin hsu
      obtain ⟨A, rfl⟩ := Int.eq_ofNat_of_zero_le hin.1
      have hA : A < t.length := by omega
      obtain ⟨m, hmm⟩ : ∃ m, m = chg t fr to k := ⟨_, rfl⟩
      rw [← hmm] at hsu hbd ⊢
      have HSU := Lib.hid hsu
      clear hx hxx hsu hmm hin
      cases hh : hasB to A
      · obtain ⟨b1, off1, c1, h1, q1, q2, hx1⟩ := HT.out A hA
        have HX1 := Lib.hid hx1
        have HH := Lib.hid hh
        clear hx1
        go_wp2_with (go_at_call 118; refine (contains_any _ _ _ to (A : Int) HO.out).mono ?_; rintro e' w2 ⟨rfl, rfl⟩; rw [hh])
        go_loop [7, 23] (fun tv i => ∃ j : Nat, j ≤ to.length ∧ i = .int .i64 j ∧ tv = .int .i64 (chg1 t fr to A m j)) (fun _ i => to.length - (intOf i).toNat)
        case atStart => exact ⟨0, Nat.zero_le _, rfl, rfl⟩
        case round =>
          obtain ⟨j, hj, rfl, rfl⟩ := hrel
          by_cases hjl : j < to.length
          · obtain ⟨bo, offo, rfl, _, hbo, hy⟩ := HO.out.spot 0 (by omega)
            have hyj := hy j hjl
            have hin := HOM.out j hjl
            have hsu : chg1 t fr to A m (j + 1) = if hasB to (A : Int) = false ∧ hasB fr (to.getD j 0) = false then max (chg1 t fr to A m j) (tat t (A : Int).toNat (to.getD j 0).toNat) else chg1 t fr to A m j := rfl
            obtain ⟨y, hyy⟩ : ∃ y, y = to.getD j 0 := ⟨_, rfl⟩
            rw [← hyy] at hyj hin hsu
            obtain ⟨Y, rfl⟩ := Int.eq_ofNat_of_zero_le hin.1
            have hY : Y < t.length := by omega
            have s2 := HX1.out Y hY
            have hbx := tat_bd HVL.out hA hY
            have hcb : 0 ≤ chg1 t fr to A m j ∧ chg1 t fr to A m j ≤ 5 := chg1_bd (fun q hq => by have := HOM.out q hq; exact tat_bd HVL.out (by omega) (by omega)) hbd j hj
            rw [Int.toNat_natCast, Int.toNat_natCast] at hsu
            obtain ⟨z, hz⟩ : ∃ z, z = tat t A Y := ⟨_, rfl⟩
            obtain ⟨c, hcc⟩ : ∃ c, c = chg1 t fr to A m j := ⟨_, rfl⟩
            rw [← hz] at s2 hsu hbx
            rw [← hcc] at hsu hcb ⊢
            have HSJ := Lib.hid hsu
            have hA0 : (A : Int) < (t.length : Int) := by omega
            have hY0 : (Y : Int) < (t.length : Int) := by omega
            clear hy hyy hz hcc hsu hin
            cases hg : hasB fr Y
            · have HE : Hid (chg1 t fr to A m (j + 1) = max c z) := by unfold Hid; rw [HSJ.out, if_pos ⟨HH.out, hg⟩]
              clear HSJ
              go_wp2_with (go_at_call 118; refine (contains_any _ _ _ fr (Y : Int) HF.out).mono ?_; rintro e' w2 ⟨rfl, rfl⟩; rw [hg])
              all_goals
                go_round
                case rel => exact ⟨j + 1, by omega, by go_num, by rw [HE.out]; congr 1; omega⟩
                case measure => simp [intOf]; omega
            · have HE : Hid (chg1 t fr to A m (j + 1) = c) := by unfold Hid; rw [HSJ.out, if_neg (fun h => by rw [hg] at h; cases h.2)]
              clear HSJ
              go_wp2_with (go_at_call 118; refine (contains_any _ _ _ fr (Y : Int) HF.out).mono ?_; rintro e' w2 ⟨rfl, rfl⟩; rw [hg])
              go_round
              case rel => exact ⟨j + 1, by omega, by go_num, by rw [HE.out]⟩
              case measure => simp [intOf]; omega
          · obtain rfl : j = to.length := by omega
            go_wp2_with fail
            go_round
            case rel => exact ⟨k + 1, by omega, by go_num, by rw [HSU.out]⟩
            case measure => simp [intOf]; omega
      · have HE : Hid (chg t fr to (k + 1) = m) := by unfold Hid; rw [HSU.out, chg1_skip hh]
        clear HSU
        go_wp2_with (go_at_call 118; refine (contains_any _ _ _ to (A : Int) HO.out).mono ?_; rintro e' w2 ⟨rfl, rfl⟩; rw [hh])
        go_round
        case rel => exact ⟨k + 1, by omega, by go_num, by rw [HE.out]⟩
        case measure => simp [intOf]; omega
    · obtain rfl : k = fr.length := by omega
      go_wp2_with fail
      go_ret
      exact ⟨rfl, rfl⟩
end Go.Proofs.Ytokpgipbgkiepaa
