/- ValidPhase: the program's. -/
import Derived.Test.YtokpgipbgkiepaaPlF
namespace Go.Proofs.Ytokpgipbgkiepaa
open Go.RowKit
set_option linter.unusedVariables false
set_option linter.unusedSimpArgs false

theorem fitsB_iff {t : List (List Int)} {ph : List Int} : fitsB t ph = true ↔ movesB ph t.length = true ∧ ∀ i, i < ph.length → ∀ k, k < i → ¬ 0 < tat t (ph.getD i 0).toNat (ph.getD k 0).toNat := by
  unfold fitsB; rw [Bool.and_eq_true, apartB_iff]
theorem movesB_in {ph : List Int} {n : Int} (h : movesB ph n = true) {i : Nat} (hi : i < ph.length) : 0 ≤ ph.getD i 0 ∧ ph.getD i 0 ≤ n - 1 := by
  unfold movesB at h; rw [Bool.and_eq_true] at h
  exact allB_get.1 h.1 i hi

set_option maxHeartbeats 4000000 in
theorem impl_validPhase (w : World) (lo lo' : Nat) (vc vp : Value) (t : List (List Int)) (ph : List Int) (hc : ConfR w lo vc t) (hval : validCl t = true) (hp : Ints w lo' vp ph) :
    Calls Try.prog 38 #[vc, vp] w fun e w' => e = .returned (.bool (fitsB t ph)) ∧ Below w.heap.size w w' := by
  obtain ⟨ao, cap, rfl, hcap, hm⟩ := hp.form
  obtain ⟨hn1, hn2, _, _⟩ := validCl_iff.1 hval
  have HV := Lib.hid hval
  have hc0 := hc
  obtain ⟨b, off, capc, rfl, hcc, hcm, _, hb, hcx⟩ := hc
  have HC := Lib.hid hcx
  clear hcx
  by_cases hmv : movesB ph t.length = true
  · have HM := Lib.hid hmv
    go_enter Try.func38, Try.ntmps38
    go_wp2_with fail
    go_at_call 93
    refine (impl_validConflicts _ _ _ t hc0 hval).mono ?_; rintro e' w2 ⟨rfl, rfl⟩
    clear hval
    go_wp2_with fail
    go_at_call 94
    refine (validMoves_any _ _ _ ph t.length (by omega) hp).mono ?_; rintro e' w2 ⟨rfl, hB2⟩
    rw [hmv]
    clear hmv hc0
    go_wp2_with fail
    go_loopw [21] (fun i wo => ∃ k : Nat, k ≤ ph.length ∧ i = .int .i64 k ∧ (∀ i', i' < k → ∀ j, j < i' → ¬ 0 < tat t (ph.getD i' 0).toNat (ph.getD j 0).toNat) ∧ Below w.heap.size w wo) (fun i _ => ph.length - (intOf i).toNat)
    case atStart => exact ⟨0, Nat.zero_le _, rfl, fun j hj => by omega, hB2⟩
    case round =>
      clear hB2
      obtain ⟨k, hk, rfl, hall, hB⟩ := hrel
      have HA := Lib.hid hall
      clear hall
      by_cases hlt : k < ph.length
      · obtain ⟨bp, op, rfl, _, hbp, hx⟩ := hp.spot 0 (by omega)
        have HX := Lib.hid hx
        have hxk := (hB.cell (p := ⟨bp, op + k, none⟩) hbp).trans (hx k hlt)
        have hin := movesB_in HM.out hlt
        obtain ⟨x, hxx⟩ : ∃ x, x = ph.getD k 0 := ⟨_, rfl⟩
        rw [← hxx] at hxk hin
        have HXX := Lib.hid hxx
        obtain ⟨A, rfl⟩ := Int.eq_ofNat_of_zero_le hin.1
        have hA : A < t.length := by omega
        obtain ⟨b1, off1, c1, h1, q1, q2, _, hb1, hx1⟩ := HC.out A hA
        have HX1 := Lib.hid hx1
        have hkc : (k : Int) ≤ (cap : Int) := by omega
        have hk0 : (0 : Int) ≤ (k : Int) := by omega
        clear hx hxx hx1 hin
        go_wp2_with fail
        go_loopw [30] (fun i wi => ∃ j : Nat, j ≤ k ∧ i = .int .i64 j ∧ (∀ j', j' < j → ¬ 0 < tat t A (ph.getD j' 0).toNat) ∧ Below w.heap.size w wi) (fun i _ => k - (intOf i).toNat)
        case atStart => exact ⟨0, Nat.zero_le _, rfl, fun j hj => by omega, hB⟩
        case round =>
          clear hB hxk
          obtain ⟨j, hj, rfl, hall, hB⟩ := hrel
          have HJ := Lib.hid hall
          clear hall
          by_cases hjk : j < k
          · have hxj := (hB.cell (p := ⟨bp, op + j, none⟩) hbp).trans (HX.out j (by omega))
            have hin := movesB_in HM.out (i := j) (by omega)
            obtain ⟨y, hyy⟩ : ∃ y, y = ph.getD j 0 := ⟨_, rfl⟩
            rw [← hyy] at hxj hin
            have HYY := Lib.hid hyy
            obtain ⟨Y, rfl⟩ := Int.eq_ofNat_of_zero_le hin.1
            have hY : Y < t.length := by omega
            have s1 := (hB.cell (p := ⟨b, off + A, none⟩) hb).trans h1
            have s2 := (hB.cell (p := ⟨b1, off1 + Y, none⟩) hb1).trans (HX1.out Y hY)
            have hA0 : (A : Int) < (t.length : Int) := by omega
            have hY0 : (Y : Int) < (t.length : Int) := by omega
            clear hyy hin
            by_cases hcf : 0 < tat t A Y
            · have d1 : decide (0 < tat t A Y) = true := decide_eq_true hcf
              rw [d1] at s2
              have HN : Hid (fitsB t ph = false) := by
                unfold Hid; rw [Bool.eq_false_iff]; intro h
                have := (fitsB_iff.1 h).2 k hlt j hjk
                rw [← HXX.out, ← HYY.out] at this
                exact this hcf
              clear hcf d1
              go_wp2_with fail
              go_ret
              exact ⟨by rw [HN.out]; rfl, hB⟩
            · have d1 : decide (0 < tat t A Y) = false := decide_eq_false hcf
              rw [d1] at s2
              have HY : Hid (¬ 0 < tat t A (ph.getD j 0).toNat) := by unfold Hid; rw [← HYY.out]; exact hcf
              clear hcf d1
              go_wp2_with fail
              go_roundw
              case rel => exact ⟨j + 1, by omega, by go_num, fun j' hj' => by
                by_cases h : j' = j
                · subst h; exact HY.out
                · exact HJ.out j' (by omega), hB⟩
              case measure => simp [intOf]; omega
          · have HK : Hid (∀ j', j' < k → ¬ 0 < tat t (ph.getD k 0).toNat (ph.getD j' 0).toNat) := fun j' hj' => by
              rw [← HXX.out]; exact HJ.out j' (by omega)
            clear HJ
            go_wp2_with fail
            go_roundw
            case rel => exact ⟨k + 1, by omega, by go_num, fun i' hi' j' hj' => by
              by_cases h : i' = k
              · subst h; exact HK.out j' hj'
              · have q := HA.out i' (by omega) j' hj'; omega, hB⟩
            case measure => simp [intOf]; omega
      · have HN : Hid (fitsB t ph = true) := fitsB_iff.2 ⟨HM.out, fun i hi k' hk' => HA.out i (by omega) k' hk'⟩
        go_wp2_with fail
        go_ret
        exact ⟨by rw [HN.out]; rfl, hB⟩
  · have hmv : movesB ph t.length = false := by simpa using hmv
    have HN : Hid (fitsB t ph = false) := by unfold Hid fitsB; rw [hmv]; rfl
    go_enter Try.func38, Try.ntmps38
    go_wp2_with fail
    go_at_call 93
    refine (impl_validConflicts _ _ _ t hc0 hval).mono ?_; rintro e' w2 ⟨rfl, rfl⟩
    clear hval
    go_wp2_with fail
    go_at_call 94
    refine (validMoves_any _ _ _ ph t.length (by omega) hp).mono ?_; rintro e' w2 ⟨rfl, hB2⟩
    rw [hmv]
    go_wp2_with fail
    go_ret
    exact ⟨by rw [HN.out]; rfl, hB2⟩
end Go.Proofs.Ytokpgipbgkiepaa
