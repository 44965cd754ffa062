/- validStages, FormatStages: the reference's. -/
import Derived.Test.YtpaioaknppgggaaGreatDoorTx6
namespace Go.Proofs.YtpaioaknppgggaaGreatDoor
open Go.RowKit
set_option linter.unusedVariables false
set_option linter.unusedSimpArgs false

theorem ret_H {k : IntKind} {a b : Int} (h : Hid (a = b)) : Ending.returned (.int k b) = .returned (.int k a) := by rw [h.out]
theorem ret_B {a b : Bool} (h : Hid (a = b)) : Ending.returned (.bool b) = .returned (.bool a) := by rw [h.out]
theorem asc_d (w : World) (lo : Nat) (v : Value) (xs : List Int) (r : Bool) (hv : Ints w lo v xs) (h : movesB xs 8 = r) :
    Calls Tryz.prog 94 #[v, .int .i64 0, .int .i64 7] w fun e w' => e = .returned (.bool r) ∧ Below w.heap.size w w' := by
  have e1 : movesB xs 8 = (ascB xs && allB xs 0 7) := by unfold movesB; rw [Bool.and_comm]; rfl
  rw [← h, e1]; exact ascending_any w lo v xs 0 7 hv
theorem inR_d (a b c : Int) (v : Bool) (w : World) (h : inR a b c = v) :
    Calls Tryz.prog 61 #[.int .i64 a, .int .i64 b, .int .i64 c] w fun e w' => e = .returned (.bool v) ∧ w = w' := by
  rw [← h]; exact inRange_any a b c w
theorem okSt_no {ss : List Stg} {k : Nat} (hk : k < ss.length) (h : stOkT (ss.getD k s0) = false) : okSt ss = false := by
  rw [Bool.eq_false_iff]; intro h'; rw [(okSt_iff.1 h').1 k hk] at h; cases h
theorem okSt_len {ss : List Stg} (h : ∀ i, i < ss.length → stOkT (ss.getD i s0) = true) : okSt ss = inR ss.length 1 5 := by
  rw [Bool.eq_iff_iff, okSt_iff, inR_iff]
  constructor
  · rintro ⟨_, h1, h2⟩; omega
  · rintro ⟨h1, h2⟩; exact ⟨h, by omega, by omega⟩

set_option maxHeartbeats 8000000 in
theorem spec_validStages (w : World) (lo : Nat) (v : Value) (ss : List Stg) (hv : StgS w lo v ss) :
    Calls Tryz.prog 67 #[v] w fun e w' => e = .returned (.bool (okSt ss)) ∧ Below w.heap.size w w' := by
  obtain ⟨ao, cap, rfl, hcap, hm⟩ := hv.form
  have HV := Lib.hid hv
  clear hv
  go_enter Tryz.func67, Tryz.ntmps67
  go_wp2_with fail
  go_loopw [3] (fun i wo => ∃ k : Nat, k ≤ ss.length ∧ i = .int .i64 k ∧ Hid (∀ j, j < k → stOkT (ss.getD j s0) = true) ∧ Below w.heap.size w wo) (fun i _ => ss.length - (intOf i).toNat)
  case atStart => exact ⟨0, Nat.zero_le _, rfl, fun j hj => by omega, Below.refl _ _⟩
  case round =>
    obtain ⟨k, hk, rfl, HA, hB⟩ := hrel
    by_cases hlt : k < ss.length
    · obtain ⟨b, off, rfl, _, hb, hx⟩ := HV.out.spot (by omega)
      obtain ⟨g1, ai, ci, g0, hIj⟩ := hx k hlt
      clear hx
      have hno := okSt_no (ss := ss) (k := k) hlt
      have hso : stOkT (ss.getD k s0) = (movesB (ss.getD k s0).ph 8 && inR (ss.getD k s0).gr 5 40) := rfl
      obtain ⟨s, hs⟩ : ∃ s, s = ss.getD k s0 := ⟨_, rfl⟩
      have HS := Lib.hid hs
      rw [← hs] at g0 g1 hIj hno hso
      clear hs
      obtain ⟨ph, gr⟩ := s
      simp only at g0 g1 hIj hso
      have c0 := (hB.cell (p := ⟨b, off + k * 2, none⟩) hb).trans g0
      have hIr := Rd.below hIj hB (Nat.le_refl _) (by decide)
      have hkl : (k : Int) < (ss.length : Int) := by omega
      clear g0
      cases hmv : movesB ph 8
      · have HN : Hid (okSt ss = false) := hno (by rw [hso, hmv]; rfl)
        clear hno hso
        go_wp2_with (go_at_call 94; refine (asc_d _ lo _ ph false hIr hmv).mono ?_; rintro e w2 ⟨rfl, hB2⟩; clear hmv)
        go_ret
        exact ⟨ret_B HN, hB.trans (hB2.mono hB.size)⟩
      · cases hin : inR gr 5 40
        · have HN : Hid (okSt ss = false) := hno (by rw [hso, hmv, hin]; rfl)
          clear hno hso
          go_wp2_with (first
            | (go_at_call 94; refine (asc_d _ lo _ ph true hIr hmv).mono ?_; rintro e w2 ⟨rfl, hB2⟩; clear hmv; have hB3 := hB.trans (hB2.mono hB.size); have c1 := (hB3.cell (p := ⟨b, off + k * 2 + 1, none⟩) hb).trans g1)
            | (go_at_call 61; refine (inR_d gr 5 40 false _ hin).mono ?_; rintro e w4 ⟨rfl, rfl⟩; clear hin))
          go_ret
          exact ⟨ret_B HN, hB3⟩
        · have HY : Hid (stOkT (⟨ph, gr⟩ : Stg) = true) := by unfold Hid; rw [hso, hmv, hin]; rfl
          clear hno hso
          go_wp2_with (first
            | (go_at_call 94; refine (asc_d _ lo _ ph true hIr hmv).mono ?_; rintro e w2 ⟨rfl, hB2⟩; clear hmv; have hB3 := hB.trans (hB2.mono hB.size); have c1 := (hB3.cell (p := ⟨b, off + k * 2 + 1, none⟩) hb).trans g1)
            | (go_at_call 61; refine (inR_d gr 5 40 true _ hin).mono ?_; rintro e w4 ⟨rfl, rfl⟩; clear hin))
          go_roundw
          case rel => exact ⟨k + 1, by omega, by go_num, fun j hj => by
              by_cases e : j = k
              · subst e; rw [← HS.out]; exact HY.out
              · exact HA.out j (by omega), hB3⟩
          case measure => (simp only [intOf]; omega)
    · have HN : Hid (okSt ss = inR ss.length 1 5) := okSt_len fun j hj => HA.out j (by omega)
      obtain ⟨r, hr⟩ : ∃ r, r = inR (ss.length : Int) 1 5 := ⟨_, rfl⟩
      rw [← hr] at HN
      clear HA
      go_wp2_with (go_at_call 61; refine (inR_d _ 1 5 r _ hr.symm).mono ?_; rintro e w4 ⟨rfl, rfl⟩; clear hr)
      go_ret
      exact ⟨ret_B HN, hB⟩

theorem spec_format (w : World) (lo : Nat) (v : Value) (ss : List Stg) (hv : StgS w lo v ss) :
    Calls Tryz.prog 48 #[v] w fun e w' => e = .returned (.string ⟨(fmtO ss).toArray⟩) ∧ Below w.heap.size w w' := by
  cases hok : okSt ss
  · have HN : Hid (fmtO ss = []) := by unfold Hid fmtO; rw [hok]; rfl
    go_enter Tryz.func48, Tryz.ntmps48
    go_wp2_with (go_at_call 67; refine (spec_validStages _ lo _ ss hv).mono ?_; rintro e w2 ⟨rfl, hB2⟩; rw [hok]; clear hok)
    go_ret
    exact ⟨by rw [HN.out]; rfl, hB2⟩
  · have HN : Hid (fmtO ss = txt ss ss.length) := by unfold Hid fmtO; rw [if_pos hok]
    have HK := Lib.hid hok
    go_enter Tryz.func48, Tryz.ntmps48
    go_wp2_with (first
      | (go_at_call 67; refine (spec_validStages _ lo _ ss hv).mono ?_; rintro e w2 ⟨rfl, hB2⟩; rw [hok]; clear hok; have hv2 := hv.below hB2 (Nat.le_refl _); clear hv)
      | (go_at_call 68; refine (spec_formatStages _ lo _ ss hv2 HK.out).mono ?_; rintro e w3 ⟨rfl, hB3⟩))
    go_ret
    exact ⟨by rw [HN.out]; rfl, hB2.trans (hB3.mono hB2.size)⟩
end Go.Proofs.YtpaioaknppgggaaGreatDoor
