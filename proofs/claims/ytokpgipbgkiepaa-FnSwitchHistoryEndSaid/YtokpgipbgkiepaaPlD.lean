/- ValidClearance: the model's. -/
import Derived.Test.YtokpgipbgkiepaaPlC
import Derived.Test.YtokpgipbgkiepaaPlS
namespace Go.Proofs.Ytokpgipbgkiepaa
open Go.RowKit
set_option linter.unusedVariables false
set_option linter.unusedSimpArgs false

theorem allIn_dec (w : World) (lo : Nat) (v : Value) (xs : List Int) (a b : Int) (r : Bool) (hv : Ints w lo v xs) (h : allB xs a b = r) :
    Calls Try.prog 58 #[v, .int .i64 a, .int .i64 b] w fun e w' => e = .returned (.bool r) ∧ w = w' := by
  rw [← h]; exact allIn_any w lo v xs a b hv
theorem IntSS.rowlen {w : World} {lo : Nat} {ai : Option Addr} {n ci : Nat} {row : List Int} (h : Ints w lo (.slice ai n ci) row) : row.length = n ∧ n ≤ ci ∧ ci ≤ 9223372036854775807 := by
  obtain ⟨_, _, e, h2, h3⟩ := h.form
  simp only [Value.slice.injEq] at e
  omega

def lowOk (t : List (List Int)) (i : Nat) : Prop := rowOk t.length (t.getD i []) = true ∧ tat t i i = 0 ∧ ∀ k, k < i → (0 < tat t i k ↔ 0 < tat t k i)
theorem lowOk_of {t : List (List Int)} (h : validCl t = true) {i : Nat} (hi : i < t.length) : lowOk t i := by
  obtain ⟨_, _, h1, h2⟩ := validCl_iff.1 h
  exact ⟨h1 i hi, (symOk_iff.1 (h2 i hi i hi)).2 rfl, fun k hk => (symOk_iff.1 (h2 i hi k (by omega))).1⟩
theorem lowOk_no {t : List (List Int)} {i : Nat} (hi : i < t.length) (h : ¬ lowOk t i) : validCl t = false := by
  rw [Bool.eq_false_iff]; intro h'; exact h (lowOk_of h' hi)

set_option maxHeartbeats 4000000 in
theorem spec_validClearance (w : World) (lo : Nat) (v : Value) (t : List (List Int)) (hv : IntSS w lo v t) :
    Calls Try.prog 105 #[v] w fun e w' => e = .returned (.bool (validCl t)) ∧ Below w.heap.size w w' := by
  obtain ⟨ao, cap, rfl, hcap, hm⟩ := hv.form
  by_cases hn : 1 ≤ t.length ∧ t.length ≤ 8
  · have dn : (decide (1 ≤ (t.length : Int)) && decide ((t.length : Int) ≤ 8)) = true := by simp; omega
    obtain ⟨hn1, hn2⟩ := hn
    obtain ⟨b, off, rfl, _, hb, hc⟩ := hv.spot (by omega)
    have HC := Lib.hid hc
    clear hc hv
    go_enter Try.func105, Try.ntmps105
    go_wp2_with (go_at_call 90; with_reducible refine (inRange_dec (t.length : Int) 1 8 true _ dn).mono ?_; rintro e' w2 ⟨rfl, rfl⟩)
    go_loopw [4] (fun i wo => ∃ k : Nat, k ≤ t.length ∧ i = .int .i64 k ∧ (∀ j, j < k → lowOk t j) ∧ Below w.heap.size w wo) (fun i _ => t.length - (intOf i).toNat)
    case atStart => exact ⟨0, Nat.zero_le _, rfl, fun j hj => by omega, Below.refl _ _⟩
    case round =>
      obtain ⟨k, hk, rfl, hall, hB⟩ := hrel
      have HA := Lib.hid hall
      clear hall
      by_cases hlt : k < t.length
      · obtain ⟨ai, ci, h1w, hIw⟩ := HC.out k hlt
        have h1 := (hB.cell (p := ⟨b, off + k, none⟩) hb).trans h1w
        have hI : Ints wr lo _ _ := Rd.below hIw hB (Nat.le_refl _) (by decide)
        have hno : ¬ lowOk t k → validCl t = false := lowOk_no hlt
        obtain ⟨row, hrow⟩ : ∃ row, row = t.getD k [] := ⟨_, rfl⟩
        have hkk : tat t k k = row.getD k 0 := by rw [hrow]; rfl
        have hlo : lowOk t k ↔ (rowOk t.length row = true ∧ tat t k k = 0 ∧ ∀ q, q < k → (0 < tat t k q ↔ 0 < tat t q k)) := by rw [hrow]; exact Iff.rfl
        have hrx : ∀ i, tat t k i = row.getD i 0 := fun i => by rw [hrow]; rfl
        rw [← hrow] at h1 hI h1w hIw
        have HNO := Lib.hid hno
        have HLO := Lib.hid hlo
        have HRX := Lib.hid hrx
        obtain ⟨_, hrl1, hrl2⟩ := IntSS.rowlen hI
        clear hrow hno hkk hlo hrx
        have hk0 : (0 : Int) ≤ (k : Int) := by omega
        have hk1 : (k : Int) < (t.length : Int) := by omega
        by_cases hl : row.length = t.length
        · have l1 : ((row.length : Int) != (t.length : Int)) = false := by simp [hl]
          have l2 : (row.length != t.length) = false := by simp [hl]
          cases hal : allB row 0 5
          · have HN : Hid (validCl t = false) := HNO.out (fun h => by have := (HLO.out.1 h).1; unfold rowOk at this; rw [hal] at this; simp at this)
            clear hl
            go_wp2_with (go_at_call 58; with_reducible refine (allIn_dec _ _ _ row 0 5 false hI hal).mono ?_; rintro e' w2 ⟨rfl, rfl⟩)
            go_ret
            exact ⟨by rw [HN.out]; rfl, hB⟩
          · obtain ⟨b1, off1, rfl, _, hb1, hx⟩ := hIw.spot 0 (by omega)
            have HX := Lib.hid hx
            have hkd := (hB.cell (p := ⟨b1, off1 + k, none⟩) hb1).trans (hx k (by omega))
            obtain ⟨d, hd⟩ : ∃ d, d = row.getD k 0 := ⟨_, rfl⟩
            rw [← hd] at hkd
            have HD := Lib.hid hd
            have hkr : (k : Int) < (row.length : Int) := by omega
            have HL := Lib.hid hl
            clear hx hd hl
            by_cases hz : d = 0
            · subst hz
              have z1 : ((0 : Int) != 0) = false := by simp
              have HROK : Hid (rowOk t.length row = true) := by unfold Hid rowOk; rw [hal, HL.out]; simp
              go_wp2_with (go_at_call 58; with_reducible refine (allIn_dec _ _ _ row 0 5 true hI hal).mono ?_; rintro e' w2 ⟨rfl, rfl⟩)
              go_loopw [5] (fun i wi => ∃ q : Nat, q ≤ k ∧ i = .int .i64 q ∧ (∀ p, p < q → (0 < tat t k p ↔ 0 < tat t p k)) ∧ Below w.heap.size w wi) (fun i _ => k - (intOf i).toNat)
              case atStart => exact ⟨0, Nat.zero_le _, rfl, fun j hj => by omega, hB⟩
              case round =>
                clear hB h1 hkd hI
                obtain ⟨q, hq, rfl, hall, hB⟩ := hrel
                have HB := Lib.hid hall
                clear hall
                by_cases hqk : q < k
                · have h1 := (hB.cell (p := ⟨b, off + k, none⟩) hb).trans h1w
                  have hx1 := (hB.cell (p := ⟨b1, off1 + q, none⟩) hb1).trans (HX.out q (by have := HL.out; omega))
                  obtain ⟨ai2, ci2, h2w, hI2w⟩ := HC.out q (by omega)
                  have hqr : rowOk t.length (t.getD q []) = true := (HA.out q hqk).1
                  have hql := (rowOk_iff.1 hqr).1
                  rw [hql] at h2w hI2w
                  obtain ⟨b3, off3, rfl, _, hb3, hx3⟩ := hI2w.spot 0 (by omega)
                  have h2 := (hB.cell (p := ⟨b, off + q, none⟩) hb).trans h2w
                  have hx2 := (hB.cell (p := ⟨b3, off3 + k, none⟩) hb3).trans (hx3 k (by omega))
                  have e2 : (t.getD q []).getD k 0 = tat t q k := rfl
                  rw [e2] at hx2
                  rw [← HRX.out q] at hx1
                  obtain ⟨_, hci3, hci4⟩ := IntSS.rowlen hI2w
                  obtain ⟨x, hx⟩ : ∃ x, x = tat t k q := ⟨_, rfl⟩
                  obtain ⟨y, hy⟩ : ∃ y, y = tat t q k := ⟨_, rfl⟩
                  rw [← hx] at hx1
                  rw [← hy] at hx2
                  have HXX := Lib.hid hx
                  have HYY := Lib.hid hy
                  have hq0 : (0 : Int) ≤ (q : Int) := by omega
                  have hq1 : (q : Int) < (t.length : Int) := by omega
                  have hqr2 : (q : Int) < (row.length : Int) := by have := HL.out; omega
                  clear hx hy hx3 e2 hqr hql h2w hI2w
                  by_cases p1 : 0 < x
                  · have d1 : decide (0 < x) = true := decide_eq_true p1
                    by_cases p2 : 0 < y
                    · have d2 : decide (0 < y) = true := decide_eq_true p2
                      go_wp2_with fail
                      go_quiet (fail)
                      go_wp2
                      go_roundw
                      case rel => exact ⟨q + 1, by omega, by go_num, fun p hp => by
                        by_cases h : p = q
                        · subst h; rw [← HXX.out, ← HYY.out]; exact ⟨fun _ => p2, fun _ => p1⟩
                        · exact HB.out p (by omega), below_drewN hB _⟩
                      case measure => simp [intOf]; omega
                    · have d2 : decide (0 < y) = false := decide_eq_false p2
                      have HN : Hid (validCl t = false) := HNO.out (fun h => by have := (HLO.out.1 h).2.2 q hqk; rw [← HXX.out, ← HYY.out] at this; exact p2 (this.1 p1))
                      go_wp2_with fail
                      go_quiet (fail)
                      go_wp2
                      go_ret
                      exact ⟨by rw [HN.out]; rfl, below_drewN hB _⟩
                  · have d1 : decide (0 < x) = false := decide_eq_false p1
                    by_cases p2 : 0 < y
                    · have d2 : decide (0 < y) = true := decide_eq_true p2
                      have HN : Hid (validCl t = false) := HNO.out (fun h => by have := (HLO.out.1 h).2.2 q hqk; rw [← HXX.out, ← HYY.out] at this; exact p1 (this.2 p2))
                      go_wp2_with fail
                      go_quiet (fail)
                      go_wp2
                      go_ret
                      exact ⟨by rw [HN.out]; rfl, below_drewN hB _⟩
                    · have d2 : decide (0 < y) = false := decide_eq_false p2
                      go_wp2_with fail
                      go_quiet (fail)
                      go_wp2
                      go_roundw
                      case rel => exact ⟨q + 1, by omega, by go_num, fun p hp => by
                        by_cases h : p = q
                        · subst h; rw [← HXX.out, ← HYY.out]; exact ⟨fun h => by omega, fun h => by omega⟩
                        · exact HB.out p (by omega), below_drewN hB _⟩
                      case measure => simp [intOf]; omega
                · have HQ : Hid (∀ p, p < k → (0 < tat t k p ↔ 0 < tat t p k)) := fun p hp => HB.out p (by omega)
                  have HY : Hid (lowOk t k) := HLO.out.2 ⟨HROK.out, by rw [HRX.out k, ← HD.out], HQ.out⟩
                  clear HB HQ
                  go_wp2_with fail
                  go_roundw
                  case rel => exact ⟨k + 1, by omega, by go_num, fun j hj => by
                    by_cases h : j = k
                    · subst h; exact HY.out
                    · exact HA.out j (by omega), hB⟩
                  case measure => simp [intOf]; omega
            · have z1 : (d != 0) = true := by simpa using hz
              have HN : Hid (validCl t = false) := HNO.out (fun h => hz (by have := (HLO.out.1 h).2.1; rw [HRX.out k, ← HD.out] at this; exact this))
              go_wp2_with (go_at_call 58; with_reducible refine (allIn_dec _ _ _ row 0 5 true hI hal).mono ?_; rintro e' w2 ⟨rfl, rfl⟩)
              go_ret
              exact ⟨by rw [HN.out]; rfl, hB⟩
        · have l1 : ((row.length : Int) != (t.length : Int)) = true := by simp; omega
          have l2 : (row.length != t.length) = true := by simpa using hl
          have HN : Hid (validCl t = false) := HNO.out (fun h => by have := (rowOk_iff.1 (HLO.out.1 h).1).1; exact hl this)
          clear hl
          go_wp2_with fail
          go_ret
          exact ⟨by rw [HN.out]; rfl, hB⟩
      · have HN : Hid (validCl t = true) := validCl_half hn1 hn2 (fun i hi => HA.out i (by omega))
        go_wp2_with fail
        go_ret
        exact ⟨by rw [HN.out]; rfl, hB⟩
  · have dn : (decide (1 ≤ (t.length : Int)) && decide ((t.length : Int) ≤ 8)) = false := by simp; omega
    have HN : Hid (validCl t = false) := validCl_no (fun h => hn ⟨h.1, h.2.1⟩)
    go_enter Try.func105, Try.ntmps105
    go_wp2_with (go_at_call 90; with_reducible refine (inRange_dec (t.length : Int) 1 8 false _ dn).mono ?_; rintro e' w2 ⟨rfl, rfl⟩)
    go_ret
    exact ⟨by rw [HN.out]; rfl, Below.refl _ _⟩
end Go.Proofs.Ytokpgipbgkiepaa
