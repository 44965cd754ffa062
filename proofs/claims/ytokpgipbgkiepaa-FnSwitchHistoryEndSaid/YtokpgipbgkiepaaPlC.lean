/- ValidClearance: the program's. -/
import Derived.Test.YtokpgipbgkiepaaNest
import Derived.Test.YtokpgipbgkiepaaSmall
import Derived.Outline
namespace Go.Proofs.Ytokpgipbgkiepaa
open Go.RowKit
set_option linter.unusedVariables false
set_option linter.unusedSimpArgs false

theorem inRange_dec (a b c : Int) (v : Bool) (w : World) (h : (decide (b ≤ a) && decide (a ≤ c)) = v) :
    Calls Try.prog 90 #[.int .i64 a, .int .i64 b, .int .i64 c] w fun e w' => e = .returned (.bool v) ∧ w = w' := by
  rw [← h]; exact inRange_any a b c w
theorem within_dec (a b c : Int) (v : Bool) (w : World) (h : (decide (b ≤ a) && decide (a ≤ c)) = v) :
    Calls Try.prog 63 #[.int .i64 a, .int .i64 b, .int .i64 c] w fun e w' => e = .returned (.bool v) ∧ w = w' := by
  rw [← h]; exact within_any a b c w
theorem allWithin_dec (w : World) (lo : Nat) (v : Value) (xs : List Int) (a b : Int) (r : Bool) (hv : Ints w lo v xs) (h : allB xs a b = r) :
    Calls Try.prog 55 #[v, .int .i64 a, .int .i64 b] w fun e w' => e = .returned (.bool r) ∧ w = w' := by
  rw [← h]; exact allWithin_any w lo v xs a b hv

set_option maxHeartbeats 4000000 in
theorem impl_validClearance (w : World) (lo : Nat) (v : Value) (t : List (List Int)) (hv : IntSS w lo v t) :
    Calls Try.prog 62 #[v] w fun e w' => e = .returned (.bool (validCl t)) ∧ w = w' := by
  obtain ⟨ao, cap, rfl, hcap, hm⟩ := hv.form
  by_cases hn : 1 ≤ t.length ∧ t.length ≤ 8
  · have dn : (decide (1 ≤ (t.length : Int)) && decide ((t.length : Int) ≤ 8)) = true := by simp; omega
    obtain ⟨hn1, hn2⟩ := hn
    obtain ⟨b, off, rfl, _, hb, hc⟩ := hv.spot (by omega)
    have HC := Lib.hid hc
    clear hc hv
    go_enter Try.func62, Try.ntmps62
    go_wp2_with (go_at_call 63; with_reducible refine (within_dec (t.length : Int) 1 8 true _ dn).mono ?_; rintro e' w2 ⟨rfl, rfl⟩)
    go_loop [15] (fun i => ∃ k : Nat, k ≤ t.length ∧ i = .int .i64 k ∧ ∀ j, j < k → rowOk t.length (t.getD j []) = true) (fun i => t.length - (intOf i).toNat)
    case atStart => exact ⟨0, Nat.zero_le _, rfl, fun j hj => by omega⟩
    case round =>
      obtain ⟨k, hk, rfl, hall⟩ := hrel
      have HA := Lib.hid hall
      clear hall
      by_cases hlt : k < t.length
      · obtain ⟨ai, ci, h1, hI⟩ := HC.out k hlt
        have hno : rowOk t.length (t.getD k []) = false → validCl t = false := fun h => validCl_no fun h' => by rw [h'.2.2.1 k hlt] at h; cases h
        obtain ⟨row, hrow⟩ : ∃ row, row = t.getD k [] := ⟨_, rfl⟩
        rw [← hrow] at h1 hI hno
        have HR := Lib.hid hrow
        have HNO := Lib.hid hno
        clear hrow hno
        have hrl : row.length ≤ ci ∧ ci ≤ 9223372036854775807 := by obtain ⟨_, _, e, h2, h3⟩ := hI.form; cases e; exact ⟨h2, h3⟩
        obtain ⟨hrl1, hrl2⟩ := hrl
        by_cases hl : row.length = t.length
        · have l1 : ((row.length : Int) != (t.length : Int)) = false := by simp [hl]
          have l2 : (row.length != t.length) = false := by simp [hl]
          cases hal : allB row 0 5
          · have HN : Hid (validCl t = false) := HNO.out (by unfold rowOk; rw [hal]; simp)
            have HL := Lib.hid hl
            clear hl
            go_wp2_with (go_at_call 55; with_reducible refine (allWithin_dec _ _ _ row 0 5 false hI hal).mono ?_; rintro e' w2 ⟨rfl, rfl⟩)
            go_ret
            exact ⟨by rw [HN.out]; rfl, rfl⟩
          · have HY : Hid (rowOk t.length row = true) := by unfold Hid rowOk; rw [hal, hl]; simp
            have HL := Lib.hid hl
            clear hl
            go_wp2_with (go_at_call 55; with_reducible refine (allWithin_dec _ _ _ row 0 5 true hI hal).mono ?_; rintro e' w2 ⟨rfl, rfl⟩)
            go_round
            case rel => exact ⟨k + 1, by omega, by go_num, fun j hj => by
              by_cases h : j = k
              · subst h; rw [← HR.out]; exact HY.out
              · exact HA.out j (by omega)⟩
            case measure => simp [intOf]; omega
        · have l1 : ((row.length : Int) != (t.length : Int)) = true := by simp; omega
          have l2 : (row.length != t.length) = true := by simpa using hl
          have HN : Hid (validCl t = false) := HNO.out (by unfold rowOk; simp [hl])
          clear hl
          go_wp2_with fail
          go_ret
          exact ⟨by rw [HN.out]; rfl, rfl⟩
      · have HROW : Hid (∀ j, j < t.length → rowOk t.length (t.getD j []) = true) := fun j hj => HA.out j (by omega)
        clear HA
        go_wp2_with fail
        go_loop [32] (fun i => ∃ a : Nat, a ≤ t.length ∧ i = .int .i64 a ∧ ∀ a', a' < a → ∀ b', b' < t.length → symOk t a' b' = true) (fun i => t.length - (intOf i).toNat)
        case atStart => exact ⟨0, Nat.zero_le _, rfl, fun j hj => by omega⟩
        case round =>
          obtain ⟨a, ha, rfl, hall⟩ := hrel
          have HA := Lib.hid hall
          clear hall
          by_cases hlta : a < t.length
          · obtain ⟨ai, ci, h1, hI⟩ := HC.out a hlta
            have hrl := (rowOk_iff.1 (HROW.out a hlta)).1
            rw [hrl] at h1 hI
            obtain ⟨b1, off1, rfl, _, hb1, hx⟩ := hI.spot 0 (by omega)
            have hci : t.length ≤ ci ∧ ci ≤ 9223372036854775807 := by
              obtain ⟨_, _, e, h2, h3⟩ := hI.form
              simp only [Value.slice.injEq] at e
              omega
            obtain ⟨hci1, hci2⟩ := hci
            have HX : Hid (∀ i, i < t.length → w.cell? ⟨b1, off1 + i, none⟩ = some (.int .i64 (tat t a i))) := fun i hi => hx i (by omega)
            clear hx hI
            go_wp2_with fail
            go_loop [39] (fun i => ∃ c : Nat, c ≤ t.length ∧ i = .int .i64 c ∧ ∀ b', b' < c → symOk t a b' = true) (fun i => t.length - (intOf i).toNat)
            case atStart => exact ⟨0, Nat.zero_le _, rfl, fun j hj => by omega⟩
            case round =>
              obtain ⟨c, hcl, rfl, hall⟩ := hrel
              have HB := Lib.hid hall
              clear hall
              by_cases hltc : c < t.length
              · have s1 := HX.out c hltc
                obtain ⟨ai2, ci2, h2, hI2⟩ := HC.out c hltc
                have hrl2 := (rowOk_iff.1 (HROW.out c hltc)).1
                have hr0 := (rowOk_iff.1 (HROW.out a hlta)).2 c (by omega)
                rw [hrl2] at h2 hI2
                obtain ⟨b3, off3, rfl, _, hb3, hx2⟩ := hI2.spot 0 (by omega)
                have hci2 : t.length ≤ ci2 ∧ ci2 ≤ 9223372036854775807 := by
                  obtain ⟨_, _, e, q2, q3⟩ := hI2.form
                  simp only [Value.slice.injEq] at e
                  omega
                obtain ⟨hci3, hci4⟩ := hci2
                have s2 := hx2 a (by omega)
                have hiff := symOk_iff (t := t) (a := a) (b := c)
                have hno : symOk t a c = false → validCl t = false := fun h => validCl_no fun h' => by rw [h'.2.2.2 a hlta c hltc] at h; cases h
                have e1 : (t.getD a []).getD c 0 = tat t a c := rfl
                have e2 : (t.getD c []).getD a 0 = tat t c a := rfl
                rw [e1] at hr0
                rw [e2] at s2
                obtain ⟨x, hx⟩ : ∃ x, x = tat t a c := ⟨_, rfl⟩
                obtain ⟨y, hy⟩ : ∃ y, y = tat t c a := ⟨_, rfl⟩
                rw [← hx] at s1 hiff hr0
                rw [← hy] at s2 hiff
                have HI := Lib.hid hiff
                have HNO := Lib.hid hno
                clear hx hy hiff hno e1 e2 hx2 hI2 hrl2
                by_cases q1 : 0 < x
                · have d1 : decide (0 < x) = true := decide_eq_true q1
                  by_cases q2 : 0 < y
                  · have d2 : decide (0 < y) = true := decide_eq_true q2
                    by_cases q3 : a = c
                    · have d3 : (a == c) = true := by simp [q3]
                      have d3i : ((a : Int) == (c : Int)) = true := by simp [q3]
                      have d4 : (x != 0) = true := by simp; omega
                      have HN : Hid (validCl t = false) := HNO.out (by rw [Bool.eq_false_iff]; intro h; have h := HI.out.1 h; have := h.2 q3; omega)
                      clear HI HNO q3
                      go_wp2_with fail
                      go_ret
                      exact ⟨by rw [HN.out]; rfl, rfl⟩
                    · have d3 : (a == c) = false := beq_eq_false_iff_ne.mpr q3
                      have d3i : ((a : Int) == (c : Int)) = false := beq_eq_false_iff_ne.mpr (by omega)
                      have HY : Hid (symOk t a c = true) := HI.out.2 ⟨⟨fun _ => q2, fun _ => q1⟩, fun e => absurd e q3⟩
                      clear HI HNO
                      go_wp2_with fail
                      go_round
                      case rel => exact ⟨c + 1, by omega, by go_num, fun j hj => by
                        by_cases h : j = c
                        · subst h; exact HY.out
                        · exact HB.out j (by omega)⟩
                      case measure => simp [intOf]; omega
                  · have d2 : decide (0 < y) = false := decide_eq_false q2
                    have HN : Hid (validCl t = false) := HNO.out (by rw [Bool.eq_false_iff]; intro h; have h := HI.out.1 h; exact q2 (h.1.1 q1))
                    clear HI HNO
                    go_wp2_with fail
                    go_ret
                    exact ⟨by rw [HN.out]; rfl, rfl⟩
                · have d1 : decide (0 < x) = false := decide_eq_false q1
                  by_cases q2 : 0 < y
                  · have d2 : decide (0 < y) = true := decide_eq_true q2
                    have HN : Hid (validCl t = false) := HNO.out (by rw [Bool.eq_false_iff]; intro h; have h := HI.out.1 h; exact q1 (h.1.2 q2))
                    clear HI HNO
                    go_wp2_with fail
                    go_ret
                    exact ⟨by rw [HN.out]; rfl, rfl⟩
                  · have d2 : decide (0 < y) = false := decide_eq_false q2
                    obtain rfl : x = 0 := by omega
                    have d4 : ((0 : Int) != 0) = false := by simp
                    by_cases q3 : a = c
                    · have d3 : (a == c) = true := by simp [q3]
                      have d3i : ((a : Int) == (c : Int)) = true := by simp [q3]
                      have HY : Hid (symOk t a c = true) := HI.out.2 ⟨⟨fun h => absurd h q1, fun h => absurd h q2⟩, fun _ => rfl⟩
                      clear HI HNO q3
                      go_wp2_with fail
                      go_round
                      case rel => exact ⟨c + 1, by omega, by go_num, fun j hj => by
                        by_cases h : j = c
                        · subst h; exact HY.out
                        · exact HB.out j (by omega)⟩
                      case measure => simp [intOf]; omega
                    · have d3 : (a == c) = false := beq_eq_false_iff_ne.mpr q3
                      have d3i : ((a : Int) == (c : Int)) = false := beq_eq_false_iff_ne.mpr (by omega)
                      have HY : Hid (symOk t a c = true) := HI.out.2 ⟨⟨fun h => absurd h q1, fun h => absurd h q2⟩, fun _ => rfl⟩
                      clear HI HNO
                      go_wp2_with fail
                      go_round
                      case rel => exact ⟨c + 1, by omega, by go_num, fun j hj => by
                        by_cases h : j = c
                        · subst h; exact HY.out
                        · exact HB.out j (by omega)⟩
                      case measure => simp [intOf]; omega
              · have HB2 : Hid (∀ b', b' < t.length → symOk t a b' = true) := fun b' hb' => HB.out b' (by omega)
                clear HB
                go_wp2_with fail
                go_round
                case rel => exact ⟨a + 1, by omega, by go_num, fun j hj b' hb' => by
                  by_cases h : j = a
                  · subst h; exact HB2.out b' hb'
                  · exact HA.out j (by omega) b' hb'⟩
                case measure => simp [intOf]; omega
          · have HN : Hid (validCl t = true) := validCl_iff.2 ⟨hn1, hn2, HROW.out, fun a' ha' b' hb' => HA.out a' (by omega) b' hb'⟩
            go_wp2_with fail
            go_ret
            exact ⟨by rw [HN.out]; rfl, rfl⟩
  · have dn : (decide (1 ≤ (t.length : Int)) && decide ((t.length : Int) ≤ 8)) = false := by simp; omega
    have HN : Hid (validCl t = false) := validCl_no (fun h => hn ⟨h.1, h.2.1⟩)
    go_enter Try.func62, Try.ntmps62
    go_wp2_with (go_at_call 63; with_reducible refine (within_dec (t.length : Int) 1 8 false _ dn).mono ?_; rintro e' w2 ⟨rfl, rfl⟩)
    go_ret
    exact ⟨by rw [HN.out]; rfl, rfl⟩
end Go.Proofs.Ytokpgipbgkiepaa
