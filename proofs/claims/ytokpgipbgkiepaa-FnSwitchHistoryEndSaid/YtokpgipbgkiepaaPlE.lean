/- Conflicts and phases: the program's. -/
import Derived.Test.YtokpgipbgkiepaaPlD
import Derived.ProofKit
namespace Go.Proofs.Ytokpgipbgkiepaa
open Go.RowKit
set_option linter.unusedVariables false
set_option linter.unusedSimpArgs false

theorem Own.store {w : World} {lo : Nat} {e : TypeId} {sz n g len cap : Nat} {cs : List Value} (h : Own w lo e sz (.slice (some ⟨g, 0, none⟩) len cap) n cs) (hn : 0 < n) (i : Nat) (u : Value) :
    Own (w.setCell ⟨g, i, none⟩ u) lo e sz (.slice (some ⟨g, 0, none⟩) len cap) n (cs.set i u) ∧ w.grownBy (w.setCell ⟨g, i, none⟩ u) (some g) := by
  obtain ⟨g', e1, _, _, _, _, hset⟩ := h.parts hn
  cases e1
  exact hset i u

theorem Own.drewN {w : World} {lo : Nat} {e : TypeId} {sz : Nat} {v : Value} {n : Nat} {cs : List Value} (h : Own w lo e sz v n cs) (m : Nat) : Own (w.drewN m) lo e sz v n cs :=
  h.grown (row := none) ⟨rfl, rfl, rfl, Nat.le_refl _, fun _ _ _ => rfl⟩ (fun _ e => by cases e)

/-- A table of conflicts that belongs to valid clearance times: read by its entries. -/
def ConfR (w : World) (lo : Nat) (v : Value) (t : List (List Int)) : Prop :=
  ∃ b off cap, v = .slice (some ⟨b, off, none⟩) t.length cap ∧ t.length ≤ cap ∧ cap ≤ 9223372036854775807 ∧ lo ≤ b ∧ b < w.heap.size ∧
    ∀ a, a < t.length → ∃ b1 off1 c1, w.cell? ⟨b, off + a, none⟩ = some (.slice (some ⟨b1, off1, none⟩) t.length c1) ∧ t.length ≤ c1 ∧ c1 ≤ 9223372036854775807 ∧ lo ≤ b1 ∧ b1 < w.heap.size ∧
      ∀ c, c < t.length → w.cell? ⟨b1, off1 + c, none⟩ = some (.bool (decide (0 < tat t a c)))
theorem ConfR.below {w w' : World} {lo B : Nat} {v : Value} {t : List (List Int)} (h : ConfR w lo v t) (hb : Below B w w') (hB : w.heap.size ≤ B) : ConfR w' lo v t := by
  obtain ⟨b, off, cap, e, h1, h2, h3, h4, h5⟩ := h
  refine ⟨b, off, cap, e, h1, h2, h3, Nat.lt_of_lt_of_le h4 hb.size, fun a ha => ?_⟩
  obtain ⟨b1, off1, c1, q1, q2, q3, q4, q5, q6⟩ := h5 a ha
  exact ⟨b1, off1, c1, (hb.cell (p := ⟨b, off + a, none⟩) (by show b < B; omega)).trans q1, q2, q3, q4, Nat.lt_of_lt_of_le q5 hb.size, fun c hc => (hb.cell (p := ⟨b1, off1 + c, none⟩) (by show b1 < B; omega)).trans (q6 c hc)⟩

set_option maxHeartbeats 4000000 in
theorem impl_validConflicts (w : World) (lo : Nat) (v : Value) (t : List (List Int)) (hv : ConfR w lo v t) (hval : validCl t = true) :
    Calls Try.prog 93 #[v] w fun e w' => e = .returned (.bool true) ∧ w = w' := by
  obtain ⟨b, off, cap, rfl, hcap, hm, _, hb, hc⟩ := hv
  obtain ⟨hn1, hn2, _, hsym⟩ := validCl_iff.1 hval
  have dn : (decide (1 ≤ (t.length : Int)) && decide ((t.length : Int) ≤ 8)) = true := by simp; omega
  have HC := Lib.hid hc
  have HS : Hid (∀ a, a < t.length → ∀ c, c < t.length → (0 < tat t a c ↔ 0 < tat t c a) ∧ (a = c → tat t a c = 0)) := fun a ha c hc => symOk_iff.1 (hsym a ha c hc)
  have l2 : (t.length != t.length) = false := by simp
  have l1 : ((t.length : Int) != (t.length : Int)) = false := by simp
  clear hc hval hsym
  go_enter Try.func93, Try.ntmps93
  go_wp2_with (go_at_call 63; with_reducible refine (within_dec (t.length : Int) 1 8 true _ dn).mono ?_; rintro e' w2 ⟨rfl, rfl⟩)
  go_loop [15] (fun i => ∃ k : Nat, k ≤ t.length ∧ i = .int .i64 k) (fun i => t.length - (intOf i).toNat)
  case atStart => exact ⟨0, Nat.zero_le _, rfl⟩
  case round =>
    obtain ⟨k, hk, rfl⟩ := hrel
    by_cases hlt : k < t.length
    · obtain ⟨b1, off1, c1, h1, q1, q2, _, _, _⟩ := HC.out k hlt
      go_wp2_with fail
      go_round
      case rel => exact ⟨k + 1, by omega, by go_num⟩
      case measure => simp [intOf]; omega
    · go_wp2_with fail
      go_loop [27] (fun i => ∃ a : Nat, a ≤ t.length ∧ i = .int .i64 a) (fun i => t.length - (intOf i).toNat)
      case atStart => exact ⟨0, Nat.zero_le _, rfl⟩
      case round =>
        obtain ⟨a, ha, rfl⟩ := hrel
        by_cases hlta : a < t.length
        · obtain ⟨b1, off1, c1, h1, q1, q2, _, _, hx⟩ := HC.out a hlta
          have HX := Lib.hid hx
          clear hx
          go_wp2_with fail
          go_loop [34] (fun i => ∃ c : Nat, c ≤ t.length ∧ i = .int .i64 c) (fun i => t.length - (intOf i).toNat)
          case atStart => exact ⟨0, Nat.zero_le _, rfl⟩
          case round =>
            obtain ⟨c, hcl, rfl⟩ := hrel
            by_cases hltc : c < t.length
            · have s1 := HX.out c hltc
              obtain ⟨b2, off2, c2, h2, q3, q4, _, _, hx2⟩ := HC.out c hltc
              have s2 := hx2 a hlta
              obtain ⟨hs1, hs2⟩ := HS.out a hlta c hltc
              obtain ⟨x, hx⟩ : ∃ x, x = tat t a c := ⟨_, rfl⟩
              obtain ⟨y, hy⟩ : ∃ y, y = tat t c a := ⟨_, rfl⟩
              rw [← hx] at s1 hs1 hs2
              rw [← hy] at s2 hs1
              have hxy : decide (0 < y) = decide (0 < x) := decide_eq_decide.2 hs1.symm
              rw [hxy] at s2
              clear hx hy hx2 hs1 hxy
              by_cases q5 : a = c
              · have hx0 := hs2 q5
                have d0 : decide (0 < x) = false := decide_eq_false (by omega)
                rw [d0] at s1 s2
                have d3 : (a == c) = true := by simp [q5]
                have d3i : ((a : Int) == (c : Int)) = true := by simp [q5]
                clear hx0 d0 hs2 q5
                go_wp2_with fail
                go_round
                case rel => exact ⟨c + 1, by omega, by go_num⟩
                case measure => simp [intOf]; omega
              · have d3 : (a == c) = false := beq_eq_false_iff_ne.mpr q5
                have d3i : ((a : Int) == (c : Int)) = false := beq_eq_false_iff_ne.mpr (by omega)
                obtain ⟨bx, hbx⟩ : ∃ bx, bx = decide (0 < x) := ⟨_, rfl⟩
                rw [← hbx] at s1 s2
                have d5 : (bx != bx) = false := by simp
                clear hbx hs2
                go_wp2_with fail
                go_round
                case rel => exact ⟨c + 1, by omega, by go_num⟩
                case measure => simp [intOf]; omega
            · go_wp2_with fail
              go_round
              case rel => exact ⟨a + 1, by omega, by go_num⟩
              case measure => simp [intOf]; omega
        · go_wp2_with fail
          go_ret
          exact ⟨rfl, rfl⟩
end Go.Proofs.Ytokpgipbgkiepaa
