/- slices.Equal, slices.EqualFunc, GreenAt of the reference: each proved once. -/
import Derived.Test.YtokpgipbgkiepaaPlU
import Derived.Test.YtokpgipbgkiepaaPlP
import Derived.Test.YtokpgipbgkiepaaCp3
import Derived.Test.YtokpgipbgkiepaaSpoil
import Derived.IntWalk
namespace Go.Proofs.Ytokpgipbgkiepaa
open Go.RowKit
set_option linter.unusedVariables false
set_option linter.unusedSimpArgs false

theorem ints_ext {l m : List Int} (hl : l.length = m.length) (h : ∀ i, i < l.length → l.getD i 0 = m.getD i 0) : l = m := by
  apply List.ext_getElem hl
  intro i h1 h2
  have := h i h1
  simpa [List.getD_eq_getElem?_getD, h1, h2] using this

set_option maxHeartbeats 2000000 in
theorem equalSl_any (w : World) (lo lo' : Nat) (va vb : Value) (xs ys : List Int) (ha : Ints w lo va xs) (hb : Ints w lo' vb ys) :
    Calls Try.prog 114 #[va, vb] w fun e w' => e = .returned (.bool (decide (xs = ys))) ∧ Below w.heap.size w w' := by
  obtain ⟨ao, cap, rfl, hcap, hm⟩ := ha.form
  obtain ⟨ao', cap', rfl, hcap', hm'⟩ := hb.form
  have HA := Lib.hid ha
  have HB := Lib.hid hb
  clear ha hb
  by_cases hl : xs.length = ys.length
  · have t1 : ((xs.length : Int) != (ys.length : Int)) = false := by rw [hl]; simp
    have t2 : (!((xs.length : Int) == (ys.length : Int))) = false := by rw [hl]; simp
    have t3 : (xs.length == ys.length) = true := by rw [hl]; simp
    have HL := Lib.hid hl
    have hl1 : xs.length ≤ ys.length := by omega
    clear hl
    go_enter Try.func114, Try.ntmps114
    go_wp2_with fail
    go_loopw [13] (fun i wo => ∃ k : Nat, k ≤ xs.length ∧ i = .int .i64 k ∧ Hid (∀ j, j < k → xs.getD j 0 = ys.getD j 0) ∧ Below w.heap.size w wo) (fun i _ => xs.length - (intOf i).toNat)
    case atStart => exact ⟨0, Nat.zero_le _, rfl, fun j hj => absurd hj (Nat.not_lt_zero _), Below.refl _ _⟩
    case round =>
      obtain ⟨k, hk, rfl, HE, hB⟩ := hrel
      by_cases hlt : k < xs.length
      · obtain ⟨b0, off, rfl, _, hb, hc⟩ := (Rd.below HA.out hB (Nat.le_refl _) (by decide) : Ints wr lo _ xs).spot 0 (by omega)
        obtain ⟨b1, off1, rfl, _, hb1, hc1⟩ := (Rd.below HB.out hB (Nat.le_refl _) (by decide) : Ints wr lo' _ ys).spot 0 (by omega)
        have p1 := hc k hlt
        have p2 := hc1 k (by omega)
        obtain ⟨x, hx⟩ : ∃ x, x = xs.getD k 0 := ⟨_, rfl⟩
        obtain ⟨y, hy⟩ : ∃ y, y = ys.getD k 0 := ⟨_, rfl⟩
        rw [← hx] at p1
        rw [← hy] at p2
        have HX := Lib.hid hx
        have HY := Lib.hid hy
        have k0 : (0 : Int) ≤ (k : Int) := by omega
        have k1 : (k : Int) < (xs.length : Int) := by omega
        have k2 : (k : Int) < (ys.length : Int) := by omega
        clear hc hc1 hx hy
        by_cases he : x = y
        · have te : (x != y) = false := by simp [he]
          have te2 : (!(x == y)) = false := by simp [he]
          have HEQ := Lib.hid he
          clear he
          go_wp2_with fail
          go_quiet (fail)
          go_wp2
          go_roundw
          case rel => exact ⟨k + 1, by omega, by go_num, fun j hj => by
            by_cases h : j = k
            · subst h; rw [← HX.out, ← HY.out]; exact HEQ.out
            · exact HE.out j (by omega), below_drewN hB _⟩
          case measure => simp [intOf]; omega
        · have te : (x != y) = true := by simp [he]
          have te2 : (!(x == y)) = true := by simp [he]
          have HD : Hid (decide (xs = ys) = false) := decide_eq_false (fun h => he (by rw [HX.out, HY.out, h]))
          clear he
          go_wp2_with fail
          go_quiet (fail)
          go_wp2
          go_ret
          exact ⟨ret_bool HD.out.symm, below_drewN hB _⟩
      · obtain rfl : k = xs.length := by omega
        have HD : Hid (decide (xs = ys) = true) := decide_eq_true (ints_ext HL.out HE.out)
        go_wp2
        go_ret
        exact ⟨ret_bool HD.out.symm, hB⟩
  · have t1 : ((xs.length : Int) != (ys.length : Int)) = true := by simp; omega
    have t2 : (!((xs.length : Int) == (ys.length : Int))) = true := by simp; omega
    have t3 : (xs.length == ys.length) = false := beq_eq_false_iff_ne.mpr hl
    have HD : Hid (decide (xs = ys) = false) := decide_eq_false (fun h => hl (by rw [h]))
    clear hl
    go_enter Try.func114, Try.ntmps114
    go_wp2_with fail
    go_ret
    exact ⟨ret_bool HD.out.symm, Below.refl _ _⟩

set_option maxHeartbeats 2000000 in
theorem equalFunc_any (w : World) (lo lo' : Nat) (va vb : Value) (t u : List (List Int)) (ha : IntSS w lo va t) (hb : IntSS w lo' vb u) :
    Calls Try.prog 113 #[va, vb, .func (.func 114) #[] #[]] w fun e w' => e = .returned (.bool (decide (t = u))) ∧ Below w.heap.size w w' := by
  obtain ⟨ao, cap, rfl, hcap, hm⟩ := ha.form
  obtain ⟨ao', cap', rfl, hcap', hm'⟩ := hb.form
  have HA := Lib.hid ha
  have HB := Lib.hid hb
  clear ha hb
  by_cases hl : t.length = u.length
  · have t1 : ((t.length : Int) != (u.length : Int)) = false := by rw [hl]; simp
    have t2 : (!((t.length : Int) == (u.length : Int))) = false := by rw [hl]; simp
    have t3 : (t.length == u.length) = true := by rw [hl]; simp
    have HL := Lib.hid hl
    have hl1 : t.length ≤ u.length := by omega
    clear hl
    go_enter Try.func113, Try.ntmps113
    go_wp2_with fail
    go_loopw [17] (fun i wo => ∃ k : Nat, k ≤ t.length ∧ i = .int .i64 k ∧ Hid (∀ j, j < k → t.getD j [] = u.getD j []) ∧ Below w.heap.size w wo) (fun i _ => t.length - (intOf i).toNat)
    case atStart => exact ⟨0, Nat.zero_le _, rfl, fun j hj => absurd hj (Nat.not_lt_zero _), Below.refl _ _⟩
    case round =>
      obtain ⟨k, hk, rfl, HE, hB⟩ := hrel
      by_cases hlt : k < t.length
      · obtain ⟨b0, off, rfl, _, hb, hc⟩ := (HA.out.below hB (Nat.le_refl _)).spot (by omega)
        obtain ⟨b1, off1, rfl, _, hb1, hc1⟩ := (HB.out.below hB (Nat.le_refl _)).spot (by omega)
        obtain ⟨a1, c1, p1, hI1⟩ := hc k hlt
        obtain ⟨a2, c2, p2, hI2⟩ := hc1 k (by omega)
        obtain ⟨x, hx⟩ : ∃ x, x = t.getD k [] := ⟨_, rfl⟩
        obtain ⟨y, hy⟩ : ∃ y, y = u.getD k [] := ⟨_, rfl⟩
        rw [← hx] at p1 hI1
        rw [← hy] at p2 hI2
        have HX := Lib.hid hx
        have HY := Lib.hid hy
        have HI1 := Lib.hid hI1
        have HI2 := Lib.hid hI2
        have k0 : (0 : Int) ≤ (k : Int) := by omega
        have k1 : (k : Int) < (t.length : Int) := by omega
        have k2 : (k : Int) < (u.length : Int) := by omega
        clear hc hc1 hx hy hI1 hI2
        go_wp2_with fail
        refine (equalSl_any _ lo lo' _ _ x y HI1.out HI2.out).mono ?_; rintro e w2 ⟨rfl, hB2⟩
        have hT := hB.trans (hB2.mono hB.size)
        by_cases he : x = y
        · have te : decide (x = y) = true := decide_eq_true he
          have HEQ := Lib.hid he
          rw [te]
          clear he te hB hB2
          go_wp2_with fail
          go_roundw
          case rel => exact ⟨k + 1, by omega, by go_num, fun j hj => by
            by_cases h : j = k
            · subst h; rw [← HX.out, ← HY.out]; exact HEQ.out
            · exact HE.out j (by omega), hT⟩
          case measure => simp [intOf]; omega
        · have te : decide (x = y) = false := decide_eq_false he
          have HD : Hid (decide (t = u) = false) := decide_eq_false (fun h => he (by rw [HX.out, HY.out, h]))
          rw [te]
          clear he te hB hB2
          go_wp2_with fail
          go_ret
          exact ⟨ret_bool HD.out.symm, hT⟩
      · obtain rfl : k = t.length := by omega
        have HD : Hid (decide (t = u) = true) := decide_eq_true (ss_ext HL.out HE.out)
        go_wp2
        go_ret
        exact ⟨ret_bool HD.out.symm, hB⟩
  · have t1 : ((t.length : Int) != (u.length : Int)) = true := by simp; omega
    have t2 : (!((t.length : Int) == (u.length : Int))) = true := by simp; omega
    have t3 : (t.length == u.length) = false := beq_eq_false_iff_ne.mpr hl
    have HD : Hid (decide (t = u) = false) := decide_eq_false (fun h => hl (by rw [h]))
    clear hl
    go_enter Try.func113, Try.ntmps113
    go_wp2_with fail
    go_ret
    exact ⟨ret_bool HD.out.symm, Below.refl _ _⟩
end Go.Proofs.Ytokpgipbgkiepaa
