/- Streets in memory; (Street).valid, (Street).accepts: the program's. -/
import Derived.Test.YtbojkhmlfflakaaBo3
import Derived.Test.YtbojkhmlfflakaaNest
import Derived.Test.YtbojkhmlfflakaaSmall
import Derived.Test.YtbojkhmlfflakaaAll
import Derived.Outline
namespace Go.Proofs.Ytbojkhmlfflakaa
open Go.RowKit
set_option linter.unusedVariables false
set_option linter.unusedSimpArgs false

theorem within_d (a b c : Int) (v : Bool) (w : World) (h : inR a b c = v) :
    Calls Try.prog 24 #[.int .i64 a, .int .i64 b, .int .i64 c] w fun e w' => e = .returned (.bool v) ∧ w = w' := by
  rw [← h]; exact within_any a b c w
theorem inRange_d (a b c : Int) (v : Bool) (w : World) (h : inR a b c = v) :
    Calls Try.prog 26 #[.int .i64 a, .int .i64 b, .int .i64 c] w fun e w' => e = .returned (.bool v) ∧ w = w' := by
  rw [← h]; exact inRange_any a b c w
theorem allWithin_d (w : World) (lo : Nat) (v : Value) (xs : List Int) (a b : Int) (r : Bool) (hv : Ints w lo v xs) (h : allB xs a b = r) :
    Calls Try.prog 25 #[v, .int .i64 a, .int .i64 b] w fun e w' => e = .returned (.bool r) ∧ w = w' := by
  rw [← h]; exact allWithin_any w lo v xs a b hv
theorem allIn_d (w : World) (lo : Nat) (v : Value) (xs : List Int) (a b : Int) (r : Bool) (hv : Ints w lo v xs) (h : allB xs a b = r) :
    Calls Try.prog 27 #[v, .int .i64 a, .int .i64 b] w fun e w' => e = .returned (.bool r) ∧ w = w' := by
  rw [← h]; exact allIn_any w lo v xs a b hv

def StrR (w : World) (lo : Nat) (v : Value) (s : Str) : Prop := ∃ vg vt, v = .agg #[.int .i64 s.cy, vg, vt] ∧ Ints w lo vg s.gr ∧ Ints w lo vt s.tr
theorem StrR.mono {w : World} {lo lo' : Nat} {v : Value} {s : Str} (h : StrR w lo v s) (hl : lo' ≤ lo) : StrR w lo' v s := by
  obtain ⟨vg, vt, e, h1, h2⟩ := h; exact ⟨vg, vt, e, Rd.mono h1 hl, Rd.mono h2 hl⟩
theorem StrR.below {w w' : World} {lo B : Nat} {v : Value} {s : Str} (h : StrR w lo v s) (hb : Below B w w') (hB : w.heap.size ≤ B) : StrR w' lo v s := by
  obtain ⟨vg, vt, e, h1, h2⟩ := h; exact ⟨vg, vt, e, Rd.below h1 hb hB (by decide), Rd.below h2 hb hB (by decide)⟩
/-- The three cells of a street in a box of its own. -/
theorem str_box (w : World) (a b c : Value) : ∃ w0, w0 = w.alloc (.cells #[a, b, c] 25) ∧ Below w.heap.size w w0 ∧ w0.cell? ⟨w.heap.size, 0, none⟩ = some a ∧ w0.cell? ⟨w.heap.size, 1, none⟩ = some b ∧ w0.cell? ⟨w.heap.size, 2, none⟩ = some c ∧ w.heap.size < w0.heap.size := by
  refine ⟨_, rfl, (Below.refl _ _).alloc (Nat.le_refl _) _, ?_, ?_, ?_, by simp⟩
  · rw [cell_of_row _ w.heap.size 0 #[a, b, c] 25 (0, 0) (heap_alloc_new w _)]; simp
  · rw [cell_of_row _ w.heap.size 1 #[a, b, c] 25 (0, 0) (heap_alloc_new w _)]; simp
  · rw [cell_of_row _ w.heap.size 2 #[a, b, c] 25 (0, 0) (heap_alloc_new w _)]; simp
theorem ret_H {k : IntKind} {a b : Int} (h : Hid (a = b)) : Ending.returned (.int k b) = .returned (.int k a) := by rw [h.out]
theorem ret_B {a b : Bool} (h : Hid (a = b)) : Ending.returned (.bool b) = .returned (.bool a) := by rw [h.out]
theorem lenv_no {s : Str} (h : ¬ s.tr.length + 1 = s.gr.length) : validS s = false := by
  rw [Bool.eq_false_iff]; intro h'; exact h (validS_iff.1 h').2.2.1

set_option maxHeartbeats 4000000 in
theorem str_valid (w : World) (lo : Nat) (v : Value) (s : Str) (hv : StrR w lo v s) :
    Calls Try.prog 12 #[v] w fun e w' => e = .returned (.bool (validS s)) ∧ Below w.heap.size w w' := by
  obtain ⟨vg, vt, rfl, hg, ht⟩ := hv
  obtain ⟨ag, cg, rfl, hcg, hmg⟩ := Rd.form hg
  obtain ⟨at', ct, rfl, hct, hmt⟩ := Rd.form ht
  obtain ⟨w0, hw0, hB0, x0, x1, x2, hz0⟩ := str_box w (.int .i64 s.cy) (.slice ag s.gr.length cg) (.slice at' s.tr.length ct)
  have hg0 : Ints w0 lo (.slice ag s.gr.length cg) s.gr := Rd.below hg hB0 (Nat.le_refl _) (by decide)
  have ht0 : Ints w0 lo (.slice at' s.tr.length ct) s.tr := Rd.below ht hB0 (Nat.le_refl _) (by decide)
  have HB0 := Lib.hid hB0
  clear hg ht hB0
  have wr1 : IntKind.i64.wrap ((s.gr.length : Int) - 1) = (s.gr.length : Int) - 1 := IntWalk.i64_in _ (by omega)
  cases h1 : inR s.cy 1 30
  · have HN : Hid (validS s = false) := by unfold Hid validS; rw [h1]; rfl
    go_enter Try.func12, Try.ntmps12
    go_wp2_with fail
    rw [← hw0]
    clear hw0
    refine (within_d s.cy 1 30 false _ h1).mono ?_; rintro e' w2 ⟨rfl, rfl⟩
    clear h1
    go_wp2_with fail
    go_ret
    exact ⟨ret_B HN, HB0.out⟩
  cases h2 : inR s.gr.length 1 4
  · have HN : Hid (validS s = false) := by unfold Hid validS; rw [h1, h2]; rfl
    go_enter Try.func12, Try.ntmps12
    go_wp2_with fail
    rw [← hw0]
    clear hw0
    refine (within_d s.cy 1 30 true _ h1).mono ?_; rintro e' w2 ⟨rfl, rfl⟩
    clear h1
    go_wp2_with (go_at_call 24; with_reducible refine (within_d (s.gr.length : Int) 1 4 false _ h2).mono ?_; rintro e' w2 ⟨rfl, rfl⟩; clear h2)
    go_ret
    exact ⟨ret_B HN, HB0.out⟩
  by_cases h3 : s.tr.length + 1 = s.gr.length
  · have h2' := inR_iff.1 h2
    have l1 : ((s.tr.length : Int) != (s.gr.length : Int) - 1) = false := by simp; omega
    have l2 : decide ((s.tr.length : Int) = (s.gr.length : Int) - 1) = true := by simp; omega
    have hv0 : validS s = (allB s.gr 0 s.cy && allB s.tr 0 60) := by unfold validS; rw [h1, h2, l2]; rfl
    clear h3 h2' l2
    cases h4 : allB s.gr 0 s.cy
    · have HN : Hid (validS s = false) := by rw [h4] at hv0; exact hv0
      clear hv0
      go_enter Try.func12, Try.ntmps12
      go_wp2_with fail
      rw [← hw0]
      clear hw0
      refine (within_d s.cy 1 30 true _ h1).mono ?_; rintro e' w2 ⟨rfl, rfl⟩
      clear h1
      go_wp2_with (first | (go_at_call 24; with_reducible refine (within_d (s.gr.length : Int) 1 4 true _ h2).mono ?_; rintro e' w2 ⟨rfl, rfl⟩; clear h2) | (go_at_call 25; with_reducible refine (allWithin_d _ _ _ s.gr 0 s.cy false hg0 h4).mono ?_; rintro e' w2 ⟨rfl, rfl⟩; clear h4))
      go_ret
      exact ⟨ret_B HN, HB0.out⟩
    · have HN : Hid (validS s = allB s.tr 0 60) := by rw [h4] at hv0; exact hv0
      clear hv0
      obtain ⟨bb, hbb⟩ : ∃ bb, bb = allB s.tr 0 60 := ⟨_, rfl⟩
      rw [← hbb] at HN
      go_enter Try.func12, Try.ntmps12
      go_wp2_with fail
      rw [← hw0]
      clear hw0
      refine (within_d s.cy 1 30 true _ h1).mono ?_; rintro e' w2 ⟨rfl, rfl⟩
      clear h1
      go_wp2_with (first | (go_at_call 24; with_reducible refine (within_d (s.gr.length : Int) 1 4 true _ h2).mono ?_; rintro e' w2 ⟨rfl, rfl⟩; clear h2) | (go_at_call 25; with_reducible refine (allWithin_d _ _ _ s.gr 0 s.cy true hg0 h4).mono ?_; rintro e' w2 ⟨rfl, rfl⟩; clear h4) | (go_at_call 25; with_reducible refine (allWithin_d _ _ _ s.tr 0 60 bb ht0 hbb.symm).mono ?_; rintro e' w2 ⟨rfl, rfl⟩; clear hbb))
      go_ret
      exact ⟨ret_B HN, HB0.out⟩
  · have HN := Lib.hid (lenv_no h3)
    have h2' := inR_iff.1 h2
    have l1 : ((s.tr.length : Int) != (s.gr.length : Int) - 1) = true := by simp; omega
    clear h3 h2'
    go_enter Try.func12, Try.ntmps12
    go_wp2_with fail
    rw [← hw0]
    clear hw0
    refine (within_d s.cy 1 30 true _ h1).mono ?_; rintro e' w2 ⟨rfl, rfl⟩
    clear h1
    go_wp2_with (go_at_call 24; with_reducible refine (within_d (s.gr.length : Int) 1 4 true _ h2).mono ?_; rintro e' w2 ⟨rfl, rfl⟩; clear h2)
    go_ret
    exact ⟨ret_B HN, HB0.out⟩
end Go.Proofs.Ytbojkhmlfflakaa
