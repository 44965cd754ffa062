/- validStreet: the reference's. -/
import Derived.Test.YtbojkhmlfflakaaBo11
namespace Go.Proofs.Ytbojkhmlfflakaa
open Go.RowKit
set_option linter.unusedVariables false
set_option linter.unusedSimpArgs false

set_option maxHeartbeats 4000000 in
theorem spec_validStreet (w : World) (lo : Nat) (v : Value) (s : Str) (hv : StrR w lo v s) :
    Calls Try.prog 14 #[v] w fun e w' => e = .returned (.bool (validS s)) ∧ Below w.heap.size w w' := by
  obtain ⟨vg, vt, rfl, hg, ht⟩ := hv
  obtain ⟨ag, cg, rfl, hcg, hmg⟩ := Rd.form hg
  obtain ⟨at', ct, rfl, hct, hmt⟩ := Rd.form ht
  obtain ⟨w0, hw0, hB0, x0, x1, x2, hz0⟩ := str_box w (.int .i64 s.cy) (.slice ag s.gr.length cg) (.slice at' s.tr.length ct)
  have hg0 : Ints w0 lo (.slice ag s.gr.length cg) s.gr := Rd.below hg hB0 (Nat.le_refl _) (by decide)
  have ht0 : Ints w0 lo (.slice at' s.tr.length ct) s.tr := Rd.below ht hB0 (Nat.le_refl _) (by decide)
  have HB0 := Lib.hid hB0
  clear hg ht hB0
  have wr1 : IntKind.i64.wrap ((s.gr.length : Int) - 1) = (s.gr.length : Int) - 1 := IntWalk.i64_in _ (by omega)
  cases h1 : inR s.cy 1 30
  · have HN : Hid (validS s = false) := by unfold Hid validS; rw [h1]; rfl
    go_enter Try.func14, Try.ntmps14
    go_wp2_with fail
    rw [← hw0]
    clear hw0
    refine (inRange_d s.cy 1 30 false _ h1).mono ?_; rintro e' w2 ⟨rfl, rfl⟩
    clear h1
    go_wp2_with fail
    go_ret
    exact ⟨ret_B HN, HB0.out⟩
  cases h2 : inR s.gr.length 1 4
  · have HN : Hid (validS s = false) := by unfold Hid validS; rw [h1, h2]; rfl
    go_enter Try.func14, Try.ntmps14
    go_wp2_with fail
    rw [← hw0]
    clear hw0
    refine (inRange_d s.cy 1 30 true _ h1).mono ?_; rintro e' w2 ⟨rfl, rfl⟩
    clear h1
    go_wp2_with (go_at_call 26; with_reducible refine (inRange_d (s.gr.length : Int) 1 4 false _ h2).mono ?_; rintro e' w2 ⟨rfl, rfl⟩; clear h2)
    go_ret
    exact ⟨ret_B HN, HB0.out⟩
  by_cases h3 : s.tr.length + 1 = s.gr.length
  · have h2' := inR_iff.1 h2
    have l1 : ((s.tr.length : Int) == (s.gr.length : Int) - 1) = true := by simp; omega
    have l2 : decide ((s.tr.length : Int) = (s.gr.length : Int) - 1) = true := by simp; omega
    have hv0 : validS s = (allB s.gr 0 s.cy && allB s.tr 0 60) := by unfold validS; rw [h1, h2, l2]; rfl
    clear h3 h2' l2
    cases h4 : allB s.gr 0 s.cy
    · have HN : Hid (validS s = false) := by rw [h4] at hv0; exact hv0
      clear hv0
      go_enter Try.func14, Try.ntmps14
      go_wp2_with fail
      rw [← hw0]
      clear hw0
      refine (inRange_d s.cy 1 30 true _ h1).mono ?_; rintro e' w2 ⟨rfl, rfl⟩
      clear h1
      go_wp2_with (first | (go_at_call 26; with_reducible refine (inRange_d (s.gr.length : Int) 1 4 true _ h2).mono ?_; rintro e' w2 ⟨rfl, rfl⟩; clear h2) | (go_at_call 27; with_reducible refine (allIn_d _ _ _ s.gr 0 s.cy false hg0 h4).mono ?_; rintro e' w2 ⟨rfl, rfl⟩; clear h4))
      go_ret
      exact ⟨ret_B HN, HB0.out⟩
    · have HN : Hid (validS s = allB s.tr 0 60) := by rw [h4] at hv0; exact hv0
      clear hv0
      obtain ⟨bb, hbb⟩ : ∃ bb, bb = allB s.tr 0 60 := ⟨_, rfl⟩
      rw [← hbb] at HN
      go_enter Try.func14, Try.ntmps14
      go_wp2_with fail
      rw [← hw0]
      clear hw0
      refine (inRange_d s.cy 1 30 true _ h1).mono ?_; rintro e' w2 ⟨rfl, rfl⟩
      clear h1
      go_wp2_with (first | (go_at_call 26; with_reducible refine (inRange_d (s.gr.length : Int) 1 4 true _ h2).mono ?_; rintro e' w2 ⟨rfl, rfl⟩; clear h2) | (go_at_call 27; with_reducible refine (allIn_d _ _ _ s.gr 0 s.cy true hg0 h4).mono ?_; rintro e' w2 ⟨rfl, rfl⟩; clear h4) | (go_at_call 27; with_reducible refine (allIn_d _ _ _ s.tr 0 60 bb ht0 hbb.symm).mono ?_; rintro e' w2 ⟨rfl, rfl⟩; clear hbb))
      go_ret
      exact ⟨ret_B HN, HB0.out⟩
  · have HN := Lib.hid (lenv_no h3)
    have h2' := inR_iff.1 h2
    have l1 : ((s.tr.length : Int) == (s.gr.length : Int) - 1) = false := by simp; omega
    clear h3 h2'
    go_enter Try.func14, Try.ntmps14
    go_wp2_with fail
    rw [← hw0]
    clear hw0
    refine (inRange_d s.cy 1 30 true _ h1).mono ?_; rintro e' w2 ⟨rfl, rfl⟩
    clear h1
    go_wp2_with (go_at_call 26; with_reducible refine (inRange_d (s.gr.length : Int) 1 4 true _ h2).mono ?_; rintro e' w2 ⟨rfl, rfl⟩; clear h2)
    go_ret
    exact ⟨ret_B HN, HB0.out⟩
end Go.Proofs.Ytbojkhmlfflakaa
