/- (Street).accepts, (Street).passes, BandOf: the program's. -/
import Derived.Test.YtbojkhmlfflakaaBo4
namespace Go.Proofs.Ytbojkhmlfflakaa
open Go.RowKit
set_option linter.unusedVariables false
set_option linter.unusedSimpArgs false

set_option maxHeartbeats 4000000 in
theorem str_accepts (w : World) (lo : Nat) (v vo : Value) (s : Str) (offs : List Int) (hv : StrR w lo v s) (ho : Ints w lo vo offs) :
    Calls Try.prog 18 #[v, vo] w fun e w' => e = .returned (.bool (offOk s offs)) ∧ Below w.heap.size w w' := by
  have HV0 := Lib.hid hv
  obtain ⟨vg, vt, rfl, hg, ht⟩ := hv
  obtain ⟨ag, cg, rfl, hcg, hmg⟩ := Rd.form hg
  obtain ⟨at', ct, rfl, hct, hmt⟩ := Rd.form ht
  obtain ⟨ao, co, rfl, hco, hmo⟩ := Rd.form ho
  obtain ⟨w0, hw0, hB0, x0, x1, x2, hz0⟩ := str_box w (.int .i64 s.cy) (.slice ag s.gr.length cg) (.slice at' s.tr.length ct)
  have HB0 := Lib.hid hB0
  have HO := Lib.hid ho
  clear hg ht hB0 ho
  cases hval : validS s
  · have HN : Hid (offOk s offs = false) := by unfold Hid offOk; rw [hval]; rfl
    go_enter Try.func18, Try.ntmps18
    go_wp2_with fail
    rw [← hw0]
    clear hw0
    refine (str_valid _ lo _ s (HV0.out.below HB0.out (Nat.le_refl _))).mono ?_; rintro e w1 ⟨rfl, hB1⟩
    rw [hval]
    clear hval
    go_wp2_with fail
    go_ret
    exact ⟨ret_B HN, HB0.out.trans (hB1.mono HB0.out.size)⟩
  · obtain ⟨hc1, hg1, _⟩ := validS_iff.1 hval
    obtain ⟨c1, c30⟩ := hc1
    have wr1 : IntKind.i64.wrap (s.cy - 1) = s.cy - 1 := IntWalk.i64_in _ (by omega)
    by_cases hl : offs.length = s.gr.length
    · have hN : offOk s offs = allB offs 0 (s.cy - 1) := by unfold offOk; rw [hval, decide_eq_true hl]; rfl
      obtain ⟨bb, hbb⟩ : ∃ bb, bb = allB offs 0 (s.cy - 1) := ⟨_, rfl⟩
      rw [← hbb] at hN
      have HN := Lib.hid hN
      have l1 : ((offs.length : Int) == (s.gr.length : Int)) = true := by simp [hl]
      have l2 : (offs.length == s.gr.length) = true := by simp [hl]
      clear hN hl
      go_enter Try.func18, Try.ntmps18
      go_wp2_with fail
      rw [← hw0]
      clear hw0
      refine (str_valid _ lo _ s (HV0.out.below HB0.out (Nat.le_refl _))).mono ?_; rintro e w1 ⟨rfl, hB1⟩
      rw [hval]
      clear hval
      have hT := HB0.out.trans (hB1.mono HB0.out.size)
      have u0 := (hB1.cell (p := ⟨w.heap.size, 0, none⟩) hz0).trans x0
      have u1 := (hB1.cell (p := ⟨w.heap.size, 1, none⟩) hz0).trans x1
      have ho1 : Ints w1 lo (.slice ao offs.length co) offs := Rd.below HO.out hT (Nat.le_refl _) (by decide)
      clear x0 x1 x2
      go_wp2_with (go_at_call 25; with_reducible refine (allWithin_d _ _ _ offs 0 (s.cy - 1) bb ho1 hbb.symm).mono ?_; rintro e' w2 ⟨rfl, rfl⟩; clear hbb)
      go_ret
      exact ⟨ret_B HN, hT⟩
    · have HN : Hid (offOk s offs = false) := by unfold Hid offOk; rw [hval, decide_eq_false hl]; rfl
      have l1 : ((offs.length : Int) == (s.gr.length : Int)) = false := by simp; omega
      have l2 : (offs.length == s.gr.length) = false := by simpa using hl
      clear hl
      go_enter Try.func18, Try.ntmps18
      go_wp2_with fail
      rw [← hw0]
      clear hw0
      refine (str_valid _ lo _ s (HV0.out.below HB0.out (Nat.le_refl _))).mono ?_; rintro e w1 ⟨rfl, hB1⟩
      rw [hval]
      clear hval
      have hT := HB0.out.trans (hB1.mono HB0.out.size)
      have u0 := (hB1.cell (p := ⟨w.heap.size, 0, none⟩) hz0).trans x0
      have u1 := (hB1.cell (p := ⟨w.heap.size, 1, none⟩) hz0).trans x1
      clear x0 x1 x2
      go_wp2_with fail
      go_ret
      exact ⟨ret_B HN, hT⟩
end Go.Proofs.Ytbojkhmlfflakaa
