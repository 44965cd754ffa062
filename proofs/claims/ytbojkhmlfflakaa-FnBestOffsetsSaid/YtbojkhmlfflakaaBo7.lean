/- BandOf: the program's. -/
import Derived.Test.YtbojkhmlfflakaaBo6
namespace Go.Proofs.Ytbojkhmlfflakaa
open Go.RowKit
set_option linter.unusedVariables false
set_option linter.unusedSimpArgs false

def bandO (s : Str) (offs : List Int) : Int := if offOk s offs = true then (band s offs : Int) else -1
theorem cnt_next (f : Int → Bool) (k : Nat) : cnt f 0 (k + 1) = cnt f 0 k + if f (k : Int) = true then 1 else 0 := by
  rw [cnt, Int.zero_add]

set_option maxHeartbeats 4000000 in
theorem impl_bandOf (w : World) (lo : Nat) (v vo : Value) (s : Str) (offs : List Int) (hv : StrR w lo v s) (ho : Ints w lo vo offs) :
    Calls Try.prog 20 #[v, vo] w fun e w' => e = .returned (.int .i64 (bandO s offs)) ∧ Below w.heap.size w w' := by
  have HV0 := Lib.hid hv
  obtain ⟨vg, vt, rfl, hg, ht⟩ := hv
  obtain ⟨ag, cg, rfl, hcg, hmg⟩ := Rd.form hg
  obtain ⟨at', ct, rfl, hct, hmt⟩ := Rd.form ht
  obtain ⟨w0, hw0, hB0, x0, x1, x2, hz0⟩ := str_box w (.int .i64 s.cy) (.slice ag s.gr.length cg) (.slice at' s.tr.length ct)
  have HB0 := Lib.hid hB0
  have HO := Lib.hid ho
  clear hg ht hB0 ho
  cases hok : offOk s offs
  · have HN : Hid (bandO s offs = -1) := by unfold Hid bandO; rw [hok]; rfl
    go_enter Try.func20, Try.ntmps20
    go_wp2_with fail
    rw [← hw0]
    clear hw0
    refine (str_accepts _ lo _ _ s offs (HV0.out.below HB0.out (Nat.le_refl _)) (Rd.below HO.out HB0.out (Nat.le_refl _) (by decide))).mono ?_; rintro e w1 ⟨rfl, hB1⟩
    rw [hok]
    clear hok
    go_wp2_with fail
    go_ret
    exact ⟨ret_H HN, HB0.out.trans (hB1.mono HB0.out.size)⟩
  · have HN : Hid (bandO s offs = (band s offs : Int)) := by unfold Hid bandO; rw [if_pos hok]
    have HK := Lib.hid hok
    obtain ⟨hval, _⟩ := offOk_iff.1 hok
    obtain ⟨hc1, _⟩ := validS_iff.1 hval
    obtain ⟨c1, c30⟩ := hc1
    obtain ⟨c, hcc⟩ := Int.eq_ofNat_of_zero_le (show 0 ≤ s.cy by omega)
    have HC := Lib.hid hcc
    rw [hcc] at x0 hw0 c1 c30
    clear hval hcc
    go_enter Try.func20, Try.ntmps20
    go_wp2_with fail
    rw [HC.out]
    rw [← hw0]
    clear hw0
    have HV1 := HV0
    rw [HC.out] at HV1
    refine (str_accepts _ lo _ _ s offs (HV1.out.below HB0.out (Nat.le_refl _)) (Rd.below HO.out HB0.out (Nat.le_refl _) (by decide))).mono ?_; rintro e w1 ⟨rfl, hB1⟩
    rw [hok]
    clear hok
    have hT1 := HB0.out.trans (hB1.mono HB0.out.size)
    have hz1 := Nat.lt_of_lt_of_le hz0 hB1.size
    have u0 := (hB1.cell (p := ⟨w.heap.size, 0, none⟩) hz0).trans x0
    have u1 := (hB1.cell (p := ⟨w.heap.size, 1, none⟩) hz0).trans x1
    have u2 := (hB1.cell (p := ⟨w.heap.size, 2, none⟩) hz0).trans x2
    clear x0 x1 x2
    go_wp2_with fail
    go_loopw [5, 13] (fun b i wo => ∃ k n : Nat, k ≤ c ∧ i = .int .i64 k ∧ b = .int .i64 n ∧ n ≤ k ∧ Hid (n = cnt (pasB s offs) 0 k) ∧ Below w1.heap.size w1 wo) (fun b i _ => c - (intOf i).toNat)
    case atStart => exact ⟨0, 0, Nat.zero_le _, rfl, rfl, Nat.le_refl _, rfl, Below.refl _ _⟩
    case round =>
      obtain ⟨k, n, hk, rfl, rfl, hnk, HNN, hB⟩ := hrel
      have hT := hT1.trans (hB.mono hT1.size)
      have y0 := (hB.cell (p := ⟨w.heap.size, 0, none⟩) hz1).trans u0
      have y1 := (hB.cell (p := ⟨w.heap.size, 1, none⟩) hz1).trans u1
      have y2 := (hB.cell (p := ⟨w.heap.size, 2, none⟩) hz1).trans u2
      by_cases hlt : k < c
      · have wr1 : IntKind.i64.wrap ((n : Int) + 1) = (n : Int) + 1 := IntWalk.i64_in _ (by omega)
        go_wp2_with fail
        refine (str_passes _ lo _ _ s offs (k : Int) (HV1.out.below hT (Nat.le_refl _)) (Rd.below HO.out hT (Nat.le_refl _) (by decide)) HK.out (by omega) (by omega)).mono ?_
        rintro e w2 ⟨rfl, hB2⟩
        have hB3 := hB.trans (hB2.mono hB.size)
        have hnx := cnt_next (pasB s offs) k
        cases hpp : pasB s offs (k : Int)
        · have HY : Hid (n = cnt (pasB s offs) 0 (k + 1)) := by unfold Hid; rw [hnx, hpp, HNN.out]; simp
          clear hnx hpp
          go_wp2_with fail
          go_roundw
          case rel => exact ⟨k + 1, n, by omega, by go_num, rfl, by omega, HY, hB3⟩
          case measure => simp [intOf]; omega
        · have HY : Hid (n + 1 = cnt (pasB s offs) 0 (k + 1)) := by unfold Hid; rw [hnx, hpp, HNN.out]; simp
          clear hnx hpp
          go_wp2_with fail
          go_roundw
          case rel => exact ⟨k + 1, n + 1, by omega, by go_num, by go_num, by omega, HY, hB3⟩
          case measure => simp [intOf]; omega
      · have hn : bandO s offs = (n : Int) := by
          rw [HN.out, HNN.out]; unfold band
          have h1 := HC.out
          have : s.cy.toNat = k := by omega
          rw [this]
        have HY := Lib.hid hn
        clear hn
        go_wp2_with fail
        go_ret
        exact ⟨ret_H HY, hT⟩
end Go.Proofs.Ytbojkhmlfflakaa
