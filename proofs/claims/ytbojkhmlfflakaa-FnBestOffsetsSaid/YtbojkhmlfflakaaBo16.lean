/- bothWays: the reference's. -/
import Derived.Test.YtbojkhmlfflakaaBo15
import Derived.Deep.RegionHeld3
namespace Go.Proofs.Ytbojkhmlfflakaa
open Go.RowKit
set_option linter.unusedVariables false
set_option linter.unusedSimpArgs false

set_option maxHeartbeats 8000000 in
theorem spec_both (w : World) (lo : Nat) (v vo : Value) (s : Str) (offs : List Int) (hv : StrR w lo v s) (ho : Ints w lo vo offs) (hok : offOk s offs = true) :
    Calls Try.prog 17 #[v, vo] w fun e w' => e = .returned (.int .i64 (tb s offs : Int)) ∧ Below w.heap.size w w' := by
  have HV0 := Lib.hid hv
  obtain ⟨vg, vt, rfl, hg, ht⟩ := hv
  obtain ⟨ag, cg, rfl, hcg, hmg⟩ := Rd.form hg
  obtain ⟨at', ct, rfl, hct, hmt⟩ := Rd.form ht
  obtain ⟨w0, hw0, hB0, x0, x1, x2, hz0⟩ := str_box w (.int .i64 s.cy) (.slice ag s.gr.length cg) (.slice at' s.tr.length ct)
  have HB0 := Lib.hid hB0
  have HO := Lib.hid ho
  have HK := Lib.hid hok
  have HKR := Lib.hid (offOk_rev hok)
  obtain ⟨hval, hol, _⟩ := offOk_iff.1 hok
  obtain ⟨_, ⟨hg1, hg4⟩, htl, _⟩ := validS_iff.1 hval
  have HTL := Lib.hid htl
  have hol6 : offs.length ≤ 1000000 := by omega
  have l1 := band_30 (s := s) (offs := offs) hval
  have l2 := band_30 (s := revS s) (offs := offs.reverse) (offOk_iff.1 HKR.out).1
  have KS : Hid (∀ W, Below w0.heap.size w0 W → (W.cell? ⟨w.heap.size, 0, none⟩ = some (.int .i64 s.cy) ∧ W.cell? ⟨w.heap.size, 1, none⟩ = some (.slice ag s.gr.length cg) ∧ W.cell? ⟨w.heap.size, 2, none⟩ = some (.slice at' s.tr.length ct))) := fun W h => ⟨(h.cell (p := ⟨w.heap.size, 0, none⟩) hz0).trans x0, (h.cell (p := ⟨w.heap.size, 1, none⟩) hz0).trans x1, (h.cell (p := ⟨w.heap.size, 2, none⟩) hz0).trans x2⟩
  have KV : Hid (∀ W, Below w0.heap.size w0 W → StrR W lo (Value.agg #[Value.int IntKind.i64 s.cy, Value.slice ag s.gr.length cg, Value.slice at' s.tr.length ct]) s) := fun W h => HV0.out.below (hB0.trans (h.mono hB0.size)) (Nat.le_refl _)
  have KO : Hid (∀ W, Below w0.heap.size w0 W → Ints W lo vo offs) := fun W h => Rd.below HO.out (hB0.trans (h.mono hB0.size)) (Nat.le_refl _) (by decide)
  have B0 : Below w0.heap.size w0 w0 := Below.refl _ _
  obtain ⟨b1, hb1⟩ : ∃ b1 : Int, b1 = (band s offs : Int) := ⟨_, rfl⟩
  obtain ⟨b2, hb2⟩ : ∃ b2 : Int, b2 = (band (revS s) offs.reverse : Int) := ⟨_, rfl⟩
  have HE : Hid ((tb s offs : Int) = b1 + b2) := by unfold Hid tb; rw [hb1, hb2]; simp
  have wrp : IntKind.i64.wrap (b1 + b2) = b1 + b2 := IntWalk.i64_in _ (by omega)
  have HB1 := Lib.hid hb1
  have HB2 := Lib.hid hb2
  clear hg ht hB0 ho hok hval hol hg1 htl l1 l2 hb1 hb2 hcg hmg hct hmt x0 x1 x2
  go_enter Try.func17, Try.ntmps17
  go_wp2_with fail
  rw [← hw0]
  clear hw0
  go_region_held3 (fun W => W.cell? ⟨w.heap.size, 0, none⟩ = some (.int .i64 s.cy) ∧ W.cell? ⟨w.heap.size, 1, none⟩ = some (.slice ag s.gr.length cg) ∧ W.cell? ⟨w.heap.size, 2, none⟩ = some (.slice at' s.tr.length ct))
    ((refine KS.out _ ?_; (first | assumption | exact Below.drew (by assumption))))
    ((first
      | (go_at_call 28; (with_reducible show Calls _ _ #[Value.agg #[Value.int IntKind.i64 s.cy, Value.slice ag s.gr.length cg, Value.slice at' s.tr.length ct], _] _ _); refine (spec_band _ lo _ _ s offs (KV.out _ ?_) (KO.out _ ?_) HK.out).mono ?_; (first | assumption | exact Below.drew (by assumption)); (first | assumption | exact Below.drew (by assumption)); rintro e wx ⟨rfl, hBx⟩; rw [← HB1.out]; (first | (have hR := StrR.below hR hBx (Nat.le_refl _)) | (have hR := StrR.below hR (undrew hBx) (Nat.le_refl _)) | skip); (first | (have hI := Rd.below hI hBx (Nat.le_refl _) (by decide)) | (have hI := Rd.below hI (undrew hBx) (Nat.le_refl _) (by decide)) | skip); have Bwx : Below w0.heap.size w0 wx := Below.trans (by first | assumption | exact Below.drew (by assumption)) (hBx.mono (Below.size (B := w0.heap.size) (w := w0) (by first | assumption | exact Below.drew (by assumption)))))
      | (go_at_call 29; refine (spec_reversedStreet _ lo _ s (KV.out _ ?_) HTL.out hg4).mono ?_; (first | assumption | exact Below.drew (by assumption)); rintro e wy ⟨vs, rfl, hR, hBy⟩; (first | (have hI := Rd.below hI hBy (Nat.le_refl _) (by decide)) | (have hI := Rd.below hI (undrew hBy) (Nat.le_refl _) (by decide)) | skip); have Bwy : Below w0.heap.size w0 wy := Below.trans (by first | assumption | exact Below.drew (by assumption)) (hBy.mono (Below.size (B := w0.heap.size) (w := w0) (by first | assumption | exact Below.drew (by assumption)))))
      | (go_at_call 30; refine (spec_reversedInts _ lo _ offs (KO.out _ ?_) hol6).mono ?_; (first | assumption | exact Below.drew (by assumption)); rintro e wz ⟨vi, rfl, hOz, hBz⟩; have hI : Ints wz 0 vi offs.reverse := Own.ints hOz (by simp); (first | (have hR := StrR.below hR hBz (Nat.le_refl _)) | (have hR := StrR.below hR (undrew hBz) (Nat.le_refl _)) | skip); have Bwz : Below w0.heap.size w0 wz := Below.trans (by first | assumption | exact Below.drew (by assumption)) (hBz.mono (Below.size (B := w0.heap.size) (w := w0) (by first | assumption | exact Below.drew (by assumption)))))
      | (go_at_call 28; refine (spec_band _ 0 _ _ (revS s) offs.reverse (by first | exact hR) (by first | exact hI) HKR.out).mono ?_; rintro e wv ⟨rfl, hBv⟩; rw [← HB2.out]; have Bwv : Below w0.heap.size w0 wv := Below.trans (by first | assumption | exact Below.drew (by assumption)) (hBv.mono (Below.size (B := w0.heap.size) (w := w0) (by first | assumption | exact Below.drew (by assumption)))))))
  all_goals go_wp2_with fail
  all_goals go_ret
  all_goals refine ⟨ret_H HE, HB0.out.trans (Below.mono ?_ HB0.out.size)⟩
  all_goals (first | assumption | exact Below.drew (by assumption))
end Go.Proofs.Ytbojkhmlfflakaa
