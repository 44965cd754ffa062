/- DrawBestOffsets. -/
import Derived.Test.YtbojkhmlfflakaaBo18
namespace Go.Proofs.Ytbojkhmlfflakaa
open Go.RowKit
set_option linter.unusedVariables false
set_option linter.unusedSimpArgs false

theorem bytes_blk {w : World} {v : Value} {bs : List UInt8} (hv : Bytes w 0 v bs) : bs ≠ [] → ∀ k, v.ownBlock = some k → k < w.heap.size := by
  intro hne k hk
  obtain ⟨_, ao, cap, rfl, _, _, _, hc⟩ := hv
  obtain ⟨b, off, rfl, _, hcell⟩ := hc (by cases bs <;> simp_all)
  cases hk
  exact World.block_lt_of_cell? w ⟨b, off + 0, none⟩ (hcell 0 (by cases bs <;> simp_all))

def DrawSt (w : World) (e : Ending) (w' : World) : Prop := ∃ v s, e = .returned v ∧ StrR w' 0 v s ∧ Below w.heap.size w w'
theorem StrR.set1 {W : World} {L b i : Nat} {v u : Value} {s : Str} (h : StrR W L v s) (hb : b < L) : StrR (W.setCell ⟨b, i, none⟩ u) L v s := by
  obtain ⟨vg, vt, e, h1, h2⟩ := h; exact ⟨vg, vt, e, ints_set h1 hb, ints_set h2 hb⟩
set_option maxHeartbeats 4000000 in
theorem drawBestOffsets (w : World) (v : Value) (bs : List UInt8) (hv : Bytes w 0 v bs) :
    Calls Try.prog 4 #[v] w (DrawSt w) := by
  obtain ⟨w0, hw0⟩ : ∃ x, x = w.alloc (.cells #[.int .i64 0, .slice none 0 0, .slice none 0 0] 25) := ⟨_, rfl⟩
  have hX0 : Own w0 w.heap.size 25 3 (.slice (some ⟨w.heap.size, 0, none⟩) 1 1) 1 [.int .i64 0, .slice none 0 0, .slice none 0 0] := by
    rw [hw0]; exact Own.made w [.int .i64 0, .slice none 0 0, .slice none 0 0] 25 w.heap.size 3 1 rfl (Nat.le_refl _) (by decide)
  have hB0 : Below w.heap.size w w0 := by rw [hw0]; exact (Below.refl _ _).alloc (Nat.le_refl _) _
  have hs0 : w0.heap.size = w.heap.size + 1 := by rw [hw0]; simp
  have HX0 := Lib.hid hX0
  have HS0 := Lib.hid hs0
  have HW0 := Lib.hid hw0
  have HB0 := Lib.hid hB0
  have HBB := Lib.hid (bytes_blk hv)
  have HV0 := Lib.hid (Rd.below hv hB0 (Nat.le_refl _) (by decide) : Bytes w0 0 v bs)
  obtain ⟨ao, cap, rfl, _, _⟩ := hv.form
  clear hX0 hs0 hw0 hB0 hv
  go_enter Try.func4, Try.ntmps4
  go_wp2_with fail
  rw [← HW0.out]
  clear HW0
  refine (newReader_B w0 w.heap.size _ bs HV0.out HBB.out HB0.out.size).mono ?_; rintro e w1 ⟨rfl, hr1, hB1⟩
  rw [HS0.out] at hr1
  have hr1 : Rdh w.heap.size w1 (w.heap.size + 1) 0 := hr1
  have hz1 : w.heap.size + 2 ≤ w1.heap.size := hr1.lt
  have HX1 := Lib.hid (HX0.out.below hB1 (Nat.le_refl _))
  have HB1 := Lib.hid (HB0.out.trans (hB1.mono HB0.out.size))
  rw [show w0.heap.size = w.heap.size + 1 from HS0.out]
  clear hB1 HX0 HB0 HV0 HBB
  go_wp2_with fail
  go_at_call 10
  refine (anyStreet_any _ _ _ hr1 (by omega)).mono ?_; rintro e w2 ⟨v2, s, p2, rfl, hS2, hr2, hg2⟩
  have hz2 : w.heap.size + 2 ≤ w2.heap.size := Nat.le_trans hz1 hg2.size
  have hX2 := HX1.out.grown hg2 (fun q hq => .inr (by cases hq; simp [Value.ownBlock]))
  have hB2 : Below w.heap.size w w2 := HB1.out.trans (below_of_grownBy hg2 (B := w.heap.size) (by omega) (fun k hk => by cases hk; omega))
  have hS2' := hS2
  obtain ⟨vg, vt, rfl, hg, ht⟩ := hS2'
  obtain ⟨ag, cg, rfl, _, _⟩ := Rd.form hg
  obtain ⟨at', ct, rfl, _, _⟩ := Rd.form ht
  obtain ⟨⟨q0, q1, q2⟩, fq0, fq1, fq2⟩ := box3 hX2
  have HR : Hid (StrR (((w2.setCell ⟨w.heap.size, 0, none⟩ (.int .i64 s.cy)).setCell ⟨w.heap.size, 1, none⟩ (.slice ag s.gr.length cg)).setCell ⟨w.heap.size, 2, none⟩ (.slice at' s.tr.length ct)) 0 (.agg #[.int .i64 s.cy, .slice ag s.gr.length cg, .slice at' s.tr.length ct]) s) := by
    exact (((hS2.set1 (by omega)).set1 (by omega)).set1 (by omega)).mono (Nat.zero_le _)
  have HBF : Hid (Below w.heap.size w (((w2.setCell ⟨w.heap.size, 0, none⟩ (.int .i64 s.cy)).setCell ⟨w.heap.size, 1, none⟩ (.slice ag s.gr.length cg)).setCell ⟨w.heap.size, 2, none⟩ (.slice at' s.tr.length ct))) :=
    ((hB2.setCell (Nat.le_refl _) _).setCell (Nat.le_refl _) _).setCell (Nat.le_refl _) _
  clear hX2 hB2 hg ht hS2 hr2 hg2 HX1 HB1
  go_wp2_with fail
  exact bodyPost_ret (v := .agg #[.int .i64 s.cy, .slice ag s.gr.length cg, .slice at' s.tr.length ct]) (by simp [results, Try.results4, go_sem, q0, q1, q2, fq0, fq1, fq2]) rfl ⟨_, s, rfl, HR.out, HBF.out⟩
end Go.Proofs.Ytbojkhmlfflakaa
