/- The draws of the tram's statements. -/
import Derived.Test.YtokpgipbgkiepaaDrP5
namespace Go.Proofs.Ytokpgipbgkiepaa
open Go.RowKit
set_option linter.unusedVariables false
set_option linter.unusedSimpArgs false

theorem bytes_blk {w : World} {v : Value} {bs : List UInt8} (hv : Bytes w 0 v bs) : bs ≠ [] → ∀ k, v.ownBlock = some k → k < w.heap.size := by
  intro hne k hk
  obtain ⟨_, ao, cap, rfl, _, _, _, hc⟩ := hv
  obtain ⟨b, off, rfl, _, hcell⟩ := hc (by cases bs <;> simp_all)
  cases hk
  exact World.block_lt_of_cell? w ⟨b, off + 0, none⟩ (hcell 0 (by cases bs <;> simp_all))

def DrawTr (w : World) (e : Ending) (w' : World) : Prop := ∃ v pl, ∃ st s : Int, e = .returned (.tuple #[v, .int .i64 st, .int .i64 s]) ∧ PlanR w' w.heap.size v pl ∧ PlDr pl ∧ (-1 ≤ st ∧ st ≤ 5) ∧ (-1 ≤ s ∧ s ≤ 10000) ∧ Below w.heap.size w w'
set_option maxHeartbeats 4000000 in
theorem drawTramWait (w : World) (v : Value) (bs : List UInt8) (hv : Bytes w 0 v bs) :
    Calls Try.prog 73 #[v] w (DrawTr w) := by
  obtain ⟨w0, hw0⟩ : ∃ x, x = w.alloc (.cells #[.slice none 0 0, .slice none 0 0] 26) := ⟨_, rfl⟩
  have hX0 := Own.made w [.slice none 0 0, .slice none 0 0] 26 w.heap.size 2 1 rfl (Nat.le_refl _) (by decide)
  have hB0 : Below w.heap.size w w0 := by rw [hw0]; exact (Below.refl _ _).alloc (Nat.le_refl _) _
  have hs0 : w0.heap.size = w.heap.size + 1 := by rw [hw0]; simp
  rw [show (w.alloc (Obj.cells [Value.slice none 0 0, Value.slice none 0 0].toArray 26)) = w0 from hw0.symm] at hX0
  have HX0 := Lib.hid hX0
  have HS0 := Lib.hid hs0
  have HW0 := Lib.hid hw0
  have HB0 := Lib.hid hB0
  have HBB := Lib.hid (bytes_blk hv)
  have HV0 := Lib.hid (Rd.below hv hB0 (Nat.le_refl _) (by decide) : Bytes w0 0 v bs)
  obtain ⟨ao, cap, rfl, _, _⟩ := hv.form
  clear hX0 hs0 hw0 hB0 hv
  go_enter Try.func73, Try.ntmps73
  go_wp2_with fail
  rw [← HW0.out]
  clear HW0
  refine (newReader_B w0 w.heap.size _ bs HV0.out HBB.out HB0.out.size).mono ?_; rintro e w1 ⟨rfl, hr1, hB1⟩
  rw [HS0.out] at hr1
  have hr1 : Rdh w.heap.size w1 (w.heap.size + 1) 0 := hr1
  have hz1 : w.heap.size + 2 ≤ w1.heap.size := hr1.lt
  have HX1 := Lib.hid (HX0.out.below hB1 (Nat.le_refl _))
  have HB1 := Lib.hid (HB0.out.trans (hB1.mono HB0.out.size))
  rw [show w0.heap.size = w.heap.size + 1 from HS0.out]
  clear hB1 HX0 HB0 HV0 HBB
  go_wp2_with fail
  go_at_call 52
  refine (anyPlan_any _ _ _ hr1 (by omega)).mono ?_; rintro e w2 ⟨v2, pl, p2, rfl, hP2, hD2, hp2, hr2, hg2⟩
  have hz2 : w.heap.size + 2 ≤ w2.heap.size := Nat.le_trans hz1 hg2.size
  have HX2 := Lib.hid (HX1.out.grown hg2 (fun q hq => .inr (by cases hq; simp [Value.ownBlock])))
  have HB2 : Hid (Below w.heap.size w w2) := HB1.out.trans (below_of_grownBy hg2 (B := w.heap.size) (by omega) (fun k hk => by cases hk; omega))
  have hP2r := hP2
  obtain ⟨vc, vs, rfl, hc2, hs2⟩ := hP2r
  obtain ⟨b4, d4, rfl, _, _⟩ := hc2.form
  obtain ⟨b5, d5, rfl, _, _⟩ := hs2.form
  obtain ⟨w3, hw3, hB3, y0, y1, hz3⟩ := plan_box w2 (.slice b4 pl.cl.length d4) (.slice b5 pl.st.length d5)
  have hr3 := hr2.below hB3 hr2.lt
  have HP3 := Lib.hid ((hP2.below hB3 (Nat.le_refl _)).mono hz1)
  have hX3 := HX2.out.below hB3 (Nat.le_refl _)
  obtain ⟨_, e1, _, z9, p9, f9, _⟩ := hX3.parts (by omega)
  cases e1
  have r0 := p9 0 (by simp)
  have r1 := p9 1 (by simp)
  have fr0 := f9 0
  have fr1 := f9 1
  simp only [List.getElem_cons_zero, List.getElem_cons_succ] at r0 r1
  have HW3 := Lib.hid hw3
  have HX3 := Lib.hid hX3
  have HB3 := Lib.hid (HB2.out.trans (hB3.mono HB2.out.size))
  have HD2 := Lib.hid hD2
  have HK : Hid (∀ W, w3.grownBy W (some (w.heap.size + 1)) → W.cell? ⟨w2.heap.size, 0, none⟩ = some (.slice b4 pl.cl.length d4) ∧ W.cell? ⟨w2.heap.size, 1, none⟩ = some (.slice b5 pl.st.length d5)) := fun W h => ⟨(World.cell?_of_block (a := ⟨w2.heap.size, 0, none⟩) (h.block w2.heap.size hz3 (fun e => by injection e with e; omega))).trans y0, (World.cell?_of_block (a := ⟨w2.heap.size, 1, none⟩) (h.block w2.heap.size hz3 (fun e => by injection e with e; omega))).trans y1⟩
  have hne : w.heap.size ≠ w2.heap.size := by omega
  clear hP2 hc2 hs2 hr1 hr2 hg2 hw3 hB3 hX3 p9 f9 hD2
  go_wp2_with fail
  rw [← HW3.out]
  clear HW3
  go_region_held3 (fun w' => w'.cell? ⟨w2.heap.size, 0, none⟩ = some (.slice b4 pl.cl.length d4) ∧ w'.cell? ⟨w2.heap.size, 1, none⟩ = some (.slice b5 pl.st.length d5))
    (first | exact HK7.out | exact ⟨(World.cell?_setCell_far _ _ _ _ hne).trans ((World.cell?_setCell_far _ _ _ _ hne).trans HK7.out.1), (World.cell?_setCell_far _ _ _ _ hne).trans ((World.cell?_setCell_far _ _ _ _ hne).trans HK7.out.2)⟩ | assumption | go_keep)
    ((first
      | (go_at_call 86; refine (one_LR _ _ _ [0, 1, 0, 2, -1, 5] _ 6 rfl (hr3.below (Below.drew (Below.refl w3.heap.size w3)) hr3.lt) (by omega) (by omega) (by omega)).mono ?_; rintro e w7 ⟨st, rfl, hst, hr7, hg7⟩; have hG7 : w3.grownBy w7 (some (w.heap.size + 1)) := grownBy_trans (grownBy_of_below (Below.drew (Below.refl w3.heap.size w3)) (Nat.le_refl _) _) hg7 (fun x hx => .inl hx); have HK7 := Lib.hid (HK.out _ hG7))
      | (go_at_call 85; refine (anySecond_any _ _ _ hr7 (by omega)).mono ?_; rintro e w8 ⟨s, rfl, hs7, hr8, hg8⟩; have hG8 : w3.grownBy w8 (some (w.heap.size + 1)) := grownBy_trans hG7 hg8 (fun x hx => .inl hx); have HK7 := Lib.hid (HK.out _ hG8); obtain ⟨_, e1, _, z99, p9, f9, _⟩ := (HX3.out.grown hG8 (fun q hq => .inr (by cases hq; simp [Value.ownBlock]))).parts (by omega); cases e1; have t0 := p9 0 (by simp); have t1 := p9 1 (by simp); have ft0 := f9 0; have ft1 := f9 1; simp only [List.getElem_cons_zero, List.getElem_cons_succ] at t0 t1; clear p9 f9)))
  have hst' := hst.out
  simp at hst'
  have HST : Hid (-1 ≤ st ∧ st ≤ 5) := by unfold Hid; omega
  have HF : Hid (∀ u1 u2 : Value, DrawTr w (.returned (.tuple #[.agg #[.slice b4 pl.cl.length d4, .slice b5 pl.st.length d5], .int .i64 st, .int .i64 s])) ((w8.setCell ⟨w.heap.size, 0, none⟩ u1).setCell ⟨w.heap.size, 1, none⟩ u2)) := by
    intro u1 u2
    have one : ∀ (W : World) (o : Nat) (u : Value), (PlanR W (w.heap.size + 2) (.agg #[.slice b4 pl.cl.length d4, .slice b5 pl.st.length d5]) pl ∧ Below w.heap.size w W) → (PlanR (W.setCell ⟨w.heap.size, o, none⟩ u) (w.heap.size + 2) (.agg #[.slice b4 pl.cl.length d4, .slice b5 pl.st.length d5]) pl ∧ Below w.heap.size w (W.setCell ⟨w.heap.size, o, none⟩ u)) := by
      intro W o u ⟨a, c⟩
      have hg : W.grownBy (W.setCell ⟨w.heap.size, o, none⟩ u) (some w.heap.size) := cell_grown (b' := w.heap.size) u o
      exact ⟨a.grown hg (fun q hq => by cases hq; omega), c.setCell (Nat.le_refl _) u⟩
    have := one _ 1 u2 (one _ 0 u1 ⟨HP3.out.grown hG8 (fun q hq => by cases hq; omega), HB3.out.trans (below_of_grownBy hG8 (B := w.heap.size) (by omega) (fun k hk => by cases hk; omega))⟩)
    exact ⟨_, pl, st, s, rfl, this.1.mono (by omega), HD2.out, HST.out, hs7, this.2⟩
  clear hr7 hg7 hG7 HK7 hr8 hg8 hG8 hst hst'
  go_wp2
  exact bodyPost_ret (v := .tuple #[.agg #[.slice b4 pl.cl.length d4, .slice b5 pl.st.length d5], .int .i64 st, .int .i64 s]) (by simp [results, Try.results73, go_sem, t0, t1, ft0, ft1]) rfl (HF.out _ _)
end Go.Proofs.Ytokpgipbgkiepaa
