/- The draw of SetGreens. -/
import Derived.Test.YtokpgipbgkiepaaDrP5
namespace Go.Proofs.Ytokpgipbgkiepaa
open Go.RowKit
set_option linter.unusedVariables false
set_option linter.unusedSimpArgs false

theorem bytes_blk {w : World} {v : Value} {bs : List UInt8} (hv : Bytes w 0 v bs) : bs ≠ [] → ∀ k, v.ownBlock = some k → k < w.heap.size := by
  intro hne k hk
  obtain ⟨_, ao, cap, rfl, _, _, _, hc⟩ := hv
  obtain ⟨b, off, rfl, _, hcell⟩ := hc (by cases bs <;> simp_all)
  cases hk
  exact World.block_lt_of_cell? w ⟨b, off + 0, none⟩ (hcell 0 (by cases bs <;> simp_all))

def DrawGs (w : World) (e : Ending) (w' : World) : Prop := ∃ v u pl, ∃ gs : List Int, e = .returned (.tuple #[v, u]) ∧ PlanR w' w.heap.size v pl ∧ PlDr pl ∧ Ints w' w.heap.size u gs ∧ gs.length ≤ 6 ∧ tame gs ∧ Below w.heap.size w w'
set_option maxHeartbeats 4000000 in
theorem drawSetGreens (w : World) (v : Value) (bs : List UInt8) (hv : Bytes w 0 v bs) :
    Calls Try.prog 14 #[v] w (DrawGs w) := by
  obtain ⟨w0, hw0⟩ : ∃ x, x = w.alloc (.cells #[.slice none 0 0, .slice none 0 0] 26) := ⟨_, rfl⟩
  have hX0 := Own.made w [.slice none 0 0, .slice none 0 0] 26 w.heap.size 2 1 rfl (Nat.le_refl _) (by decide)
  have hB0 : Below w.heap.size w w0 := by rw [hw0]; exact (Below.refl _ _).alloc (Nat.le_refl _) _
  have hs0 : w0.heap.size = w.heap.size + 1 := by rw [hw0]; simp
  rw [show (w.alloc (Obj.cells [Value.slice none 0 0, Value.slice none 0 0].toArray 26)) = w0 from hw0.symm] at hX0
  have HX0 := Lib.hid hX0
  have HS0 := Lib.hid hs0
  have HW0 := Lib.hid hw0
  have HB0 := Lib.hid hB0
  have HBB := Lib.hid (bytes_blk hv)
  have HV0 := Lib.hid (Rd.below hv hB0 (Nat.le_refl _) (by decide) : Bytes w0 0 v bs)
  obtain ⟨ao, cap, rfl, _, _⟩ := hv.form
  clear hX0 hs0 hw0 hB0 hv
  go_enter Try.func14, Try.ntmps14
  go_wp2_with fail
  rw [← HW0.out]
  clear HW0
  refine (newReader_B w0 w.heap.size _ bs HV0.out HBB.out HB0.out.size).mono ?_; rintro e w1 ⟨rfl, hr1, hB1⟩
  rw [HS0.out] at hr1
  have hr1 : Rdh w.heap.size w1 (w.heap.size + 1) 0 := hr1
  have hz1 : w.heap.size + 2 ≤ w1.heap.size := hr1.lt
  have HX1 := Lib.hid (HX0.out.below hB1 (Nat.le_refl _))
  have HB1 := Lib.hid (HB0.out.trans (hB1.mono HB0.out.size))
  rw [show w0.heap.size = w.heap.size + 1 from HS0.out]
  clear hB1 HX0 HB0 HV0 HBB
  go_wp2_with fail
  go_at_call 52
  refine (anyPlan_any _ _ _ hr1 (by omega)).mono ?_; rintro e w2 ⟨v2, pl, p2, rfl, hP2, hD2, hp2, hr2, hg2⟩
  have hz2 : w.heap.size + 2 ≤ w2.heap.size := Nat.le_trans hz1 hg2.size
  have HX2 := Lib.hid (HX1.out.grown hg2 (fun q hq => .inr (by cases hq; simp [Value.ownBlock])))
  have HB2 : Hid (Below w.heap.size w w2) := HB1.out.trans (below_of_grownBy hg2 (B := w.heap.size) (by omega) (fun k hk => by cases hk; omega))
  have hP2r := hP2
  obtain ⟨vc, vs, rfl, hc2, hs2⟩ := hP2r
  obtain ⟨b4, d4, rfl, _, _⟩ := hc2.form
  obtain ⟨b5, d5, rfl, _, _⟩ := hs2.form
  obtain ⟨w3, hw3, hB3, y0, y1, hz3⟩ := plan_box w2 (.slice b4 pl.cl.length d4) (.slice b5 pl.st.length d5)
  have hr3 := hr2.below hB3 hr2.lt
  have HP3 := Lib.hid ((hP2.below hB3 (Nat.le_refl _)).mono hz1)
  have hX3 := HX2.out.below hB3 (Nat.le_refl _)
  obtain ⟨_, e1, _, z9, p9, f9, _⟩ := hX3.parts (by omega)
  cases e1
  have r0 := p9 0 (by simp)
  have r1 := p9 1 (by simp)
  have fr0 := f9 0
  have fr1 := f9 1
  simp only [List.getElem_cons_zero, List.getElem_cons_succ] at r0 r1
  have HW3 := Lib.hid hw3
  have HE3 : Hid (w2.heap.size + 1 = w3.heap.size) := by unfold Hid; rw [hw3]; simp
  have HX3 := Lib.hid hX3
  have HB3 := Lib.hid (HB2.out.trans (hB3.mono HB2.out.size))
  have HD2 := Lib.hid hD2
  have HK : Hid (∀ W, w3.grownBy W (some (w.heap.size + 1)) → W.cell? ⟨w2.heap.size, 0, none⟩ = some (.slice b4 pl.cl.length d4) ∧ W.cell? ⟨w2.heap.size, 1, none⟩ = some (.slice b5 pl.st.length d5)) := fun W h => ⟨(World.cell?_of_block (a := ⟨w2.heap.size, 0, none⟩) (h.block w2.heap.size hz3 (fun e => by injection e with e; omega))).trans y0, (World.cell?_of_block (a := ⟨w2.heap.size, 1, none⟩) (h.block w2.heap.size hz3 (fun e => by injection e with e; omega))).trans y1⟩
  have hne : w.heap.size ≠ w2.heap.size := by omega
  clear hP2 hc2 hs2 hr1 hr2 hg2 hw3 hB3 hX3 p9 f9 hD2 r0 r1 fr0 fr1
  go_wp2_with fail
  rw [← HW3.out]
  clear HW3
  have hO4 := Own.made w3 [] 3 w3.heap.size 1 0 rfl (Nat.le_refl _) (by decide)
  have hr4 : Rdh w.heap.size (w3.alloc (.cells #[] 3)) (w.heap.size + 1) p2 := hr3.below ((Below.refl _ _).alloc (Nat.le_refl _) _) hr3.lt
  have hG4 : w3.grownBy (w3.alloc (.cells #[] 3)) (some (w.heap.size + 1)) := World.grownBy_alloc _ _ _
  have hln : pl.st.length ≤ 5 := HD2.out.s
  rw [HE3.out]
  go_loopw [6, 7] (fun v i wo => ∃ k : Nat, ∃ ys : List Int, ∃ p', k ≤ pl.st.length ∧ i = .int .i64 k ∧ ys.length = k ∧ Own wo w3.heap.size 3 1 v ys.length (ys.map (.int .i64)) ∧ tame ys ∧ p' ≤ p2 + k ∧ Rdh w.heap.size wo (w.heap.size + 1) p' ∧ w3.grownBy wo (some (w.heap.size + 1)))
    (fun _ i _ => pl.st.length - (intOf i).toNat)
  case atStart => exact ⟨0, [], p2, Nat.zero_le _, rfl, rfl, hO4, (fun y hy => by simp at hy), by omega, hr4, hG4⟩
  case round =>
    clear hO4 hr4 hG4 hr3 y0 y1
    obtain ⟨k, ys, p', hk, rfl, hyl, hO, ht, hp', hr, hG⟩ := hrel
    have HT := Lib.hid ht
    clear ht
    obtain ⟨y0, y1⟩ := HK.out _ hG
    by_cases hlt : k < pl.st.length
    · go_wp2_with fail
      go_at_call 53
      refine (pick_h _ _ _ 20 hr (by omega) (by omega)).mono ?_; rintro e w5 ⟨y, rfl, ⟨hy0, hy1, hy2⟩, hr5, hg5⟩
      have hy3 := hy1 (by omega)
      clear hy1
      have hO5 := hO.grown hg5 (fun k hk => by cases hk; omega)
      have hG5 := grownBy_trans hG hg5 (fun x hx => .inl hx)
      have hsz5 := hG5.size
      have hr5' := hr5.lt
      have wr1 : IntKind.i64.wrap (5 + y) = 5 + y := IntWalk.i64_in _ (by omega)
      go_wp2_with (at_builtin; refine wpList_append_one _ rfl _ _ 27 rfl 3 (.int .i64 0) 8 Try.underlying27 info_int rfl w3.heap.size _ _ _ rfl hO5 _ _ rfl rfl (by omega) (by omega) (by omega) ?_; intro v' w6 hO6 hg6 _)
      have htz := tame_app HT.out (x := 5 + y) (by omega) (by omega)
      go_roundw
      case rel => exact ⟨k + 1, ys ++ [5 + y], p' + 1, by omega, by go_num, by simp; omega, by simpa using hO6, htz, by omega, hr5.grown hg6 (fun k hk => by have := (hO5.wblk hk).1; omega), grownBy_trans hG5 hg6 (fun k hk => .inr (hO5.wblk hk).1)⟩
      case measure => simp [intOf]; omega
    · go_wp2_with fail
      go_region_held3 (fun w' => w'.cell? ⟨w2.heap.size, 0, none⟩ = some (.slice b4 pl.cl.length d4) ∧ w'.cell? ⟨w2.heap.size, 1, none⟩ = some (.slice b5 pl.st.length d5))
        (first | exact HK7.out | exact ⟨(World.cell?_setCell_far _ _ _ _ hne).trans ((World.cell?_setCell_far _ _ _ _ hne).trans HK7.out.1), (World.cell?_setCell_far _ _ _ _ hne).trans ((World.cell?_setCell_far _ _ _ _ hne).trans HK7.out.2)⟩ | assumption | go_keep)
        ((go_at_call 54; refine (spoil_h _ _ _ _ ys 41 (hr.below (Below.drew (Below.refl wr.heap.size wr)) hr.lt) (by omega) (Rd.below (hO.rd.mono (Nat.zero_le _)) (Below.drew (Below.refl wr.heap.size wr)) (Nat.le_refl _) (by decide)) (by omega) HT.out (by omega)).mono ?_; rintro e w7 ⟨v7, zs, p7, rfl, hI7, hl7, ht7, hp7, hr7, hg7⟩; have hG7 : w3.grownBy w7 (some (w.heap.size + 1)) := grownBy_trans hG (grownBy_trans (grownBy_of_below (Below.drew (Below.refl wr.heap.size wr)) (Nat.le_refl _) _) hg7 (fun x hx => .inl hx)) (fun x hx => .inl hx); have HK7 := Lib.hid (HK.out _ hG7); obtain ⟨_, e1, _, z99, p9, f9, _⟩ := (HX3.out.grown hG7 (fun q hq => .inr (by cases hq; simp [Value.ownBlock]))).parts (by omega); cases e1; have t0 := p9 0 (by simp); have t1 := p9 1 (by simp); have ft0 := f9 0; have ft1 := f9 1; simp only [List.getElem_cons_zero, List.getElem_cons_succ] at t0 t1; clear p9 f9))
      have hsz3 := hG.size
      have hz7 : wr.heap.size ≤ wr.drew.heap.size := by simp
      have HF : Hid (∀ u1 u2 : Value, DrawGs w (.returned (.tuple #[.agg #[.slice b4 pl.cl.length d4, .slice b5 pl.st.length d5], v7])) ((w7.setCell ⟨w.heap.size, 0, none⟩ u1).setCell ⟨w.heap.size, 1, none⟩ u2)) := by
        intro u1 u2
        have one : ∀ (W : World) (o : Nat) (u : Value), (PlanR W (w.heap.size + 2) (.agg #[.slice b4 pl.cl.length d4, .slice b5 pl.st.length d5]) pl ∧ Ints W (w.heap.size + 2) v7 zs ∧ Below w.heap.size w W) → (PlanR (W.setCell ⟨w.heap.size, o, none⟩ u) (w.heap.size + 2) (.agg #[.slice b4 pl.cl.length d4, .slice b5 pl.st.length d5]) pl ∧ Ints (W.setCell ⟨w.heap.size, o, none⟩ u) (w.heap.size + 2) v7 zs ∧ Below w.heap.size w (W.setCell ⟨w.heap.size, o, none⟩ u)) := by
          intro W o u ⟨a, b, c⟩
          have hg : W.grownBy (W.setCell ⟨w.heap.size, o, none⟩ u) (some w.heap.size) := cell_grown (b' := w.heap.size) u o
          exact ⟨a.grown hg (fun q hq => by cases hq; omega), Rd.grown b hg (fun q hq => by cases hq; omega) (by decide), c.setCell (Nat.le_refl _) u⟩
        have := one _ 1 u2 (one _ 0 u1 ⟨HP3.out.grown hG7 (fun q hq => by cases hq; omega), Rd.mono hI7 (by simp; omega), HB3.out.trans (below_of_grownBy hG7 (B := w.heap.size) (by omega) (fun k hk => by cases hk; omega))⟩)
        exact ⟨_, _, pl, zs, rfl, this.1.mono (by omega), HD2.out, Rd.mono this.2.1 (by omega), by omega, ht7, this.2.2⟩
      obtain ⟨a7, c7, rfl, _, _⟩ := hI7.form
      clear hr7 hg7 hG7 HK7 hI7
      go_wp2
      exact bodyPost_ret (v := .tuple #[.agg #[.slice b4 pl.cl.length d4, .slice b5 pl.st.length d5], .slice a7 zs.length c7]) (by simp [results, Try.results14, go_sem, t0, t1, ft0, ft1]) rfl (HF.out _ _)
end Go.Proofs.Ytokpgipbgkiepaa
