/- The draw of two plans. The draws of SwitchedGreen and SwitchHistory. -/
import Derived.Test.YtokpgipbgkiepaaDrP5
import Derived.Test.YtokpgipbgkiepaaPlR
import Derived.Deep.RegionHeld3
import Derived.Test.YtokpgipbgkiepaaSwA
namespace Go.Proofs.Ytokpgipbgkiepaa

section
open Go.RowKit
set_option linter.unusedVariables false
set_option linter.unusedSimpArgs false

def TwoDr (w : World) (hi rb p : Nat) (e : Ending) (w' : World) : Prop :=
  ∃ va vb a b p', e = .returned (.tuple #[va, vb]) ∧ PlanR w' w.heap.size va a ∧ PlanR w' w.heap.size vb b ∧ p' ≤ p + 6000 ∧ Rdh hi w' rb p' ∧ w.grownBy w' (some rb)

/-- What two stores of a struct into result cells leave. -/
theorem two_kept {w W : World} {lo hi rb p : Nat} {va vb : Value} {a b : Pln} (h : PlanR W (lo + 2) va a ∧ PlanR W (lo + 2) vb b ∧ Rdh hi W rb p ∧ w.grownBy W (some rb)) (hrb : rb < lo) (hlo : w.heap.size = lo) (c o : Nat) (hc : c = lo ∨ c = lo + 1) (u : Value) :
    PlanR (W.setCell ⟨c, o, none⟩ u) (lo + 2) va a ∧ PlanR (W.setCell ⟨c, o, none⟩ u) (lo + 2) vb b ∧ Rdh hi (W.setCell ⟨c, o, none⟩ u) rb p ∧ w.grownBy (W.setCell ⟨c, o, none⟩ u) (some rb) := by
  obtain ⟨h1, h2, h3, h4⟩ := h
  have hg : W.grownBy (W.setCell ⟨c, o, none⟩ u) (some c) := cell_grown (b' := c) u o
  refine ⟨h1.grown hg (fun q hq => by cases hq; omega), h2.grown hg (fun q hq => by cases hq; omega), h3.grown hg (fun q hq => by cases hq; omega), ?_⟩
  exact grownBy_trans h4 hg (fun x hx => .inr (by cases hx; omega))

set_option maxHeartbeats 8000000 in
set_option maxRecDepth 100000 in
theorem twoPlans_any {hi : Nat} (w : World) (rb p : Nat) (hr : Rdh hi w rb p) (hp : p ≤ 700000) :
    Calls Try.prog 84 #[.pointer (some ⟨rb, 0, none⟩)] w (TwoDr w hi rb p) := by
  have hrb := hr.lt
  obtain ⟨wa, hwa⟩ : ∃ x, x = w.alloc (.cells #[.slice none 0 0, .slice none 0 0] 26) := ⟨_, rfl⟩
  have hXa := Own.made w [.slice none 0 0, .slice none 0 0] 26 w.heap.size 2 1 rfl (Nat.le_refl _) (by decide)
  rw [show (w.alloc (Obj.cells [Value.slice none 0 0, Value.slice none 0 0].toArray 26)) = wa from hwa.symm] at hXa
  have hsa : wa.heap.size = w.heap.size + 1 := by rw [hwa]; simp
  obtain ⟨w0, hw0⟩ : ∃ x, x = wa.alloc (.cells #[.slice none 0 0, .slice none 0 0] 26) := ⟨_, rfl⟩
  have hXb := Own.made wa [.slice none 0 0, .slice none 0 0] 26 (w.heap.size + 1) 2 1 rfl (by omega) (by decide)
  rw [show (wa.alloc (Obj.cells [Value.slice none 0 0, Value.slice none 0 0].toArray 26)) = w0 from hw0.symm, hsa] at hXb
  have hBa : Below w.heap.size w wa := by rw [hwa]; exact (Below.refl _ _).alloc (Nat.le_refl _) _
  have hBb : Below wa.heap.size wa w0 := by rw [hw0]; exact (Below.refl _ _).alloc (Nat.le_refl _) _
  have hB0 := hBa.trans (hBb.mono hBa.size)
  have hs0 : w0.heap.size = w.heap.size + 2 := by rw [hw0]; simp [hsa]
  have hr0 := hr.below hB0 hrb
  have HXA := Lib.hid (hXa.below hBb (Nat.le_refl _))
  have HXB := Lib.hid hXb
  have HB0 := Lib.hid hB0
  have hW : w0 = (w.alloc (.cells #[.slice none 0 0, .slice none 0 0] 26)).alloc (.cells #[.slice none 0 0, .slice none 0 0] 26) := by rw [hw0, hwa]
  have HW := Lib.hid hW
  have HS0 := Lib.hid hs0
  clear hXa hXb hsa hs0 hBa hBb hB0 hwa hw0 hr hW
  go_enter Try.func84, Try.ntmps84
  go_wp2_with fail
  rw [← HW.out]
  clear HW
  refine (anyPlan_any _ _ _ hr0 (by omega)).mono ?_; rintro e w2 ⟨v2, pa, p2, rfl, hP2, hD2, hp2, hr2, hg2⟩
  have hP2r := hP2
  obtain ⟨vc, vs, rfl, hc2, hs2⟩ := hP2r
  obtain ⟨b4, d4, rfl, _, _⟩ := hc2.form
  obtain ⟨b5, d5, rfl, _, _⟩ := hs2.form
  obtain ⟨w3, hw3, hB3, y0, y1, hz3⟩ := plan_box w2 (.slice b4 pa.cl.length d4) (.slice b5 pa.st.length d5)
  have hz2 : w.heap.size + 2 ≤ w2.heap.size := by have := hg2.size; have := HS0.out; omega
  have hr3 := hr2.below hB3 hr2.lt
  have HP3 := Lib.hid ((hP2.below hB3 (Nat.le_refl _)).mono (show w.heap.size + 2 ≤ w0.heap.size by have := HS0.out; omega))
  have HG3 : Hid (w0.grownBy w3 (some rb)) := grownBy_trans hg2 (grownBy_of_below hB3 (Nat.le_refl _) (some rb)) (fun x hx => .inl hx)
  have HW3 := Lib.hid hw3
  have HC3 := Lib.hid (hc2.below hB3 (Nat.le_refl _))
  have HK : Hid (∀ W, w3.grownBy W (some rb) → W.cell? ⟨w2.heap.size, 0, none⟩ = some (.slice b4 pa.cl.length d4) ∧ W.cell? ⟨w2.heap.size, 1, none⟩ = some (.slice b5 pa.st.length d5)) := fun W h => ⟨(World.cell?_of_block (a := ⟨w2.heap.size, 0, none⟩) (h.block w2.heap.size hz3 (fun e => by injection e with e; omega))).trans y0, (World.cell?_of_block (a := ⟨w2.heap.size, 1, none⟩) (h.block w2.heap.size hz3 (fun e => by injection e with e; omega))).trans y1⟩
  have KX : Hid (∀ W, w0.grownBy W (some rb) → (W.cell? ⟨w.heap.size, 0, none⟩ = some (.slice none 0 0) ∨ True) ∧ (∃ z, W.cell? ⟨w.heap.size, 0, none⟩ = some z) ∧ (∃ z, W.cell? ⟨w.heap.size, 1, none⟩ = some z) ∧ (∃ z, W.cell? ⟨w.heap.size + 1, 0, none⟩ = some z) ∧ (∃ z, W.cell? ⟨w.heap.size + 1, 1, none⟩ = some z) ∧ (∀ o, W.frozen? ⟨w.heap.size, o, none⟩ = false) ∧ (∀ o, W.frozen? ⟨w.heap.size + 1, o, none⟩ = false)) := fun W h => by
    obtain ⟨_, e1, _, _, p9, f9, _⟩ := (HXA.out.grown h (fun q hq => .inr (by cases hq; simp [Value.ownBlock]; omega))).parts (by omega)
    cases e1
    obtain ⟨_, e1, _, _, p8, f8, _⟩ := (HXB.out.grown h (fun q hq => .inr (by cases hq; simp [Value.ownBlock]; omega))).parts (by omega)
    cases e1
    exact ⟨.inr trivial, ⟨_, p9 0 (by simp)⟩, ⟨_, p9 1 (by simp)⟩, ⟨_, p8 0 (by simp)⟩, ⟨_, p8 1 (by simp)⟩, f9, f8⟩
  have HD2 := Lib.hid hD2
  clear hP2 hc2 hs2 hr2 hg2 hw3 hB3 hD2 y0 y1 hr0
  go_wp2_with fail
  rw [← HW3.out]
  clear HW3
  have KS : Hid (∀ (W : World) (c o : Nat) (u : Value), c ≠ w2.heap.size → (W.cell? ⟨w2.heap.size, 0, none⟩ = some (.slice b4 pa.cl.length d4) ∧ W.cell? ⟨w2.heap.size, 1, none⟩ = some (.slice b5 pa.st.length d5)) → ((W.setCell ⟨c, o, none⟩ u).cell? ⟨w2.heap.size, 0, none⟩ = some (.slice b4 pa.cl.length d4) ∧ (W.setCell ⟨c, o, none⟩ u).cell? ⟨w2.heap.size, 1, none⟩ = some (.slice b5 pa.st.length d5))) :=
    fun W c o u hne h => ⟨(World.cell?_setCell_far _ _ _ _ hne).trans h.1, (World.cell?_setCell_far _ _ _ _ hne).trans h.2⟩
  have hneA : w.heap.size ≠ w2.heap.size := by omega
  have hneB : w.heap.size + 1 ≠ w2.heap.size := by omega
  refine (spec_validPlan _ _ _ pa HP3.out).mono ?_; rintro e w4 ⟨rfl, hB4⟩
  have hr4 := hr3.below hB4 hr3.lt
  have HG4 : Hid (w0.grownBy w4 (some rb)) := grownBy_trans HG3.out (grownBy_of_below hB4 (Nat.le_refl _) (some rb)) (fun x hx => .inl hx)
  have HWw : Hid (w.grownBy w0 (some rb)) := grownBy_of_below HB0.out (Nat.le_refl _) (some rb)
  obtain ⟨ok, hok⟩ : ∃ b, b = validP pa := ⟨_, rfl⟩
  rw [← hok]
  have HOK := Lib.hid hok
  have hz4 : w.heap.size + 2 ≤ w4.heap.size := by have := hB4.size; omega
  have HW34 : Hid (w3.grownBy w4 (some rb)) := grownBy_of_below hB4 (Nat.le_refl _) (some rb)
  have HCV4 := Lib.hid (HC3.out.below hB4 (Nat.le_refl _))
  clear hB4 hok hr3
  cases ok
  · have HW3c := HW34
    have hzc := hz4
    have HKc : Hid (∀ W, w4.grownBy W (some rb) → W.cell? ⟨w2.heap.size, 0, none⟩ = some (.slice b4 pa.cl.length d4) ∧ W.cell? ⟨w2.heap.size, 1, none⟩ = some (.slice b5 pa.st.length d5)) := fun W h => HK.out W (grownBy_trans HW3c.out h (fun x hx => .inl hx))
    obtain ⟨u0, u1⟩ := HKc.out _ (grownBy_refl _ _)
    have HZ : Hid (w.heap.size + 2 ≤ w4.heap.size) := hzc
    go_wp2_with fail
    go_region_held3 (fun W => W.cell? ⟨w2.heap.size, 0, none⟩ = some (.slice b4 pa.cl.length d4) ∧ W.cell? ⟨w2.heap.size, 1, none⟩ = some (.slice b5 pa.st.length d5))
      (first | exact HK7.out | exact KS.out _ _ _ _ hneA (KS.out _ _ _ _ hneA HK7.out) | exact KS.out _ _ _ _ hneB (KS.out _ _ _ _ hneB HK7.out) | exact KS.out _ _ _ _ hneB (KS.out _ _ _ _ hneB (KS.out _ _ _ _ hneA (KS.out _ _ _ _ hneA HK7.out))) | exact KS.out _ _ _ _ hneA (KS.out _ _ _ _ hneA (KS.out _ _ _ _ hneB (KS.out _ _ _ _ hneB HK7.out))) | exact HKc.out _ (grownBy_of_below (Below.drew (Below.refl w4.heap.size w4)) (Nat.le_refl _) _) | assumption | go_keep)
      ((go_at_call 52; refine (anyPlan_any _ rb _ (hr4.below (Below.drew (Below.refl w4.heap.size w4)) hr4.lt) (by omega)).mono ?_; rintro e w7 ⟨v7, pb, p7, rfl, hP7, hD7, hp7, hr7, hg7⟩; obtain ⟨vc7, vs7, rfl, hc7, hs7⟩ := id hP7; obtain ⟨b6, d6, rfl, _, _⟩ := hc7.form; obtain ⟨b7, d7, rfl, _, _⟩ := hs7.form; have hG7 : w4.grownBy w7 (some rb) := grownBy_trans (grownBy_of_below (Below.drew (Below.refl w4.heap.size w4)) (Nat.le_refl _) _) hg7 (fun x hx => .inl hx); have HK7 := Lib.hid (HKc.out _ hG7); obtain ⟨_, ⟨z0, t0⟩, ⟨z1, t1⟩, ⟨z2, t2⟩, ⟨z3, t3⟩, fta, ftb⟩ := KX.out _ (grownBy_trans HG4.out hG7 (fun x hx => .inl hx)); have ft0 := fta 0; have ft1 := fta 1; have ft2 := ftb 0; have ft3 := ftb 1; clear fta ftb))
    have hPb7 := hP7.mono (show w.heap.size + 2 ≤ w4.heap.size from HZ.out)
    have hPa7 := (HP3.out.grown (HW3c.out) (fun q hq => by cases hq; omega)).grown hG7 (fun q hq => by cases hq; omega)
    have hgA := grownBy_trans HWw.out (grownBy_trans HG4.out hG7 (fun x hx => .inl hx)) (fun x hx => .inl hx)
    have HF : Hid (∀ u1 u2 u3 u4 : Value, TwoDr w hi rb p (.returned (.tuple #[.agg #[.slice b4 pa.cl.length d4, .slice b5 pa.st.length d5], .agg #[.slice b6 pb.cl.length d6, .slice b7 pb.st.length d7]])) ((((w7.setCell ⟨w.heap.size, 0, none⟩ u1).setCell ⟨w.heap.size, 1, none⟩ u2).setCell ⟨w.heap.size + 1, 0, none⟩ u3).setCell ⟨w.heap.size + 1, 1, none⟩ u4)) := fun u1 u2 u3 u4 => by
      have h0 := two_kept (two_kept (two_kept (two_kept ⟨hPa7, hPb7, hr7, hgA⟩ hrb rfl w.heap.size 0 (.inl rfl) u1) hrb rfl w.heap.size 1 (.inl rfl) u2) hrb rfl (w.heap.size + 1) 0 (.inr rfl) u3) hrb rfl (w.heap.size + 1) 1 (.inr rfl) u4
      exact ⟨_, _, pa, _, p7, rfl, h0.1.mono (by omega), h0.2.1.mono (by omega), by omega, h0.2.2.1, h0.2.2.2⟩
    clear hPa7 hPb7 hgA hr7 hg7 hG7 HK7 hc7 hs7 hP7
    go_wp2
    exact bodyPost_ret (v := .tuple #[.agg #[.slice b4 pa.cl.length d4, .slice b5 pa.st.length d5], .agg #[.slice b6 pb.cl.length d6, .slice b7 pb.st.length d7]]) (by simp [results, Try.results84, go_sem, t0, t1, t2, t3, ft0, ft1, ft2, ft3]) rfl (HF.out _ _ _ _)
  · have HVC : Hid (validCl pa.cl = true) := (validP_iff.1 HOK.out.symm).1
    go_wp2_with fail
    refine (pick_h _ rb _ 12 hr4 (by omega) (by omega)).mono ?_; rintro e w5 ⟨x, rfl, hx, hr5, hg5⟩
    have HG5 : Hid (w0.grownBy w5 (some rb)) := grownBy_trans HG4.out hg5 (fun x hx => .inl hx)
    have HW3c : Hid (w3.grownBy w5 (some rb)) := grownBy_trans HW34.out hg5 (fun x hx => .inl hx)
    have hzc : w.heap.size + 2 ≤ w5.heap.size := by have := hg5.size; omega
    have HCV := Lib.hid (HCV4.out.grown hg5 (fun q hq => by cases hq; have := HS0.out; omega))
    clear hg5 hr4
    by_cases hx0 : x = 0
    · have d0 : (x == 0) = true := by rw [hx0]; rfl
      clear hx0 hx
      have HKc : Hid (∀ W, w5.grownBy W (some rb) → W.cell? ⟨w2.heap.size, 0, none⟩ = some (.slice b4 pa.cl.length d4) ∧ W.cell? ⟨w2.heap.size, 1, none⟩ = some (.slice b5 pa.st.length d5)) := fun W h => HK.out W (grownBy_trans HW3c.out h (fun x hx => .inl hx))
      obtain ⟨u0, u1⟩ := HKc.out _ (grownBy_refl _ _)
      have HZ : Hid (w.heap.size + 2 ≤ w5.heap.size) := hzc
      go_wp2_with fail
      go_region_held3 (fun W => W.cell? ⟨w2.heap.size, 0, none⟩ = some (.slice b4 pa.cl.length d4) ∧ W.cell? ⟨w2.heap.size, 1, none⟩ = some (.slice b5 pa.st.length d5))
        (first | exact HK7.out | exact KS.out _ _ _ _ hneA (KS.out _ _ _ _ hneA HK7.out) | exact KS.out _ _ _ _ hneB (KS.out _ _ _ _ hneB HK7.out) | exact KS.out _ _ _ _ hneB (KS.out _ _ _ _ hneB (KS.out _ _ _ _ hneA (KS.out _ _ _ _ hneA HK7.out))) | exact KS.out _ _ _ _ hneA (KS.out _ _ _ _ hneA (KS.out _ _ _ _ hneB (KS.out _ _ _ _ hneB HK7.out))) | exact HKc.out _ (grownBy_of_below (Below.drew (Below.refl w5.heap.size w5)) (Nat.le_refl _) _) | assumption | go_keep)
        ((go_at_call 52; refine (anyPlan_any _ rb _ (hr5.below (Below.drew (Below.refl w5.heap.size w5)) hr5.lt) (by omega)).mono ?_; rintro e w7 ⟨v7, pb, p7, rfl, hP7, hD7, hp7, hr7, hg7⟩; obtain ⟨vc7, vs7, rfl, hc7, hs7⟩ := id hP7; obtain ⟨b6, d6, rfl, _, _⟩ := hc7.form; obtain ⟨b7, d7, rfl, _, _⟩ := hs7.form; have hG7 : w5.grownBy w7 (some rb) := grownBy_trans (grownBy_of_below (Below.drew (Below.refl w5.heap.size w5)) (Nat.le_refl _) _) hg7 (fun x hx => .inl hx); have HK7 := Lib.hid (HKc.out _ hG7); obtain ⟨_, ⟨z0, t0⟩, ⟨z1, t1⟩, ⟨z2, t2⟩, ⟨z3, t3⟩, fta, ftb⟩ := KX.out _ (grownBy_trans HG5.out hG7 (fun x hx => .inl hx)); have ft0 := fta 0; have ft1 := fta 1; have ft2 := ftb 0; have ft3 := ftb 1; clear fta ftb))
      have hPb7 := hP7.mono (show w.heap.size + 2 ≤ w5.heap.size from HZ.out)
      have hPa7 := (HP3.out.grown (HW3c.out) (fun q hq => by cases hq; omega)).grown hG7 (fun q hq => by cases hq; omega)
      have hgA := grownBy_trans HWw.out (grownBy_trans HG5.out hG7 (fun x hx => .inl hx)) (fun x hx => .inl hx)
      have HF : Hid (∀ u1 u2 u3 u4 : Value, TwoDr w hi rb p (.returned (.tuple #[.agg #[.slice b4 pa.cl.length d4, .slice b5 pa.st.length d5], .agg #[.slice b6 pb.cl.length d6, .slice b7 pb.st.length d7]])) ((((w7.setCell ⟨w.heap.size, 0, none⟩ u1).setCell ⟨w.heap.size, 1, none⟩ u2).setCell ⟨w.heap.size + 1, 0, none⟩ u3).setCell ⟨w.heap.size + 1, 1, none⟩ u4)) := fun u1 u2 u3 u4 => by
        have h0 := two_kept (two_kept (two_kept (two_kept ⟨hPa7, hPb7, hr7, hgA⟩ hrb rfl w.heap.size 0 (.inl rfl) u1) hrb rfl w.heap.size 1 (.inl rfl) u2) hrb rfl (w.heap.size + 1) 0 (.inr rfl) u3) hrb rfl (w.heap.size + 1) 1 (.inr rfl) u4
        exact ⟨_, _, pa, _, p7, rfl, h0.1.mono (by omega), h0.2.1.mono (by omega), by omega, h0.2.2.1, h0.2.2.2⟩
      clear hPa7 hPb7 hgA hr7 hg7 hG7 HK7 hc7 hs7 hP7
      go_wp2
      exact bodyPost_ret (v := .tuple #[.agg #[.slice b4 pa.cl.length d4, .slice b5 pa.st.length d5], .agg #[.slice b6 pb.cl.length d6, .slice b7 pb.st.length d7]]) (by simp [results, Try.results84, go_sem, t0, t1, t2, t3, ft0, ft1, ft2, ft3]) rfl (HF.out _ _ _ _)
    · have d0 : (x == 0) = false := by simp [hx0]
      clear hx0 hx
      have HKc : Hid (∀ W, w5.grownBy W (some rb) → W.cell? ⟨w2.heap.size, 0, none⟩ = some (.slice b4 pa.cl.length d4) ∧ W.cell? ⟨w2.heap.size, 1, none⟩ = some (.slice b5 pa.st.length d5)) := fun W h => HK.out W (grownBy_trans HW3c.out h (fun x hx => .inl hx))
      obtain ⟨u0, u1⟩ := HKc.out _ (grownBy_refl _ _)
      have HZ : Hid (w.heap.size + 2 ≤ w5.heap.size) := hzc
      go_wp2_with fail
      go_region_held3 (fun W => W.cell? ⟨w2.heap.size, 0, none⟩ = some (.slice b4 pa.cl.length d4) ∧ W.cell? ⟨w2.heap.size, 1, none⟩ = some (.slice b5 pa.st.length d5))
        (first | exact HK7.out | exact KS.out _ _ _ _ hneA (KS.out _ _ _ _ hneA HK7.out) | exact KS.out _ _ _ _ hneB (KS.out _ _ _ _ hneB HK7.out) | exact KS.out _ _ _ _ hneB (KS.out _ _ _ _ hneB (KS.out _ _ _ _ hneA (KS.out _ _ _ _ hneA HK7.out))) | exact KS.out _ _ _ _ hneA (KS.out _ _ _ _ hneA (KS.out _ _ _ _ hneB (KS.out _ _ _ _ hneB HK7.out))) | exact HKc.out _ (grownBy_of_below (Below.drew (Below.refl w5.heap.size w5)) (Nat.le_refl _) _) | assumption | go_keep)
        ((go_at_call 101; refine (randomPlan_any _ rb _ w0.heap.size _ pa.cl (hr5.below (Below.drew (Below.refl w5.heap.size w5)) hr5.lt) (by omega) (HCV.out.below (Below.drew (Below.refl w5.heap.size w5)) (Nat.le_refl _)) (by have := HS0.out; omega) HVC.out).mono ?_; rintro e w7 ⟨vs7, ss7, p7, rfl, hS7, hn7, hp7, hr7, hg7⟩; obtain ⟨b7, d7, rfl, _, _⟩ := hS7.stg.form; have hG7 : w5.grownBy w7 (some rb) := grownBy_trans (grownBy_of_below (Below.drew (Below.refl w5.heap.size w5)) (Nat.le_refl _) _) hg7 (fun x hx => .inl hx); have HK7 := Lib.hid (HKc.out _ hG7); obtain ⟨_, ⟨z0, t0⟩, ⟨z1, t1⟩, ⟨z2, t2⟩, ⟨z3, t3⟩, fta, ftb⟩ := KX.out _ (grownBy_trans HG5.out hG7 (fun x hx => .inl hx)); have ft0 := fta 0; have ft1 := fta 1; have ft2 := ftb 0; have ft3 := ftb 1; clear fta ftb))
      have hPb7 : PlanR w7 (w.heap.size + 2) (.agg #[.slice b4 pa.cl.length d4, .slice b7 ss7.length d7]) ⟨pa.cl, ss7⟩ := ⟨_, _, rfl, ((HCV.out.below (Below.drew (Below.refl w5.heap.size w5)) (Nat.le_refl _)).grown hg7 (fun q hq => by cases hq; have := HS0.out; omega)).mono (by have := HS0.out; omega), hS7.stg.mono HZ.out⟩
      have hPa7 := (HP3.out.grown (HW3c.out) (fun q hq => by cases hq; omega)).grown hG7 (fun q hq => by cases hq; omega)
      have hgA := grownBy_trans HWw.out (grownBy_trans HG5.out hG7 (fun x hx => .inl hx)) (fun x hx => .inl hx)
      have HF : Hid (∀ u1 u2 u3 u4 : Value, TwoDr w hi rb p (.returned (.tuple #[.agg #[.slice b4 pa.cl.length d4, .slice b5 pa.st.length d5], .agg #[.slice b4 pa.cl.length d4, .slice b7 ss7.length d7]])) ((((w7.setCell ⟨w.heap.size, 0, none⟩ u1).setCell ⟨w.heap.size, 1, none⟩ u2).setCell ⟨w.heap.size + 1, 0, none⟩ u3).setCell ⟨w.heap.size + 1, 1, none⟩ u4)) := fun u1 u2 u3 u4 => by
        have h0 := two_kept (two_kept (two_kept (two_kept ⟨hPa7, hPb7, hr7, hgA⟩ hrb rfl w.heap.size 0 (.inl rfl) u1) hrb rfl w.heap.size 1 (.inl rfl) u2) hrb rfl (w.heap.size + 1) 0 (.inr rfl) u3) hrb rfl (w.heap.size + 1) 1 (.inr rfl) u4
        exact ⟨_, _, pa, _, p7, rfl, h0.1.mono (by omega), h0.2.1.mono (by omega), by omega, h0.2.2.1, h0.2.2.2⟩
      clear hPa7 hPb7 hgA hr7 hg7 hG7 HK7 hS7
      go_wp2
      exact bodyPost_ret (v := .tuple #[.agg #[.slice b4 pa.cl.length d4, .slice b5 pa.st.length d5], .agg #[.slice b4 pa.cl.length d4, .slice b7 ss7.length d7]]) (by simp [results, Try.results84, go_sem, t0, t1, t2, t3, ft0, ft1, ft2, ft3]) rfl (HF.out _ _ _ _)
end

section
open Go.RowKit
set_option linter.unusedVariables false
set_option linter.unusedSimpArgs false

theorem bytes_blkS {w : World} {v : Value} {bs : List UInt8} (hv : Bytes w 0 v bs) : bs ≠ [] → ∀ k, v.ownBlock = some k → k < w.heap.size := by
  intro hne k hk
  obtain ⟨_, ao, cap, rfl, _, _, _, hc⟩ := hv
  obtain ⟨b, off, rfl, _, hcell⟩ := hc (by cases bs <;> simp_all)
  cases hk
  exact World.block_lt_of_cell? w ⟨b, off + 0, none⟩ (hcell 0 (by cases bs <;> simp_all))
theorem plans_kept {w W : World} {lo : Nat} {va vb : Value} {a b : Pln} (h : PlanR W (lo + 2) va a ∧ PlanR W (lo + 2) vb b ∧ Below lo w W) (c o : Nat) (hc : c = lo ∨ c = lo + 1) (u : Value) :
    PlanR (W.setCell ⟨c, o, none⟩ u) (lo + 2) va a ∧ PlanR (W.setCell ⟨c, o, none⟩ u) (lo + 2) vb b ∧ Below lo w (W.setCell ⟨c, o, none⟩ u) := by
  have hg : W.grownBy (W.setCell ⟨c, o, none⟩ u) (some c) := cell_grown (b' := c) u o
  exact ⟨h.1.grown hg (fun q hq => by cases hq; omega), h.2.1.grown hg (fun q hq => by cases hq; omega), h.2.2.setCell (by show lo ≤ c; omega) u⟩

def DrawSG (w : World) (e : Ending) (w' : World) : Prop := ∃ va vb a b, ∃ f s : Int, e = .returned (.tuple #[va, vb, .int .i64 f, .int .i64 s]) ∧ PlanR w' w.heap.size va a ∧ PlanR w' w.heap.size vb b ∧ Below w.heap.size w w'
set_option maxHeartbeats 16000000 in
set_option maxRecDepth 100000 in
theorem drawSwitchedGreen (w : World) (v : Value) (bs : List UInt8) (hv : Bytes w 0 v bs) :
    Calls Try.prog 35 #[v] w (DrawSG w) := by
  obtain ⟨wa, hwa⟩ : ∃ x, x = w.alloc (.cells #[.slice none 0 0, .slice none 0 0] 26) := ⟨_, rfl⟩
  have hXa := Own.made w [.slice none 0 0, .slice none 0 0] 26 w.heap.size 2 1 rfl (Nat.le_refl _) (by decide)
  rw [show (w.alloc (Obj.cells [Value.slice none 0 0, Value.slice none 0 0].toArray 26)) = wa from hwa.symm] at hXa
  have hsa : wa.heap.size = w.heap.size + 1 := by rw [hwa]; simp
  obtain ⟨w0, hw0⟩ : ∃ x, x = wa.alloc (.cells #[.slice none 0 0, .slice none 0 0] 26) := ⟨_, rfl⟩
  have hXb := Own.made wa [.slice none 0 0, .slice none 0 0] 26 (w.heap.size + 1) 2 1 rfl (by omega) (by decide)
  rw [show (wa.alloc (Obj.cells [Value.slice none 0 0, Value.slice none 0 0].toArray 26)) = w0 from hw0.symm, hsa] at hXb
  have hBa : Below w.heap.size w wa := by rw [hwa]; exact (Below.refl _ _).alloc (Nat.le_refl _) _
  have hBb : Below wa.heap.size wa w0 := by rw [hw0]; exact (Below.refl _ _).alloc (Nat.le_refl _) _
  have hB0 := hBa.trans (hBb.mono hBa.size)
  have hs0 : w0.heap.size = w.heap.size + 2 := by rw [hw0]; simp [hsa]
  have HXA := Lib.hid (hXa.below hBb (Nat.le_refl _))
  have HXB := Lib.hid hXb
  have HB0 := Lib.hid hB0
  have HBB := Lib.hid (bytes_blkS hv)
  have HV0 := Lib.hid (Rd.below hv hB0 (Nat.le_refl _) (by decide) : Bytes w0 0 v bs)
  have hW : w0 = (w.alloc (.cells #[.slice none 0 0, .slice none 0 0] 26)).alloc (.cells #[.slice none 0 0, .slice none 0 0] 26) := by rw [hw0, hwa]
  have HW := Lib.hid hW
  have HS0 := Lib.hid hs0
  obtain ⟨ao, cap, rfl, _, _⟩ := hv.form
  clear hXa hXb hsa hs0 hBa hBb hB0 hwa hw0 hv hW
  go_enter Try.func35, Try.ntmps35
  go_wp2_with fail
  rw [← HW.out]
  clear HW
  refine (newReader_B w0 w.heap.size _ bs HV0.out HBB.out HB0.out.size).mono ?_; rintro e w1 ⟨rfl, hr1, hB1⟩
  rw [HS0.out] at hr1
  have hr1 : Rdh w.heap.size w1 (w.heap.size + 2) 0 := hr1
  have HX1A := Lib.hid (HXA.out.below hB1 (Nat.le_refl _))
  have HX1B := Lib.hid (HXB.out.below hB1 (Nat.le_refl _))
  have HB1 := Lib.hid (HB0.out.trans (hB1.mono HB0.out.size))
  have hz1 : w.heap.size + 2 < w1.heap.size := hr1.lt
  rw [show w0.heap.size = w.heap.size + 2 from HS0.out]
  have KX : Hid (∀ W, w1.grownBy W (some (w.heap.size + 2)) → (∃ z, W.cell? ⟨w.heap.size, 0, none⟩ = some z) ∧ (∃ z, W.cell? ⟨w.heap.size, 1, none⟩ = some z) ∧ (∃ z, W.cell? ⟨w.heap.size + 1, 0, none⟩ = some z) ∧ (∃ z, W.cell? ⟨w.heap.size + 1, 1, none⟩ = some z) ∧ (∀ o, W.frozen? ⟨w.heap.size, o, none⟩ = false) ∧ (∀ o, W.frozen? ⟨w.heap.size + 1, o, none⟩ = false)) := fun W h => by
    obtain ⟨_, e1, _, _, p9, f9, _⟩ := (HX1A.out.grown h (fun q hq => .inr (by cases hq; simp [Value.ownBlock]))).parts (by omega)
    cases e1
    obtain ⟨_, e1, _, _, p8, f8, _⟩ := (HX1B.out.grown h (fun q hq => .inr (by cases hq; simp [Value.ownBlock]))).parts (by omega)
    cases e1
    exact ⟨⟨_, p9 0 (by simp)⟩, ⟨_, p9 1 (by simp)⟩, ⟨_, p8 0 (by simp)⟩, ⟨_, p8 1 (by simp)⟩, f9, f8⟩
  clear hB1 HXA HXB HB0 HV0 HBB HX1A HX1B
  go_wp2_with fail
  refine (twoPlans_any _ _ _ hr1 (by omega)).mono ?_; rintro e w2 ⟨va, vb, a, b, p2, rfl, hPa, hPb, hp2, hr2, hg2⟩
  have hPa0 := hPa
  have hPb0 := hPb
  obtain ⟨a0, c0, a1, c1, rfl, _, _⟩ := hPa.aggs
  obtain ⟨b0, d0, b1, d1, rfl, _, _⟩ := hPb.aggs
  obtain ⟨w3, hw3, hB3, hz3, K⟩ := two_box w2 (.slice a0 a.cl.length c0) (.slice a1 a.st.length c1) (.slice b0 b.cl.length d0) (.slice b1 b.st.length d1) 26
  have hz2 : w.heap.size + 2 < w2.heap.size := Nat.lt_of_lt_of_le hz1 hg2.size
  have hr3 := hr2.below hB3 hr2.lt
  have HPA3 := Lib.hid ((hPa0.below hB3 (Nat.le_refl _)).mono (show w.heap.size + 3 ≤ w1.heap.size by omega))
  have HPB3 := Lib.hid ((hPb0.below hB3 (Nat.le_refl _)).mono (show w.heap.size + 3 ≤ w1.heap.size by omega))
  have HG3 : Hid (w1.grownBy w3 (some (w.heap.size + 2))) := grownBy_trans hg2 (grownBy_of_below hB3 (Nat.le_refl _) _) (fun x hx => .inl hx)
  have HK3 := Lib.hid (K w3 (Below.refl _ _))
  have HW3 := Lib.hid hw3
  clear hPa hPb hPa0 hPb0 hr1 hr2 hg2 hw3 hB3 K
  go_wp2_with fail
  rw [← HW3.out]
  clear HW3
  refine (anySecond_any _ _ _ hr3 (by omega)).mono ?_; rintro e w5 ⟨f, rfl, hf, hr5, hg5⟩
  have HG5 : Hid (w1.grownBy w5 (some (w.heap.size + 2))) := grownBy_trans HG3.out hg5 (fun x hx => .inl hx)
  have HPA5 := Lib.hid (HPA3.out.grown hg5 (fun q hq => by cases hq; omega))
  have HPB5 := Lib.hid (HPB3.out.grown hg5 (fun q hq => by cases hq; omega))
  have hbk : ∀ (k o : Nat), (k = w2.heap.size ∨ k = w2.heap.size + 1) → w5.cell? ⟨k, o, none⟩ = w3.cell? ⟨k, o, none⟩ := fun k o hk => World.cell?_of_block (a := ⟨k, o, none⟩) (hg5.block k (by omega) (fun e => by injection e with e; omega))
  have hz5 := hg5.size
  have KC : Hid (∀ W, w5.grownBy W (some (w.heap.size + 2)) → (W.cell? ⟨w2.heap.size, 0, none⟩ = some (.slice a0 a.cl.length c0) ∧ W.cell? ⟨w2.heap.size, 1, none⟩ = some (.slice a1 a.st.length c1)) ∧ (W.cell? ⟨w2.heap.size + 1, 0, none⟩ = some (.slice b0 b.cl.length d0) ∧ W.cell? ⟨w2.heap.size + 1, 1, none⟩ = some (.slice b1 b.st.length d1))) := fun W h => by
    have hb2 : ∀ (k o : Nat), (k = w2.heap.size ∨ k = w2.heap.size + 1) → W.cell? ⟨k, o, none⟩ = w3.cell? ⟨k, o, none⟩ := fun k o hk => (World.cell?_of_block (a := ⟨k, o, none⟩) (h.block k (by omega) (fun e => by injection e with e; omega))).trans (hbk k o hk)
    exact ⟨⟨(hb2 _ 0 (.inl rfl)).trans HK3.out.1.1, (hb2 _ 1 (.inl rfl)).trans HK3.out.1.2⟩, (hb2 _ 0 (.inr rfl)).trans HK3.out.2.1, (hb2 _ 1 (.inr rfl)).trans HK3.out.2.2⟩
  have KS : Hid (∀ (W : World) (c o : Nat) (u : Value), (c = w.heap.size ∨ c = w.heap.size + 1) → ((W.cell? ⟨w2.heap.size, 0, none⟩ = some (.slice a0 a.cl.length c0) ∧ W.cell? ⟨w2.heap.size, 1, none⟩ = some (.slice a1 a.st.length c1)) ∧ (W.cell? ⟨w2.heap.size + 1, 0, none⟩ = some (.slice b0 b.cl.length d0) ∧ W.cell? ⟨w2.heap.size + 1, 1, none⟩ = some (.slice b1 b.st.length d1))) → (((W.setCell ⟨c, o, none⟩ u).cell? ⟨w2.heap.size, 0, none⟩ = some (.slice a0 a.cl.length c0) ∧ (W.setCell ⟨c, o, none⟩ u).cell? ⟨w2.heap.size, 1, none⟩ = some (.slice a1 a.st.length c1)) ∧ ((W.setCell ⟨c, o, none⟩ u).cell? ⟨w2.heap.size + 1, 0, none⟩ = some (.slice b0 b.cl.length d0) ∧ (W.setCell ⟨c, o, none⟩ u).cell? ⟨w2.heap.size + 1, 1, none⟩ = some (.slice b1 b.st.length d1)))) :=
    fun W c o u hc h => by
      have h1 : c ≠ w2.heap.size := by omega
      have h2 : c ≠ w2.heap.size + 1 := by omega
      exact ⟨⟨(World.cell?_setCell_far _ _ _ _ h1).trans h.1.1, (World.cell?_setCell_far _ _ _ _ h1).trans h.1.2⟩, (World.cell?_setCell_far _ _ _ _ h2).trans h.2.1, (World.cell?_setCell_far _ _ _ _ h2).trans h.2.2⟩
  obtain ⟨⟨u0, u1⟩, u2, u3⟩ := KC.out _ (grownBy_refl _ _)
  have wf1 : IntKind.i64.wrap (f + 10) = f + 10 := IntWalk.i64_in _ (by omega)
  have wf2 : IntKind.i64.wrap (f + 30) = f + 30 := IntWalk.i64_in _ (by omega)
  have wf3 : IntKind.i64.wrap (f + 60) = f + 60 := IntWalk.i64_in _ (by omega)
  clear hg5 hbk hr3 HK3
  go_wp2_with fail
  go_region_held3 (fun W => (W.cell? ⟨w2.heap.size, 0, none⟩ = some (.slice a0 a.cl.length c0) ∧ W.cell? ⟨w2.heap.size, 1, none⟩ = some (.slice a1 a.st.length c1)) ∧ (W.cell? ⟨w2.heap.size + 1, 0, none⟩ = some (.slice b0 b.cl.length d0) ∧ W.cell? ⟨w2.heap.size + 1, 1, none⟩ = some (.slice b1 b.st.length d1)))
    (first | exact HK7.out |  (with_reducible exact KS.out _ _ _ _ (.inl rfl) (KS.out _ _ _ _ (.inl rfl) HK7.out)) | (with_reducible exact KS.out _ _ _ _ (.inr rfl) (KS.out _ _ _ _ (.inr rfl) HK7.out)) | (with_reducible exact KS.out _ _ _ _ (.inr rfl) (KS.out _ _ _ _ (.inr rfl) (KS.out _ _ _ _ (.inl rfl) (KS.out _ _ _ _ (.inl rfl) HK7.out)))) | (with_reducible exact KS.out _ _ _ _ (.inl rfl) (KS.out _ _ _ _ (.inl rfl) (KS.out _ _ _ _ (.inr rfl) (KS.out _ _ _ _ (.inr rfl) HK7.out)))) | exact KC.out _ (grownBy_of_below (Below.drew (Below.refl w5.heap.size w5)) (Nat.le_refl _) _) | assumption | go_keep)
    ((first
      | (go_at_call 86; (with_reducible show Calls _ _ #[_, Value.slice _ 8 8] _ _); refine (one_LR _ _ _ [f, f + 10, f + 30, f + 60, 0, 9999, 10000, -1] _ 8 rfl (hr5.below (Below.drew (Below.refl w5.heap.size w5)) hr5.lt) (by omega) (by omega) (by omega)).mono ?_; rintro e w7 ⟨s, rfl, hm0, hr7, hg7⟩; have hG7 : w5.grownBy w7 (some (w.heap.size + 2)) := grownBy_trans (grownBy_of_below (Below.drew (Below.refl w5.heap.size w5)) (Nat.le_refl _) _) hg7 (fun x hx => .inl hx); have HK7 := Lib.hid (KC.out _ hG7); obtain ⟨⟨z0, t0⟩, ⟨z1, t1⟩, ⟨z2, t2⟩, ⟨z3, t3⟩, fta, ftb⟩ := KX.out _ (grownBy_trans HG5.out hG7 (fun x hx => .inl hx)); have ft0 := fta 0; have ft1 := fta 1; have ft2 := ftb 0; have ft3 := ftb 1; clear fta ftb)))
  all_goals
    have hGl := grownBy_trans HG5.out hG7 (fun x hx => .inl hx)
    have hBl := HB1.out.trans (below_of_grownBy hGl (B := w.heap.size) HB1.out.size (fun k hk => by cases hk; omega))
    have HF : Hid (∀ u1 u2 u3 u4 : Value, DrawSG w (.returned (.tuple #[.agg #[.slice a0 a.cl.length c0, .slice a1 a.st.length c1], .agg #[.slice b0 b.cl.length d0, .slice b1 b.st.length d1], .int .i64 f, .int .i64 s])) ((((w7.setCell ⟨w.heap.size, 0, none⟩ u1).setCell ⟨w.heap.size, 1, none⟩ u2).setCell ⟨w.heap.size + 1, 0, none⟩ u3).setCell ⟨w.heap.size + 1, 1, none⟩ u4)) := fun u1 u2 u3 u4 => by
      have h0 := plans_kept (plans_kept (plans_kept (plans_kept ⟨(HPA5.out.grown hG7 (fun q hq => by cases hq; omega)).mono (by omega), (HPB5.out.grown hG7 (fun q hq => by cases hq; omega)).mono (by omega), hBl⟩ w.heap.size 0 (.inl rfl) u1) w.heap.size 1 (.inl rfl) u2) (w.heap.size + 1) 0 (.inr rfl) u3) (w.heap.size + 1) 1 (.inr rfl) u4
      exact ⟨_, _, a, b, f, s, rfl, h0.1.mono (by omega), h0.2.1.mono (by omega), h0.2.2⟩
    clear hr7 hg7 hG7 HK7 hGl hBl
    go_wp2
    exact bodyPost_ret (v := .tuple #[.agg #[.slice a0 a.cl.length c0, .slice a1 a.st.length c1], .agg #[.slice b0 b.cl.length d0, .slice b1 b.st.length d1], .int .i64 f, .int .i64 s]) (by simp [results, Try.results35, go_sem, t0, t1, t2, t3, ft0, ft1, ft2, ft3]) rfl (HF.out _ _ _ _)
end
end Go.Proofs.Ytokpgipbgkiepaa
