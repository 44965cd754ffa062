/- Draws of plans: anyPlan. -/
import Derived.Test.YtokpgipbgkiepaaDrP4
namespace Go.Proofs.Ytokpgipbgkiepaa
open Go.RowKit
set_option linter.unusedVariables false
set_option linter.unusedSimpArgs false

theorem stgCells_get (hs : List Value) (ss : List Stg) {j : Nat} (hj : j < ss.length) : (stgCells hs ss)[j * 2]? = some (hs.getD j .nilFunc) ∧ (stgCells hs ss)[j * 2 + 1]? = some (.int .i64 (ss.getD j s0).gr) := by
  unfold stgCells
  have a := flat2_get (f := fun i => ([hs.getD i .nilFunc, .int .i64 (ss.getD i s0).gr] : List Value)) (fun _ => rfl) ss.length j 0 hj (by omega)
  have b := flat2_get (f := fun i => ([hs.getD i .nilFunc, .int .i64 (ss.getD i s0).gr] : List Value)) (fun _ => rfl) ss.length j 1 hj (by omega)
  exact ⟨by simpa using a, by simpa using b⟩
def setGr (ss : List Stg) (x : Int) : List Stg := ss.set 0 ⟨(ss.getD 0 s0).ph, x⟩
def setPh (ss : List Stg) (ys : List Int) : List Stg := ss.set 0 ⟨ys, (ss.getD 0 s0).gr⟩
theorem set0_get {ss : List Stg} (h : 0 < ss.length) (s : Stg) (j : Nat) : (ss.set 0 s).getD j s0 = if j = 0 then s else ss.getD j s0 := by
  by_cases e : j = 0
  · subst e; simp [List.getD_eq_getElem?_getD, h]
  · rw [if_neg e]; simp [List.getD_eq_getElem?_getD, List.getElem?_set_ne (fun h => e h.symm)]
theorem stg_setGr {hs : List Value} {ss : List Stg} (h : 0 < ss.length) (x : Int) : (stgCells hs ss).set 1 (.int .i64 x) = stgCells hs (setGr ss x) := by
  refine stgCells_eq (by unfold setGr; simp [stgCells_len]) (fun j hj => ?_)
  have hj' : j < ss.length := by unfold setGr at hj; simpa using hj
  obtain ⟨a, b⟩ := stgCells_get hs ss hj'
  rw [List.getElem?_set_ne (by omega)]
  refine ⟨a, ?_⟩
  unfold setGr; rw [set0_get h]
  by_cases e : j = 0
  · subst e; rw [if_pos rfl, Nat.zero_mul, Nat.zero_add, List.getElem?_set_self (by rw [stgCells_len]; omega)]
  · rw [if_neg e, List.getElem?_set_ne (by omega)]; exact b
theorem stg_setPh {hs : List Value} {ss : List Stg} (h : 0 < ss.length) (hl : hs.length = ss.length) (u : Value) (ys : List Int) : (stgCells hs ss).set 0 u = stgCells (hs.set 0 u) (setPh ss ys) := by
  refine stgCells_eq (by unfold setPh; simp [stgCells_len]) (fun j hj => ?_)
  have hj' : j < ss.length := by unfold setPh at hj; simpa using hj
  obtain ⟨a, b⟩ := stgCells_get hs ss hj'
  unfold setPh; rw [set0_get h]
  by_cases e : j = 0
  · subst e
    rw [if_pos rfl]
    refine ⟨?_, ?_⟩
    · rw [Nat.zero_mul, List.getElem?_set_self (by rw [stgCells_len]; omega)]
      simp [List.getD_eq_getElem?_getD, hl, h]
    · rw [List.getElem?_set_ne (by omega)]; exact b
  · rw [if_neg e]
    refine ⟨?_, ?_⟩
    · rw [List.getElem?_set_ne (by omega), a]
      simp [List.getD_eq_getElem?_getD, List.getElem?_set_ne (fun h => e h.symm)]
    · rw [List.getElem?_set_ne (by omega)]; exact b
/-- Stages whose first green is written. -/
theorem OwnStg.setGreen {w : World} {lo gs len cap : Nat} {ss : List Stg} (h : OwnStg w lo (.slice (some ⟨gs, 0, none⟩) len cap) ss) (hn : 0 < ss.length) (x : Int) :
    StgS (w.setCell ⟨gs, 1, none⟩ (.int .i64 x)) lo (.slice (some ⟨gs, 0, none⟩) len cap) (setGr ss x) ∧ w.grownBy (w.setCell ⟨gs, 1, none⟩ (.int .i64 x)) (some gs) := by
  obtain ⟨hs, hO, hR, hA⟩ := h
  obtain ⟨hS, hg⟩ := hO.store hn 1 (.int .i64 x)
  have hlen : (setGr ss x).length = ss.length := by simp [setGr]
  obtain ⟨_, _, e, hc, _⟩ := hO.form
  cases e
  have hR2 := hR.grown hg (fun q hq => .inr (fun j hj e => by cases hq; exact hA j hj gs (by rw [wblk, if_neg (by omega)]) e))
  rw [stg_setGr hn] at hS
  refine ⟨⟨hs, by have h := hS.rd; unfold stgCells at h; rw [hlen] at h ⊢; exact h, fun i hi => ?_⟩, hg⟩
  rw [hlen] at hi
  have := (hR2.2.1 i hi).rd
  rw [phsOf_get hi] at this
  have e : ((setGr ss x).getD i s0).ph = (ss.getD i s0).ph := by
    unfold setGr; rw [set0_get hn]; split
    · subst i; rfl
    · rfl
  rw [e]; exact this
/-- Stages whose first phase is written. -/
theorem OwnStg.setPhase {w : World} {lo lo' gs len cap : Nat} {ss : List Stg} {u : Value} {ys : List Int} (h : OwnStg w lo (.slice (some ⟨gs, 0, none⟩) len cap) ss) (hn : 0 < ss.length) (hu : Ints w lo' u ys) (hgs : gs < lo') (hlo : lo ≤ lo') :
    StgS (w.setCell ⟨gs, 0, none⟩ u) lo (.slice (some ⟨gs, 0, none⟩) len cap) (setPh ss ys) ∧ w.grownBy (w.setCell ⟨gs, 0, none⟩ u) (some gs) := by
  obtain ⟨hs, hO, hR, hA⟩ := h
  obtain ⟨hS, hg⟩ := hO.store hn 0 u
  have hlen : (setPh ss ys).length = ss.length := by simp [setPh]
  obtain ⟨_, _, e, hc, _⟩ := hO.form
  cases e
  have hR2 := hR.grown hg (fun q hq => .inr (fun j hj e => by cases hq; exact hA j hj gs (by rw [wblk, if_neg (by omega)]) e))
  rw [stg_setPh hn hR.1 u ys] at hS
  refine ⟨⟨hs.set 0 u, by have h := hS.rd; unfold stgCells at h; rw [hlen] at h ⊢; exact h, fun i hi => ?_⟩, hg⟩
  rw [hlen] at hi
  by_cases e : i = 0
  · subst e
    have e1 : (hs.set 0 u).getD 0 .nilFunc = u := by simp [List.getD_eq_getElem?_getD, hR.1, hn]
    have e2 : ((setPh ss ys).getD 0 s0).ph = ys := by unfold setPh; rw [set0_get hn, if_pos rfl]
    rw [e1, e2]
    exact Rd.mono (Rd.grown hu hg (fun q hq => .inl (by cases hq; exact hgs)) (by decide)) hlo
  · have e1 : (hs.set 0 u).getD i .nilFunc = hs.getD i .nilFunc := by simp [List.getD_eq_getElem?_getD, List.getElem?_set_ne (fun h => e h.symm)]
    have e2 : ((setPh ss ys).getD i s0).ph = (ss.getD i s0).ph := by unfold setPh; rw [set0_get hn, if_neg e]
    rw [e1, e2]
    have := (hR2.2.1 i hi).rd
    rw [phsOf_get hi] at this
    exact this

/-- What a drawn plan takes. -/
structure PlDr (p : Pln) : Prop where
  c : p.cl.length ≤ 8
  r : ∀ i, i < p.cl.length → (p.cl.getD i []).length ≤ 8
  s1 : 1 ≤ p.st.length
  s : p.st.length ≤ 5
  h : ∀ i, i < p.st.length → (p.st.getD i s0).ph.length ≤ 9
def AnyPlan (w : World) (hi rb p : Nat) (e : Ending) (w' : World) : Prop :=
  ∃ v' pl p', e = .returned v' ∧ PlanR w' w.heap.size v' pl ∧ PlDr pl ∧ p' ≤ p + 2500 ∧ Rdh hi w' rb p' ∧ w.grownBy w' (some rb)

set_option maxHeartbeats 16000000 in
theorem anyPlan_any {hi : Nat} (w : World) (rb p : Nat) (hr : Rdh hi w rb p) (hp : p ≤ 800000) :
    Calls Try.prog 52 #[.pointer (some ⟨rb, 0, none⟩)] w (AnyPlan w hi rb p) := by
  have hrb := hr.lt
  obtain ⟨w1, hw1⟩ : ∃ x, x = w.alloc (.cells #[.slice none 0 0, .slice none 0 0] 26) := ⟨_, rfl⟩
  have hX1 := Own.made w [.slice none 0 0, .slice none 0 0] 26 w.heap.size 2 1 rfl (Nat.le_refl _) (by decide)
  have hB1 : Below w.heap.size w w1 := by rw [hw1]; exact (Below.refl _ _).alloc (Nat.le_refl _) _
  have hs1 : w1.heap.size = w.heap.size + 1 := by rw [hw1]; simp
  rw [show (w.alloc (Obj.cells [Value.slice none 0 0, Value.slice none 0 0].toArray 26)) = w1 from hw1.symm] at hX1
  have hr1 := hr.below hB1 hrb
  have HX1 := Lib.hid hX1
  have HS1 := Lib.hid hs1
  have HW1 := Lib.hid hw1
  have HB1 := Lib.hid hB1
  clear hX1 hs1 hw1 hB1 hr
  go_enter Try.func52, Try.ntmps52
  go_wp2_with fail
  rw [← HW1.out]
  clear HW1
  have hone := one_LR w1 rb p [4, 3, 5, 2, 1, 6] 3 6 rfl hr1 (by omega) (by omega) (by omega)
  rw [HS1.out] at hone
  refine hone.mono ?_; rintro e w2 ⟨x, rfl, hx, hr2, hg2⟩
  have hx' := hx.out
  simp at hx'
  obtain ⟨n, rfl⟩ : ∃ m : Nat, x = m := ⟨x.toNat, by omega⟩
  have hn1 : 1 ≤ n := by omega
  have hn8 : n ≤ 8 := by omega
  have hz2 : w.heap.size + 1 ≤ w2.heap.size := by have := hg2.size; rw [HS1.out] at this; exact this
  clear hone hx hx' hr1
  go_wp2_with fail
  go_at_call 102
  refine (randomClear_any _ rb _ n hr2 (by omega) hn1 hn8).mono ?_; rintro e w3 ⟨v3, t, p3, rfl, hX3, hv3, hl3, hp3, hr3, hg3⟩
  have HV3 := Lib.hid hv3
  have HL3 := Lib.hid hl3
  have hz3 : w.heap.size + 1 ≤ w3.heap.size := Nat.le_trans hz2 hg3.size
  have HX3 := Lib.hid hX3.ss
  have HX3u := Lib.hid hX3.up
  have HG3 := Lib.hid (grownBy_trans hg2 hg3 (fun x hx => .inl hx))
  have HROW : Hid (∀ j, j < t.length → (t.getD j []).length ≤ 8) := fun j hj => by
    have := (rowOk_iff.1 ((validCl_iff.1 hv3).2.2.1 j hj)).1
    rw [this, hl3]; exact hn8
  clear hr2 hg2 hv3 hl3 hX3 hg3
  go_wp2_with fail
  go_at_call 101
  refine (randomPlan_any _ rb p3 w2.heap.size _ t hr3 (by omega) HX3.out (by omega) HV3.out).mono ?_; rintro e w4 ⟨vs, ss, p4, rfl, hO4, ⟨hn1s, hn5s, hph⟩, hp4, hr4, hg4⟩
  have hz4 : w.heap.size + 1 ≤ w4.heap.size := Nat.le_trans hz3 hg4.size
  have HG4 := Lib.hid (grownBy_trans HG3.out hg4 (fun x hx => .inl hx))
  have HC4 : Hid (OwnSSh w4 w2.heap.size w3.heap.size v3 t) := HX3u.out.grown hg4 (fun q hq => .inl (by cases hq; omega))
  obtain ⟨ac, cc, rfl, _, _⟩ := HC4.out.own.ss.form
  obtain ⟨as_, cs_, rfl, hcs1, hcs2⟩ := hO4.stg.form
  have hO4' : OwnStg w4 (w.heap.size + 1) (.slice as_ ss.length cs_) ss := hO4.mono hz3
  obtain ⟨gs, rfl, hgs0, hgs1⟩ : ∃ gs, as_ = some ⟨gs, 0, none⟩ ∧ w3.heap.size ≤ gs ∧ gs < w4.heap.size := by
    obtain ⟨hs, hO, _⟩ := hO4
    obtain ⟨g, e, h', h, _⟩ := hO.parts (by omega)
    exact ⟨g, e, h', h⟩
  obtain ⟨w5, hw5⟩ : ∃ x, x = w4.alloc (.cells #[.slice ac t.length cc, .slice (some ⟨gs, 0, none⟩) ss.length cs_] 26) := ⟨_, rfl⟩
  have hX5 := Own.made w4 [.slice ac t.length cc, .slice (some ⟨gs, 0, none⟩) ss.length cs_] 26 w4.heap.size 2 1 rfl (Nat.le_refl _) (by decide)
  rw [show (w4.alloc (Obj.cells [Value.slice ac t.length cc, Value.slice (some ⟨gs, 0, none⟩) ss.length cs_].toArray 26)) = w5 from hw5.symm] at hX5
  have hB5 : Below w4.heap.size w4 w5 := by rw [hw5]; exact (Below.refl _ _).alloc (Nat.le_refl _) _
  have hr5 := hr4.below hB5 hr4.lt
  have HX5 := Lib.hid hX5
  have HY5 : Hid (Own w5 w.heap.size 26 2 (.slice (some ⟨w.heap.size, 0, none⟩) 1 1) 1 [.slice none 0 0, .slice none 0 0]) := (HX1.out.grown HG4.out (fun q hq => .inl (by cases hq; exact hrb))).below hB5 (Nat.le_refl _)
  have HC5 := Lib.hid (HC4.out.below hB5 (Nat.le_refl _))
  have HO5 := Lib.hid (hO4'.below hB5 (Nat.le_refl _))
  have HG5 : Hid (w.grownBy w5 (some rb)) := grownBy_trans (grownBy_trans (grownBy_of_below HB1.out (Nat.le_refl _) (some rb)) HG4.out (fun x hx => .inl hx)) (grownBy_of_below hB5 (Nat.le_refl _) (some rb)) (fun x hx => .inl hx)
  have HW5 := Lib.hid hw5
  have HSTG4 := Lib.hid hO4'.stg
  have HG45 : Hid (w4.grownBy w5 (some rb)) := grownBy_of_below hB5 (Nat.le_refl _) (some rb)
  have HPH := Lib.hid hph
  have hrb4 : rb < w4.heap.size := by omega
  clear hX5 hB5 hw5 hO4 hO4' hr4 hr3 hg4 HX1 HG3 HG4 HC4 HX3 HX3u HB1 hph
  go_wp2_with fail
  rw [← HW5.out]
  clear HW5
  refine (pick_h _ _ _ 24 hr5 (by omega) (by omega)).mono ?_; rintro e w6 ⟨x, rfl, _, hr6, hg6⟩
  have HX6 := Lib.hid (HX5.out.grown hg6 (fun q hq => .inl (by cases hq; exact hrb4)))
  have HY6 := Lib.hid (HY5.out.grown hg6 (fun q hq => .inl (by cases hq; exact hrb)))
  have HC6 := Lib.hid (HC5.out.grown hg6 (fun q hq => .inl (by cases hq; omega)))
  have HO6 := Lib.hid (HO5.out.grown hg6 (fun q hq => by cases hq; omega))
  have HG6 := Lib.hid (grownBy_trans HG5.out hg6 (fun x hx => .inl hx))
  have HG46 := Lib.hid (grownBy_trans HG45.out hg6 (fun x hx => .inl hx))
  obtain ⟨_, e1, _, z6, p6, f6, _⟩ := HX6.out.parts (by omega)
  cases e1
  have b0 := p6 0 (by simp)
  have b1 := p6 1 (by simp)
  have fb0 := f6 0
  simp only [List.getElem_cons_zero, List.getElem_cons_succ] at b0 b1
  have HGS : Hid (gs < w4.heap.size ∧ gs < w6.heap.size ∧ w3.heap.size ≤ gs ∧ w.heap.size + 1 ≤ gs) := ⟨hgs1, by omega, hgs0, by omega⟩
  have hgne : gs ≠ w4.heap.size := by omega
  clear p6 f6 hr5 hg6 HX5 HY5 HC5 HO5 HG5 hgs1 hgs0
  -- the end, whatever the case: the plan is loaded and stored into the result
  have TL : Hid (∀ (W : World) (pl : Pln) (vc' vs' : Value) (p' : Nat), PlanR W (w.heap.size + 1) (.agg #[vc', vs']) pl → PlDr pl → p' ≤ p + 2500 → Rdh hi W rb p' → w.grownBy W (some rb) →
      ∀ u1 u2 : Value, AnyPlan w hi rb p (.returned (.agg #[vc', vs'])) ((W.setCell ⟨w.heap.size, 0, none⟩ u1).setCell ⟨w.heap.size, 1, none⟩ u2)) := by
    intro W pl vc' vs' p' h1 h2 h3 h4 h5 u1 u2
    have one : ∀ (W : World) (o : Nat) (u : Value), (PlanR W (w.heap.size + 1) (.agg #[vc', vs']) pl ∧ Rdh hi W rb p' ∧ w.grownBy W (some rb)) → (PlanR (W.setCell ⟨w.heap.size, o, none⟩ u) (w.heap.size + 1) (.agg #[vc', vs']) pl ∧ Rdh hi (W.setCell ⟨w.heap.size, o, none⟩ u) rb p' ∧ w.grownBy (W.setCell ⟨w.heap.size, o, none⟩ u) (some rb)) := by
      intro W o u ⟨a, b, c⟩
      have hg : W.grownBy (W.setCell ⟨w.heap.size, o, none⟩ u) (some w.heap.size) := cell_grown (b' := w.heap.size) u o
      exact ⟨a.grown hg (fun q hq => by cases hq; omega), b.grown hg (fun q hq => by cases hq; exact hrb), grownBy_trans c hg (fun q hq => .inr (by cases hq; exact Nat.le_refl _))⟩
    have := one _ 1 u2 (one _ 0 u1 ⟨h1, h4, h5⟩)
    exact ⟨_, pl, p', rfl, this.1.mono (by omega), h2, h3, this.2.1, this.2.2⟩
  have HDR : Hid (PlDr ⟨t, ss⟩) := ⟨by show t.length ≤ 8; rw [HL3.out]; exact hn8, HROW.out, hn1s, hn5s, HPH.out⟩
  by_cases hx0 : x = 0
  · have d0 : (x == 0) = true := by rw [hx0]; rfl
    have d1 : (x == 1) = false := by rw [hx0]; rfl
    have d2 : (x == 2) = false := by rw [hx0]; rfl
    clear hx0
    have s0l : (0 : Int) < (ss.length : Int) := by omega
    have s0n : 0 < ss.length := by omega
    have keepB : ∀ W, w6.grownBy W (some rb) → W.cell? ⟨w4.heap.size, 0, none⟩ = some (.slice ac t.length cc) ∧ W.cell? ⟨w4.heap.size, 1, none⟩ = some (.slice (some ⟨gs, 0, none⟩) ss.length cs_) := fun W h => ⟨(World.cell?_of_block (a := ⟨w4.heap.size, 0, none⟩) (h.block w4.heap.size z6 (fun e => by cases e; omega))).trans b0, (World.cell?_of_block (a := ⟨w4.heap.size, 1, none⟩) (h.block w4.heap.size z6 (fun e => by cases e; omega))).trans b1⟩
    have KB := Lib.hid keepB
    have HRL : Hid (∀ W, Below w6.heap.size w6 W → w6.grownBy W (some rb)) := fun W h => grownBy_of_below h (Nat.le_refl _) _
    clear keepB
    go_wp2_with fail
    go_region_held3 (fun w' => w'.cell? ⟨w4.heap.size, 1, none⟩ = some (.slice (some ⟨gs, 0, none⟩) ss.length cs_))
      (first | exact HK7.out | exact (World.cell?_setCell_far _ _ _ _ hgne).trans HK7.out | assumption | go_keep)
      ((go_at_call 86; refine (one_LR _ rb _ [4, 40, 41] _ 3 rfl (hr6.below (Below.drew (Below.refl w6.heap.size w6)) hr6.lt) (by omega) (by omega) (by omega)).mono ?_; rintro e w7 ⟨y, rfl, _, hr7, hg7⟩; have hG67 : w6.grownBy w7 (some rb) := grownBy_trans (HRL.out _ (Below.drew (Below.refl w6.heap.size w6))) hg7 (fun x hx => .inl hx); have HK7 := Lib.hid (KB.out _ hG67).2; have hO7 := HO6.out.grown hG67 (fun q hq => by cases hq; omega); obtain ⟨hs7, hO7o, _⟩ := hO7; obtain ⟨_, e1, _, z7, p7, f7, _⟩ := hO7o.parts s0n; cases e1; have q71 := p7 1 (by rw [stgCells_len]; omega); have f71 := f7 1; have HG67 := Lib.hid hG67; clear p7 f7 hO7o hg7 hG67))
    have hO7 := HO6.out.grown HG67.out (fun q hq => by cases hq; omega)
    obtain ⟨hS8, hg8⟩ := hO7.setGreen s0n y
    obtain ⟨w8, hw8⟩ : ∃ w8, w8 = w7.setCell ⟨gs, 1, none⟩ (.int .i64 y) := ⟨_, rfl⟩
    rw [← hw8] at hS8 hg8 ⊢
    have hX8 : Own w8 w4.heap.size 26 2 (.slice (some ⟨w4.heap.size, 0, none⟩) 1 1) 1 _ := (HX6.out.grown HG67.out (fun q hq => .inl (by cases hq; exact hrb4))).grown hg8 (fun q hq => .inl (by cases hq; exact HGS.out.1))
    have hY8 : Own w8 w.heap.size 26 2 (.slice (some ⟨w.heap.size, 0, none⟩) 1 1) 1 [.slice none 0 0, .slice none 0 0] := (HY6.out.grown HG67.out (fun q hq => .inl (by cases hq; exact hrb))).grown hg8 (fun q hq => .inr (by have := HGS.out; cases hq; simp [Value.ownBlock]; omega))
    have hC8 : IntSS w8 w2.heap.size (.slice ac t.length cc) t := ((HC6.out.grown HG67.out (fun q hq => .inl (by cases hq; omega))).grown hg8 (fun q hq => .inr (by cases hq; exact HGS.out.2.2.1))).own.ss
    have hr8 := hr7.grown hg8 (fun q hq => by have := HGS.out; cases hq; omega)
    have hG8 := grownBy_trans (grownBy_trans HG6.out HG67.out (fun x hx => .inl hx)) hg8 (fun q hq => .inr (by have := HGS.out; cases hq; omega))
    have hPR : PlanR w8 (w.heap.size + 1) (.agg #[.slice ac t.length cc, .slice (some ⟨gs, 0, none⟩) ss.length cs_]) ⟨t, setGr ss y⟩ := ⟨_, _, rfl, hC8.mono hz2, hS8⟩
    have hDR : PlDr ⟨t, setGr ss y⟩ := by
      have h := HDR.out
      refine ⟨h.c, h.r, by simpa [setGr] using h.s1, by simpa [setGr] using h.s, fun i hi => ?_⟩
      have hi' : i < ss.length := by simpa [setGr] using hi
      show ((setGr ss y).getD i s0).ph.length ≤ 9
      unfold setGr; rw [set0_get s0n]; split
      · exact h.h 0 s0n
      · exact h.h i hi'
    obtain ⟨_, e1, _, z8, p8, _, _⟩ := hX8.parts (by omega)
    cases e1
    have c0 := p8 0 (by simp)
    have c1 := p8 1 (by simp)
    simp only [List.getElem_cons_zero, List.getElem_cons_succ] at c0 c1
    obtain ⟨_, e1, _, z9, p9, f9, _⟩ := (hY8).parts (by omega)
    cases e1
    have r0 := p9 0 (by simp)
    have r1 := p9 1 (by simp)
    have fr0 := f9 0
    have fr1 := f9 1
    simp only [List.getElem_cons_zero, List.getElem_cons_succ] at r0 r1
    have HEND := Lib.hid (TL.out w8 ⟨t, setGr ss y⟩ (.slice ac t.length cc) (.slice (some ⟨gs, 0, none⟩) ss.length cs_) _ hPR hDR (by omega) hr8 hG8)
    clear p9 f9 TL
    clear p8 hX8 hY8 hC8 hS8 hg8 hO7 hw8 hPR hDR hr8 hG8
    go_wp2_with fail
    exact bodyPost_ret (v := .agg #[(.slice ac t.length cc), (.slice (some ⟨gs, 0, none⟩) ss.length cs_)]) (by simp [results, Try.results52, go_sem, r0, r1, fr0, fr1]) rfl (HEND.out _ _)
  · have d0 : (x == 0) = false := beq_eq_false_iff_ne.mpr hx0
    by_cases hx1 : x = 1
    · have d1 : (x == 1) = true := by rw [hx1]; rfl
      have d2 : (x == 2) = false := by rw [hx1]; rfl
      clear hx0 hx1
      have s0l : (0 : Int) < (ss.length : Int) := by omega
      have s0n : 0 < ss.length := by omega
      have keepB : ∀ W, w6.grownBy W (some rb) → W.cell? ⟨w4.heap.size, 0, none⟩ = some (.slice ac t.length cc) ∧ W.cell? ⟨w4.heap.size, 1, none⟩ = some (.slice (some ⟨gs, 0, none⟩) ss.length cs_) := fun W h => ⟨(World.cell?_of_block (a := ⟨w4.heap.size, 0, none⟩) (h.block w4.heap.size z6 (fun e => by cases e; omega))).trans b0, (World.cell?_of_block (a := ⟨w4.heap.size, 1, none⟩) (h.block w4.heap.size z6 (fun e => by cases e; omega))).trans b1⟩
      have KB := Lib.hid keepB
      have HRL : Hid (∀ W, Below w6.heap.size w6 W → w6.grownBy W (some rb)) := fun W h => grownBy_of_below h (Nat.le_refl _) _
      clear keepB
      go_wp2_with fail
      go_region_held3 (fun w' => w'.cell? ⟨w4.heap.size, 0, none⟩ = some (.slice ac t.length cc) ∧ w'.cell? ⟨w4.heap.size, 1, none⟩ = some (.slice (some ⟨gs, 0, none⟩) ss.length cs_))
        (first | exact HK7.out | exact ⟨(World.cell?_setCell_far _ _ _ _ hgne).trans HK7.out.1, (World.cell?_setCell_far _ _ _ _ hgne).trans HK7.out.2⟩ | assumption | go_keep)
        ((go_at_call 103; refine (anyPhase_any _ rb _ w2.heap.size _ t (hr6.below (Below.drew (Below.refl w6.heap.size w6)) hr6.lt) (by omega) ((HC6.out.below (Below.drew (Below.refl w6.heap.size w6)) (Nat.le_refl _)).own.ss) (by omega) HV3.out).mono ?_; rintro e w7 ⟨v7, ys, p7, rfl, hI7, hl7, hp7, hr7, hg7⟩; obtain ⟨a7, c7, rfl, _, _⟩ := hI7.form; have hG67 : w6.grownBy w7 (some rb) := grownBy_trans (HRL.out _ (Below.drew (Below.refl w6.heap.size w6))) hg7 (fun x hx => .inl hx); have HK7 := Lib.hid (KB.out _ hG67); have hO7 := HO6.out.grown hG67 (fun q hq => by cases hq; omega); obtain ⟨hs7, hO7o, _⟩ := hO7; obtain ⟨_, e1, _, z7, p7f, f7, _⟩ := hO7o.parts s0n; cases e1; have q71 := p7f 0 (by rw [stgCells_len]; omega); have f71 := f7 0; have HG67 := Lib.hid hG67; have HI7 := Lib.hid hI7; clear p7f f7 hO7o hg7 hG67 hI7))
      have hO7 := HO6.out.grown HG67.out (fun q hq => by cases hq; omega)
      obtain ⟨hS8, hg8⟩ := hO7.setPhase s0n HI7.out (by have := HGS.out; show gs < w6.heap.size; omega) (by have := HGS.out; show w.heap.size + 1 ≤ w6.heap.size; omega)
      obtain ⟨w8, hw8⟩ : ∃ w8, w8 = w7.setCell ⟨gs, 0, none⟩ (.slice a7 ys.length c7) := ⟨_, rfl⟩
      rw [← hw8] at hS8 hg8 ⊢
      have hX8 : Own w8 w4.heap.size 26 2 (.slice (some ⟨w4.heap.size, 0, none⟩) 1 1) 1 _ := (HX6.out.grown HG67.out (fun q hq => .inl (by cases hq; exact hrb4))).grown hg8 (fun q hq => .inl (by cases hq; exact HGS.out.1))
      have hY8 : Own w8 w.heap.size 26 2 (.slice (some ⟨w.heap.size, 0, none⟩) 1 1) 1 [.slice none 0 0, .slice none 0 0] := (HY6.out.grown HG67.out (fun q hq => .inl (by cases hq; exact hrb))).grown hg8 (fun q hq => .inr (by have := HGS.out; cases hq; simp [Value.ownBlock]; omega))
      have hC8 : IntSS w8 w2.heap.size (.slice ac t.length cc) t := ((HC6.out.grown HG67.out (fun q hq => .inl (by cases hq; omega))).grown hg8 (fun q hq => .inr (by cases hq; exact HGS.out.2.2.1))).own.ss
      have hr8 := hr7.grown hg8 (fun q hq => by have := HGS.out; cases hq; omega)
      have hG8 := grownBy_trans (grownBy_trans HG6.out HG67.out (fun x hx => .inl hx)) hg8 (fun q hq => .inr (by have := HGS.out; cases hq; omega))
      have hPR : PlanR w8 (w.heap.size + 1) (.agg #[.slice ac t.length cc, .slice (some ⟨gs, 0, none⟩) ss.length cs_]) ⟨t, setPh ss ys⟩ := ⟨_, _, rfl, hC8.mono hz2, hS8⟩
      have hDR : PlDr ⟨t, setPh ss ys⟩ := by
        have h := HDR.out
        refine ⟨h.c, h.r, by simpa [setPh] using h.s1, by simpa [setPh] using h.s, fun i hi => ?_⟩
        have hi' : i < ss.length := by simpa [setPh] using hi
        show ((setPh ss ys).getD i s0).ph.length ≤ 9
        unfold setPh; rw [set0_get s0n]; split
        · exact hl7
        · exact h.h i hi'
      obtain ⟨_, e1, _, z8, p8, _, _⟩ := hX8.parts (by omega)
      cases e1
      have c0 := p8 0 (by simp)
      have c1 := p8 1 (by simp)
      simp only [List.getElem_cons_zero, List.getElem_cons_succ] at c0 c1
      obtain ⟨_, e1, _, z9, p9, f9, _⟩ := (hY8).parts (by omega)
      cases e1
      have r0 := p9 0 (by simp)
      have r1 := p9 1 (by simp)
      have fr0 := f9 0
      have fr1 := f9 1
      simp only [List.getElem_cons_zero, List.getElem_cons_succ] at r0 r1
      have HEND := Lib.hid (TL.out w8 ⟨t, setPh ss ys⟩ (.slice ac t.length cc) (.slice (some ⟨gs, 0, none⟩) ss.length cs_) _ hPR hDR (by omega) hr8 hG8)
      clear p9 f9 TL
      clear p8 hX8 hY8 hC8 hS8 hg8 hO7 hw8 hPR hDR hr8 hG8
      go_wp2_with fail
      exact bodyPost_ret (v := .agg #[(.slice ac t.length cc), (.slice (some ⟨gs, 0, none⟩) ss.length cs_)]) (by simp [results, Try.results52, go_sem, r0, r1, fr0, fr1]) rfl (HEND.out _ _)
    · have d1 : (x == 1) = false := beq_eq_false_iff_ne.mpr hx1
      by_cases hx2 : x = 2
      · have d2 : (x == 2) = true := by rw [hx2]; rfl
        clear hx0 hx1 hx2
        go_wp2_with fail
        go_at_call 104
        refine (anyClear_any _ rb _ hr6 (by omega)).mono ?_; rintro e w7 ⟨v7, t7, p7, rfl, hI7, ht7, hp7, hr7, hg7⟩
        obtain ⟨a7, c7, rfl, _, _⟩ := hI7.form
        obtain ⟨_, e1, _, z7, p7f, f7, _⟩ := (HX6.out.grown hg7 (fun q hq => .inl (by cases hq; exact hrb4))).parts (by omega)
        cases e1
        have k0 := p7f 0 (by simp)
        have k1 := p7f 1 (by simp)
        have fk0 := f7 0
        simp only [List.getElem_cons_zero, List.getElem_cons_succ] at k0 k1
        obtain ⟨hX8, hg8⟩ := (HX6.out.grown hg7 (fun q hq => .inl (by cases hq; exact hrb4))).store (by omega) 0 (.slice a7 t7.length c7)
        obtain ⟨w8, hw8⟩ : ∃ w8, w8 = w7.setCell ⟨w4.heap.size, 0, none⟩ (.slice a7 t7.length c7) := ⟨_, rfl⟩
        rw [← hw8] at hX8 hg8
        have hY8 : Own w8 w.heap.size 26 2 (.slice (some ⟨w.heap.size, 0, none⟩) 1 1) 1 [.slice none 0 0, .slice none 0 0] := (HY6.out.grown hg7 (fun q hq => .inl (by cases hq; exact hrb))).grown hg8 (fun q hq => .inr (by cases hq; simp [Value.ownBlock]; omega))
        have hC8 : IntSS w8 w6.heap.size (.slice a7 t7.length c7) t7 := hI7.grown hg8 (fun q hq => by cases hq; exact z6)
        have hS8 : StgS w8 (w.heap.size + 1) (.slice (some ⟨gs, 0, none⟩) ss.length cs_) ss := by
          exact HSTG4.out.grown (grownBy_trans (grownBy_trans HG46.out hg7 (fun x hx => .inl hx)) hg8 (fun q hq => .inr (by cases hq; exact Nat.le_refl _))) (fun q hq => by cases hq; omega)
        have hr8 := hr7.grown hg8 (fun q hq => by cases hq; omega)
        have hG8 := grownBy_trans (grownBy_trans HG6.out hg7 (fun x hx => .inl hx)) hg8 (fun q hq => .inr (by cases hq; omega))
        have hPR : PlanR w8 (w.heap.size + 1) (.agg #[.slice a7 t7.length c7, .slice (some ⟨gs, 0, none⟩) ss.length cs_]) ⟨t7, ss⟩ := ⟨_, _, rfl, hC8.mono (by omega), hS8⟩
        have hDR : PlDr ⟨t7, ss⟩ := ⟨ht7.1, ht7.2, HDR.out.s1, HDR.out.s, HDR.out.h⟩
        obtain ⟨_, e1, _, z9, p9, f9, _⟩ := (HY6.out.grown hg7 (fun q hq => .inl (by cases hq; exact hrb)) : Own w7 w.heap.size 26 2 (.slice (some ⟨w.heap.size, 0, none⟩) 1 1) 1 [.slice none 0 0, .slice none 0 0]).parts (by omega)
        cases e1
        have r0 := p9 0 (by simp)
        have r1 := p9 1 (by simp)
        have fr0 := f9 0
        have fr1 := f9 1
        simp only [List.getElem_cons_zero, List.getElem_cons_succ] at r0 r1
        have HEND := Lib.hid (TL.out w8 ⟨t7, ss⟩ _ _ p7 hPR hDR (by omega) hr8 hG8)
        rw [hw8] at HEND
        have hne9 : w4.heap.size ≠ w.heap.size := by omega
        clear p7f f7 p9 f9 TL hI7 hg7 hw8 hPR hDR hr8 hG8 hX8 hY8 hC8 hS8 hg8
        go_wp2_with fail
        exact bodyPost_ret (v := .agg #[.slice a7 t7.length c7, .slice (some ⟨gs, 0, none⟩) ss.length cs_]) (by simp [results, Try.results52, go_sem, k0, k1, fk0, r0, r1, fr0, fr1]) rfl (HEND.out _ _)
      · have d2 : (x == 2) = false := beq_eq_false_iff_ne.mpr hx2
        clear hx0 hx1 hx2
        have hPR : PlanR w6 (w.heap.size + 1) (.agg #[.slice ac t.length cc, .slice (some ⟨gs, 0, none⟩) ss.length cs_]) ⟨t, ss⟩ := ⟨_, _, rfl, HC6.out.own.ss.mono hz2, HO6.out.stg⟩
        have hDR := HDR.out
        have hG6 := HG6.out
        obtain ⟨_, e1, _, z9, p9, f9, _⟩ := ((HY6.out : Own w6 w.heap.size 26 2 (.slice (some ⟨w.heap.size, 0, none⟩) 1 1) 1 [.slice none 0 0, .slice none 0 0])).parts (by omega)
        cases e1
        have r0 := p9 0 (by simp)
        have r1 := p9 1 (by simp)
        have fr0 := f9 0
        have fr1 := f9 1
        simp only [List.getElem_cons_zero, List.getElem_cons_succ] at r0 r1
        have HEND := Lib.hid (TL.out w6 ⟨t, ss⟩ (.slice ac t.length cc) (.slice (some ⟨gs, 0, none⟩) ss.length cs_) _ hPR hDR (by omega) hr6 hG6)
        clear p9 f9 TL
        clear hPR hDR hG6
        go_wp2_with fail
        exact bodyPost_ret (v := .agg #[(.slice ac t.length cc), (.slice (some ⟨gs, 0, none⟩) ss.length cs_)]) (by simp [results, Try.results52, go_sem, r0, r1, fr0, fr1]) rfl (HEND.out _ _)
end Go.Proofs.Ytokpgipbgkiepaa

