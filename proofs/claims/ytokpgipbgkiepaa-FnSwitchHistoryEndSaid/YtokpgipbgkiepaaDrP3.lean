/- Draws: anyPhase, anyClear, anySecond. -/
import Derived.Test.YtokpgipbgkiepaaDrP2
namespace Go.Proofs.Ytokpgipbgkiepaa
open Go.RowKit
set_option linter.unusedVariables false
set_option linter.unusedSimpArgs false

def PhaseAny (w : World) (hi rb p : Nat) (e : Ending) (w' : World) : Prop :=
  ∃ v', ∃ ys : List Int, ∃ p', e = .returned v' ∧ Ints w' w.heap.size v' ys ∧ ys.length ≤ 9 ∧ p' ≤ p + 30 ∧ Rdh hi w' rb p' ∧ w.grownBy w' (some rb)
theorem anyPhase_any {hi : Nat} (w : World) (rb p : Nat) (lo : Nat) (v : Value) (t : List (List Int)) (hr : Rdh hi w rb p) (hp : p ≤ 1000000) (hv : IntSS w lo v t) (hlo : rb < lo) (hval : validCl t = true) :
    Calls Try.prog 103 #[.pointer (some ⟨rb, 0, none⟩), v] w (PhaseAny w hi rb p) := by
  have hrb := hr.lt
  have HV := Lib.hid hval
  have HI := Lib.hid hv
  obtain ⟨ao, cap, rfl, hcap, hm⟩ := hv.form
  clear hval hv
  go_enter Try.func103, Try.ntmps103
  go_wp2_with fail
  refine (spec_validClearance_H _ lo _ t true HI.out HV.out).mono ?_; rintro e w1 ⟨rfl, hB1⟩
  have hr1 := hr.below hB1 hrb
  have hz1 := hB1.size
  go_wp2_with fail
  go_at_call 120
  refine (randomPhase_any _ rb p lo _ t hr1 hp (HI.out.below hB1 (Nat.le_refl _)) hlo HV.out).mono ?_; rintro e w2 ⟨v2, ys, p2, rfl, hO2, hl2, ht2, hp2, hr2, hg2⟩
  have HG2 := Lib.hid (grownBy_trans (grownBy_of_below hB1 (Nat.le_refl _) (some rb)) hg2 (fun x hx => .inl hx))
  have HT2 := Lib.hid ht2
  clear hr1 hr hB1 hg2 ht2
  go_wp2_with fail
  go_at_call 54
  refine (spoil_h _ rb p2 _ ys 8 hr2 (by omega) (hO2.ints rfl) (by omega) HT2.out (by omega)).mono ?_; rintro e w3 ⟨v3, zs, p3, rfl, hI3, hl3, ht3, hp3, hr3, hg3⟩
  have HF : Hid (Ints w3 w.heap.size v3 zs ∧ zs.length ≤ 9 ∧ p3 ≤ p + 30 ∧ Rdh hi w3 rb p3 ∧ w.grownBy w3 (some rb)) :=
    ⟨hI3.mono HG2.out.size, by omega, by omega, hr3, grownBy_trans HG2.out hg3 (fun x hx => .inl hx)⟩
  clear hO2 hr2 hI3 ht3 hr3 hg3
  go_wp2_with fail
  go_ret
  exact ⟨_, zs, p3, rfl, HF.out⟩

def ClearAny (w : World) (hi rb p : Nat) (e : Ending) (w' : World) : Prop :=
  ∃ v' t p', e = .returned v' ∧ IntSS w' w.heap.size v' t ∧ (t.length ≤ 8 ∧ ∀ i, i < t.length → (t.getD i []).length ≤ 8) ∧ p' ≤ p + 1010 ∧ Rdh hi w' rb p' ∧ w.grownBy w' (some rb)

/-- Behind the first row. -/
theorem IntSS.drop1 {w : World} {lo g n cap : Nat} {t : List (List Int)} (h : IntSS w lo (.slice (some ⟨g, 0, none⟩) n cap) t) (hn : 1 ≤ t.length) {a : Option Addr} (ha : 1 < t.length → a = some ⟨g, 0 + 1, none⟩) (hne : a ≠ none) :
    IntSS w lo (.slice a (t.length - 1) (cap - 1)) (t.drop 1) := by
  obtain ⟨hs, h1, h2⟩ := h
  have hl := h1.1
  obtain ⟨_, _, e, _⟩ := h1.form
  cases e
  have := Rd.drop (k := 1) h1 hn ha hne
  refine ⟨hs.drop 1, by simpa using this, fun i hi => ?_⟩
  have hi' : i + 1 < t.length := by simp at hi; omega
  have e1 : (hs.drop 1).getD i .nilFunc = hs.getD (i + 1) .nilFunc := by simp [List.getD_eq_getElem?_getD, Nat.add_comm]
  have e2 : (t.drop 1).getD i [] = t.getD (i + 1) [] := by simp [List.getD_eq_getElem?_getD, Nat.add_comm]
  rw [e1, e2]; exact h2 (i + 1) hi'

set_option maxHeartbeats 8000000 in
theorem anyClear_any {hi : Nat} (w : World) (rb p : Nat) (hr : Rdh hi w rb p) (hp : p ≤ 900000) :
    Calls Try.prog 104 #[.pointer (some ⟨rb, 0, none⟩)] w (ClearAny w hi rb p) := by
  have hrb := hr.lt
  go_enter Try.func104, Try.ntmps104
  go_wp2_with fail
  go_at_call 86
  refine (one_LR w rb p [4, 5, 3, 6, 2, 1, 8] _ 7 rfl hr (by omega) (by omega) (by omega)).mono ?_; rintro e w1 ⟨n, rfl, hx, hr1, hg1⟩
  have hx' := hx.out
  simp at hx'
  obtain ⟨n, rfl⟩ : ∃ m : Nat, n = m := ⟨n.toNat, by omega⟩
  have hn1 : 1 ≤ n := by omega
  have hn8 : n ≤ 8 := by omega
  have hz1 := hg1.size
  clear hx hx' hr
  go_wp2_with fail
  go_at_call 102
  refine (randomClear_any _ rb _ n hr1 (by omega) hn1 hn8).mono ?_; rintro e w2 ⟨v2, t, p2, rfl, hX2, hv2, hl2, hp2, hr2, hg2⟩
  have hG2 := grownBy_trans hg1 hg2 (fun x hx => .inl hx)
  have hX2 := hX2.mono hz1
  have hrow : ∀ j, j < n → (t.getD j []).length = n := fun j hj => by
    have := (rowOk_iff.1 ((validCl_iff.1 hv2).2.2.1 j (by rw [hl2]; exact hj))).1
    rw [this, hl2]
  obtain ⟨hs2, hX2⟩ := hX2
  obtain ⟨ao, cap, rfl, hcap, hm⟩ := hX2.1.form
  rw [hl2] at hcap ⊢
  have HL := Lib.hid hl2
  have HROW := Lib.hid hrow
  have HX2 : Hid (OwnX w2 w.heap.size (.slice ao n cap) hs2 t) := by
    have : OwnX w2 w.heap.size (.slice ao t.length cap) hs2 t := hX2
    rw [hl2] at this; exact this
  clear hr1 hg1 hg2 hv2 hrow hl2 hX2
  go_wp2_with fail
  go_at_call 53
  refine (pick_h _ _ _ 24 hr2 (by omega) (by omega)).mono ?_; rintro e w3 ⟨x, rfl, _, hr3, hg3⟩
  have hX3 := HX2.out.grown hg3 (fun q hq => by cases hq; exact hrb)
  have hG3 := grownBy_trans hG2 hg3 (fun x hx => .inl hx)
  have hz3 := hG3.size
  clear hr2 hg3 hG2 HX2
  by_cases hx0 : x = 0
  · have d0 : (x == 0) = true := by rw [hx0]; rfl
    clear hx0
    obtain ⟨g', cap', gi, ci, ev, eh, _, _, hci, hcm, hgl, hgil, hgis, hgs, hne, s1, hfr, s2, hset⟩ := hX3.row (i := 0) (by rw [HL.out]; omega) (by rw [HROW.out 0 (by omega)]; omega)
    have ea : ao = some ⟨g', 0, none⟩ := by injection ev
    subst ea
    clear ev
    rw [HROW.out 0 (by omega)] at s1 hci hset
    have f0 := hfr 0
    have t0 := s2 0 (by rw [HROW.out 0 (by omega)]; omega)
    obtain ⟨hX4, hg4⟩ := hset 0 1 (by omega)
    have HF : Hid (IntSS (w3.setCell ⟨gi, 0, none⟩ (.int .i64 1)) w.heap.size (.slice (some ⟨g', 0, none⟩) n cap) (tset t 0 0 1) ∧ ((tset t 0 0 1).length ≤ 8 ∧ ∀ i, i < (tset t 0 0 1).length → ((tset t 0 0 1).getD i []).length ≤ 8) ∧ p2 + 1 ≤ p + 1010 ∧ Rdh hi (w3.setCell ⟨gi, 0, none⟩ (.int .i64 1)) rb (p2 + 1) ∧ w.grownBy (w3.setCell ⟨gi, 0, none⟩ (.int .i64 1)) (some rb)) := by
      refine ⟨hX4.ss.ss, ⟨by rw [tset_len, HL.out]; omega, fun i hi => ?_⟩, by omega, hr3.grown hg4 (fun q hq => by cases hq; omega), grownBy_trans hG3 hg4 (fun q hq => .inr (by cases hq; exact hgil))⟩
      rw [tset_len, HL.out] at hi
      rw [tset_rowlen (by rw [HL.out]; exact hi), HROW.out i hi]; exact hn8
    clear hfr s2 hset hX4 hg4 hX3 hr3 hG3
    go_wp2_with fail
    go_ret
    exact ⟨_, _, _, rfl, HF.out⟩
  · have d0 : (x == 0) = false := beq_eq_false_iff_ne.mpr hx0
    by_cases hx1 : x = 1
    · have d1 : (x == 1) = true := by rw [hx1]; rfl
      clear hx0 hx1
      obtain ⟨g', cap', gi, ci, ev, eh, _, _, hci, hcm, hgl, hgil, hgis, hgs, hne, s1, hfr, s2, hset⟩ := hX3.row (i := n - 1) (by rw [HL.out]; omega) (by rw [HROW.out (n - 1) (by omega)]; omega)
      have ea : ao = some ⟨g', 0, none⟩ := by injection ev
      subst ea
      clear ev
      rw [HROW.out (n - 1) (by omega)] at eh s1 hci
      have wr1 : IntKind.i64.wrap ((n : Int) - 1) = (n : Int) - 1 := IntWalk.i64_in _ (by omega)
      have e1 : ((n : Int) - 1).toNat = n - 1 := by omega
      have g1 : 0 ≤ (n : Int) - 1 := by omega
      have g2 : (n : Int) - 1 < (n : Int) := by omega
      have g3 : (1 : Int) ≤ (n : Int) := by omega
      have g4 : (0 : Int) < (n : Int) := by omega
      have g5 : 0 < n := by omega
      have HX3 := Lib.hid hX3
      have HEH := Lib.hid eh
      have HG3 := Lib.hid hG3
      clear hfr s2 hset eh hX3 hG3
      go_wp2_with fail
      go_region_held3 (fun w' => w'.cell? ⟨g', n - 1, none⟩ = some (.slice (some ⟨gi, 0, none⟩) n ci))
        (first | exact HS5.out | exact (World.cell?_setCell_far _ _ _ _ (Ne.symm hne)).trans HS5.out | assumption | go_keep)
        ((go_at_call 86; refine (one_LR _ rb _ [0, 5, 6, -1] _ 4 rfl (hr3.below (Below.drew (Below.refl w3.heap.size w3)) hr3.lt) (by omega) (by omega) (by omega)).mono ?_; rintro e w5 ⟨y, rfl, hy, hr5, hg5⟩; have hG35 : w3.grownBy w5 (some rb) := grownBy_trans (grownBy_of_below (Below.drew (Below.refl w3.heap.size w3)) (Nat.le_refl _) (some rb)) hg5 (fun x hx => .inl hx); have hX5 := HX3.out.grown hG35 (fun q hq => by cases hq; exact hrb); obtain ⟨g5, cap5, gi', ci', ev, eh, _, _, _, _, _, _, _, _, _, s5, hfr, s52, hset5⟩ := hX5.row (i := n - 1) (by rw [HL.out]; omega) (by rw [HROW.out (n - 1) (by omega)]; omega); obtain ⟨rfl, rfl⟩ := slice_inj ev; clear ev; rw [HROW.out (n - 1) (by omega)] at eh s5 hset5; rw [HEH.out] at eh; cases eh; have HS5 := Lib.hid s5; have f5 := hfr 0; have t5 := s52 0 (by rw [HROW.out (n - 1) (by omega)]; omega); have HSET5 := Lib.hid (hset5 0); clear hfr s52 hset5 s5))
      obtain ⟨hX6, hg6⟩ := HSET5.out y (by omega)
      have HF : Hid (IntSS (w5.setCell ⟨gi, 0, none⟩ (.int .i64 y)) w.heap.size (.slice (some ⟨g', 0, none⟩) n cap) (tset t (n - 1) 0 y) ∧ ((tset t (n - 1) 0 y).length ≤ 8 ∧ ∀ i, i < (tset t (n - 1) 0 y).length → ((tset t (n - 1) 0 y).getD i []).length ≤ 8) ∧ p2 + 1 + 1 ≤ p + 1010 ∧ Rdh hi (w5.setCell ⟨gi, 0, none⟩ (.int .i64 y)) rb (p2 + 1 + 1) ∧ w.grownBy (w5.setCell ⟨gi, 0, none⟩ (.int .i64 y)) (some rb)) := by
        refine ⟨hX6.ss.ss, ⟨by rw [tset_len, HL.out]; omega, fun i hi => ?_⟩, by omega, hr5.grown hg6 (fun q hq => by cases hq; omega), grownBy_trans (grownBy_trans HG3.out hG35 (fun x hx => .inl hx)) hg6 (fun q hq => .inr (by cases hq; exact hgil))⟩
        rw [tset_len, HL.out] at hi
        rw [tset_rowlen (by rw [HL.out]; exact hi), HROW.out i hi]; exact hn8
      clear hX6 hg6 hX5 hr5 hG35 hg5 hr3 HX3 HG3 HSET5 HS5 f5 t5
      go_wp2
      go_ret
      exact ⟨_, _, _, rfl, HF.out⟩
    · have d1 : (x == 1) = false := beq_eq_false_iff_ne.mpr hx1
      by_cases hx2 : x = 2
      · have d2 : (x == 2) = true := by rw [hx2]; rfl
        clear hx0 hx1 hx2
        have hI := hX3.ss.ss
        obtain ⟨g, rfl, _⟩ := hX3.1.parts (by rw [HL.out]; omega)
        have hdl : ∀ i, i < (t.drop 1).length → ((t.drop 1).getD i []).length ≤ 8 := fun i hi => by
          have hi' : i + 1 < n := by simp [HL.out] at hi; omega
          have e2 : (t.drop 1).getD i [] = t.getD (i + 1) [] := by simp [List.getD_eq_getElem?_getD, Nat.add_comm]
          rw [e2, HROW.out (i + 1) hi']; exact hn8
        have HDL : Hid ((t.drop 1).length ≤ 8 ∧ ∀ i, i < (t.drop 1).length → ((t.drop 1).getD i []).length ≤ 8) := ⟨by simp [HL.out]; omega, hdl⟩
        have HD : Hid (∀ a : Option Addr, (1 < n → a = some ⟨g, 0 + 1, none⟩) → a ≠ none → IntSS w3 w.heap.size (.slice a (n - 1) (cap - 1)) (t.drop 1)) := fun a h1 h2 => by
          have := IntSS.drop1 hI (by rw [HL.out]; exact hn1) (a := a) (by rw [HL.out]; exact h1) h2
          rw [HL.out] at this; exact this
        have hn1i : (1 : Int) ≤ (n : Int) := by omega
        clear hI hX3 hdl
        by_cases hc1 : cap = 1
        · have HD1 := Lib.hid (HD.out (some ⟨g, 0, none⟩) (fun h => by omega) (by simp))
          subst hc1
          obtain rfl : n = 1 := by omega
          clear HD
          go_wp2_with fail
          go_ret
          exact ⟨_, t.drop 1, _, rfl, HD1.out, HDL.out, by omega, hr3, hG3⟩
        · have HD1 := Lib.hid (HD.out (some ⟨g, 0 + 1, none⟩) (fun h => rfl) (by simp))
          clear HD
          go_wp2_with fail
          go_ret
          exact ⟨_, t.drop 1, _, rfl, HD1.out, HDL.out, by omega, hr3, hG3⟩
      · have d2 : (x == 2) = false := beq_eq_false_iff_ne.mpr hx2
        clear hx0 hx1 hx2
        have HF : Hid (IntSS w3 w.heap.size (.slice ao n cap) t ∧ (t.length ≤ 8 ∧ ∀ i, i < t.length → (t.getD i []).length ≤ 8)) := ⟨hX3.ss.ss, by rw [HL.out]; exact hn8, fun i hi => by rw [HL.out] at hi; rw [HROW.out i hi]; exact hn8⟩
        clear hX3
        go_wp2_with fail
        go_ret
        exact ⟨_, t, _, rfl, HF.out.1, HF.out.2, by omega, hr3, hG3⟩

def SecDraw (w : World) (hi rb p : Nat) (e : Ending) (w' : World) : Prop := ∃ s : Int, e = .returned (.int .i64 s) ∧ (-1 ≤ s ∧ s ≤ 10000) ∧ Rdh hi w' rb (p + 1) ∧ w.grownBy w' (some rb)
theorem anySecond_any {hi : Nat} (w : World) (rb p : Nat) (hr : Rdh hi w rb p) (hp : p ≤ 1000000) :
    Calls Try.prog 85 #[.pointer (some ⟨rb, 0, none⟩)] w (SecDraw w hi rb p) := by
  have hrb := hr.lt
  go_enter Try.func85, Try.ntmps85
  go_wp2_with fail
  go_at_call 86
  refine (one_LR w rb p [0, 7, 13, 20, 31, 50, 100, 9999, 10000, -1] _ 10 rfl hr (by omega) (by omega) (by omega)).mono ?_; rintro e w1 ⟨n, rfl, hx, hr1, hg1⟩
  have hx' := hx.out
  simp at hx'
  have HX : Hid (-1 ≤ n ∧ n ≤ 10000) := by unfold Hid; omega
  clear hx hx' hr
  go_wp2_with fail
  go_ret
  exact ⟨_, rfl, HX.out, hr1, hg1⟩
end Go.Proofs.Ytokpgipbgkiepaa
