/- Draws of streets: anyStreet. -/
import Derived.Test.YtbojkhmlfflakaaBo17
import Derived.Test.YtbojkhmlfflakaaRdh
namespace Go.Proofs.Ytbojkhmlfflakaa
open Go.RowKit
set_option linter.unusedVariables false
set_option linter.unusedSimpArgs false

def StrDraw (hi : Nat) (w : World) (rb : Nat) (e : Ending) (w' : World) : Prop := ∃ v s p', e = .returned v ∧ StrR w' w.heap.size v s ∧ Rdh hi w' rb p' ∧ w.grownBy w' (some rb)
theorem ints_set {W : World} {L b i : Nat} {v u : Value} {xs : List Int} (h : Ints W L v xs) (hb : b < L) : Ints (W.setCell ⟨b, i, none⟩ u) L v xs :=
  Rd.grown h (setCell_grown W b i u) (fun k e => by cases e; exact .inl hb) (by decide)
theorem Own.intsL {w : World} {lo e : Nat} {v : Value} {xs : List Int} (h : Own w lo e 1 v xs.length (xs.map (Value.int .i64))) : Ints w lo v xs := h.rd
theorem empty_own {w : World} {lo e : Nat} {a : Addr} : Own w lo e 1 (.slice (some a) 0 0) 0 [] := .inr ⟨rfl, rfl, _, rfl⟩

theorem box3 {W : World} {lo T b : Nat} {x y z : Value} (h : Own W lo T 3 (.slice (some ⟨b, 0, none⟩) 1 1) 1 [x, y, z]) :
    (W.cell? ⟨b, 0, none⟩ = some x ∧ W.cell? ⟨b, 1, none⟩ = some y ∧ W.cell? ⟨b, 2, none⟩ = some z) ∧ W.frozen? ⟨b, 0, none⟩ = false ∧ W.frozen? ⟨b, 1, none⟩ = false ∧ W.frozen? ⟨b, 2, none⟩ = false := by
  obtain ⟨_, eg, _, _, pS, fS, _⟩ := h.parts (by omega)
  cases eg
  exact ⟨⟨pS 0 (by simp), pS 1 (by simp), pS 2 (by simp)⟩, fS 0, fS 1, fS 2⟩
theorem street_fin {hi : Nat} {w W : World} {rb q b0 : Nat} {c : Int} {vg vt : Value} {gs ts : List Int} (hb : rb < b0) (hb0 : w.heap.size ≤ b0) (hig : Ints W (b0 + 1) vg gs) (hit : Ints W (b0 + 1) vt ts) (hr : Rdh hi W rb q) (hG : w.grownBy W (some rb)) :
    StrDraw hi w rb (.returned (.agg #[.int .i64 c, vg, vt])) (((W.setCell ⟨b0, 0, none⟩ (.int .i64 c)).setCell ⟨b0, 1, none⟩ vg).setCell ⟨b0, 2, none⟩ vt) :=
  ⟨_, ⟨c, gs, ts⟩, q, rfl, ⟨vg, vt, rfl, (ints_set (ints_set (ints_set hig (by omega)) (by omega)) (by omega)).mono (by omega), (ints_set (ints_set (ints_set hit (by omega)) (by omega)) (by omega)).mono (by omega)⟩,
    ((hr.grown (setCell_grown _ _ _ _) (fun k e => by cases e; exact hb)).grown (setCell_grown _ _ _ _) (fun k e => by cases e; exact hb)).grown (setCell_grown _ _ _ _) (fun k e => by cases e; exact hb),
    grownBy_trans (grownBy_trans (grownBy_trans hG (setCell_grown _ _ _ _) (fun k e => by cases e; right; exact hb0)) (setCell_grown _ _ _ _) (fun k e => by cases e; right; exact hb0)) (setCell_grown _ _ _ _) (fun k e => by cases e; right; exact hb0)⟩

set_option maxHeartbeats 16000000 in
theorem anyStreet_any {hi : Nat} (w : World) (rb p : Nat) (hr : Rdh hi w rb p) (hp : p ≤ 1000) :
    Calls Try.prog 10 #[.pointer (some ⟨rb, 0, none⟩)] w (StrDraw hi w rb) := by
  have hrb := hr.lt
  have hg0 := World.grownBy_alloc w (.cells #[.int .i64 0, .slice none 0 0, .slice none 0 0] 25) (some rb)
  have hY0 := Own.made w [.int .i64 0, .slice none 0 0, .slice none 0 0] 25 w.heap.size 3 1 rfl (Nat.le_refl _) (by decide)
  obtain ⟨w0, hw0⟩ : ∃ w0, w0 = w.alloc (.cells #[.int .i64 0, .slice none 0 0, .slice none 0 0] 25) := ⟨_, rfl⟩
  have hz0 : w0.heap.size = w.heap.size + 1 := by rw [hw0]; simp
  have hr0 : Rdh hi w0 rb p := by rw [hw0]; exact hr.grown (World.grownBy_alloc w _ none) (fun k hk => by cases hk)
  rw [← hw0] at hg0
  have hY0 : Own w0 w.heap.size 25 3 (.slice (some ⟨w.heap.size, 0, none⟩) 1 1) 1 [.int .i64 0, .slice none 0 0, .slice none 0 0] := by rw [hw0]; exact hY0
  have HY0 := Lib.hid hY0
  clear hY0
  go_enter Try.func10, Try.ntmps10
  go_wp2_with fail
  rw [← hw0]
  rw [← hz0]
  refine (one_LR w0 rb p [10, 12, 8, 20, 5, 30, 1] _ 7 rfl hr0 (by omega) (by omega) (by omega)).mono ?_; rintro e w1 ⟨c, rfl, hx, hr1, hg1⟩
  have hx' := hx.out
  simp at hx'
  have hc1 : 1 ≤ c ∧ c ≤ 30 := by omega
  have hG1 : w.grownBy w1 (some rb) := grownBy_trans hg0 hg1 (fun x hx => .inl hx)
  have hY1 : Own w1 w.heap.size 25 3 (.slice (some ⟨w.heap.size, 0, none⟩) 1 1) 1 [.int .i64 0, .slice none 0 0, .slice none 0 0] := HY0.out.grown hg1 (fun k hk => by cases hk; left; exact hrb)
  have hz1 : w.heap.size + 1 ≤ w1.heap.size := by rw [← hz0]; exact hg1.size
  -- the street's own variable, two empty lists
  obtain ⟨w2, hw2⟩ : ∃ w2, w2 = ((w1.alloc (.cells #[.int .i64 c, .slice none 0 0, .slice none 0 0] 25)).alloc (.cells #[] 3)).alloc (.cells #[] 3) := ⟨_, rfl⟩
  have hB2 : Below w1.heap.size w1 w2 := by rw [hw2]; exact (((Below.refl _ _).alloc (Nat.le_refl _) _).alloc (by simp) _).alloc (by simp; omega) _
  have hz2 : w2.heap.size = w1.heap.size + 3 := by rw [hw2]; simp
  have hS2 : Own w2 w.heap.size 25 3 (.slice (some ⟨w1.heap.size, 0, none⟩) 1 1) 1 [.int .i64 c, .slice none 0 0, .slice none 0 0] := by
    rw [hw2]; exact (((Own.made w1 [.int .i64 c, .slice none 0 0, .slice none 0 0] 25 w1.heap.size 3 1 rfl (Nat.le_refl _) (by decide)).mono (by omega)).alloc _).alloc _
  have hY2 := hY1.below hB2 (Nat.le_refl _)
  have hr2 : Rdh hi w2 rb (p + 1) := hr1.below hB2 (by omega)
  have hG2 : w.grownBy w2 (some rb) := grownBy_trans hG1 (grownBy_of_below hB2 (Nat.le_refl _) (some rb)) (fun x hx => .inl hx)
  clear hx hx' hr0 hg0 hg1 hr1 hG1 hY1 hr HY0 hB2
  clear hw0
  have HS2 := Lib.hid hS2
  have HY2 := Lib.hid hY2
  clear hS2 hY2
  go_wp2_with fail
  rw [← hw2]
  have hz2' : w2.heap.size = w1.heap.size + 1 + 1 + 1 := hz2
  rw [← hz2']
  clear hw2
  refine (one_LR w2 rb (p + 1) [2, 3, 2, 1, 4, 3] _ 6 rfl hr2 (by omega) (by omega) (by omega)).mono ?_; rintro e w3 ⟨n, rfl, hx, hr3, hg3⟩
  have hx' := hx.out
  simp at hx'
  obtain ⟨n, rfl⟩ : ∃ m : Nat, n = m := ⟨n.toNat, by omega⟩
  have hn4 : n ≤ 4 := by omega
  have HS3 := Lib.hid (HS2.out.grown hg3 (fun k hk => by cases hk; left; exact hrb))
  have HY3 := Lib.hid (HY2.out.grown hg3 (fun k hk => by cases hk; left; exact hrb))
  have hG3 : w.grownBy w3 (some rb) := grownBy_trans hG2 hg3 (fun x hx => .inl hx)
  have hz3 := hg3.size
  have HG3 := Lib.hid hG3
  clear hx hx' hr2 hg3 hG2 HS2 HY2 hG3 hz2'
  go_wp2_with fail
  go_loopw [4, 5, 6] (fun gv tv i wo => ∃ (m q : Nat) (gs ts : List Int), i = .int .i64 m ∧ m ≤ 4 ∧ Own wo w3.heap.size 3 1 gv gs.length (gs.map (Value.int .i64)) ∧ Own wo w3.heap.size 3 1 tv ts.length (ts.map (Value.int .i64)) ∧ Apart gv tv ∧ Hid (tame gs ∧ tame ts) ∧ (gs.length + m ≤ 4 ∧ ts.length + m ≤ 4) ∧ q + m * 2 ≤ p + 20 ∧ Rdh hi wo rb q ∧ w3.grownBy wo (some rb)) (fun gv tv i _ => (intOf i).toNat)
  case atStart => exact ⟨n, _, [], [], rfl, hn4, empty_own, empty_own, fun k h1 h2 => by simp [wblk] at h1, ⟨by simp [tame], by simp [tame]⟩, ⟨by simpa using hn4, by simpa using hn4⟩, by omega, hr3, grownBy_refl _ _⟩
  case round =>
    clear hr3
    obtain ⟨m, q, gs, ts, rfl, hm4, hO, hT, hAp, HTM, ⟨hgl, htl⟩, hq, hr, hG⟩ := hrel
    have hS := HS3.out.grown hG (fun k hk => by cases hk; left; exact hrb)
    have hY := HY3.out.grown hG (fun k hk => by cases hk; left; exact hrb)
    obtain ⟨_, eg, _, _, pS, fS, _⟩ := hS.parts (by omega)
    cases eg
    have s0 := pS 0 (by simp)
    have s1 := pS 1 (by simp)
    have s2 := pS 2 (by simp)
    have fs0 := fS 0
    have fs1 := fS 1
    have fs2 := fS 2
    simp only [List.getElem_cons_zero, List.getElem_cons_succ] at s0 s1 s2
    have hzr := hG.size
    clear pS fS
    by_cases hm0 : 0 < m
    · have wrc : IntKind.i64.wrap (c + 1) = c + 1 := IntWalk.i64_in _ (by omega)
      have wrm : IntKind.i64.wrap ((m : Int) - 1) = ((m - 1 : Nat) : Int) := by rw [show (m : Int) - 1 = ((m - 1 : Nat) : Int) by omega]; exact IntWalk.i64_in _ (by omega)
      obtain ⟨m1, hm1⟩ : ∃ m1, m1 = m - 1 := ⟨_, rfl⟩
      rw [← hm1] at wrm
      have HM1 : Hid (m1 + 1 = m) := by unfold Hid; omega
      have hm0i : (0 : Int) < (m : Int) := by omega
      clear hm1
      have HT := Lib.hid hT
      have HO := Lib.hid hO
      clear hT hO hS hY
      go_wp2_with fail
      go_at_call 22
      refine (pick_h _ _ _ (c + 1) hr (by omega) (by omega)).mono ?_; rintro e w4 ⟨y, rfl, ⟨hy0, hy1, _⟩, hr4, hg4⟩
      have hy2 := hy1 (by omega)
      clear hy1
      have hO4 := HO.out.grown hg4 (fun k hk => by cases hk; left; omega)
      have hT4 := HT.out.grown hg4 (fun k hk => by cases hk; left; omega)
      have hG4 := grownBy_trans hG hg4 (fun x hx => .inl hx)
      have hz4 := hG4.size
      by_cases hm2 : 1 < m
      · have hm2i : (1 : Int) < (m : Int) := by omega
        go_wp2_with (at_builtin; refine wpList_append_one _ rfl _ _ 23 rfl 3 (.int .i64 0) 8 Try.underlying23 info_int rfl w3.heap.size _ _ _ rfl hO4 _ _ rfl rfl (by omega) (by omega) hz4 ?_; intro v5 w5 hO5 hg5 hk5)
        have hT5 := hT4.beside hg5 hAp
        have hA5 : Apart v5 u5 := (Apart.step (Apart.symm hAp) hT4 hk5).symm
        have hr5 := hr4.grown hg5 (fun k hk => by have := (hO4.wblk hk).1; omega)
        have hG5 : w3.grownBy w5 (some rb) := grownBy_trans hG4 hg5 (fun k hk => .inr (hO4.wblk hk).1)
        have hz5 := hG5.size
        have HTM5 : Hid (tame (gs ++ [y]) ∧ tame ts) := ⟨tame_app HTM.out.1 (by omega) (by omega), HTM.out.2⟩
        have hO5' : Own w5 w3.heap.size 3 1 v5 (gs ++ [y]).length ((gs ++ [y]).map (Value.int .i64)) := by
          rw [List.map_append, List.length_append]; exact hO5
        clear HO HT hO4 hT4 hG4 hr hg4 hO5 hg5 hk5 hAp hG
        go_wp2_with fail
        go_at_call 22
        refine (pick_h _ _ _ 25 hr5 (by omega) (by omega)).mono ?_; rintro e w6 ⟨z, rfl, ⟨hz0', hz1', _⟩, hr6, hg6⟩
        have hz2' := hz1' (by omega)
        clear hz1'
        have hO6 := hO5'.grown hg6 (fun k hk => by cases hk; left; omega)
        have hT6 := hT5.grown hg6 (fun k hk => by cases hk; left; omega)
        have hG6 := grownBy_trans hG5 hg6 (fun x hx => .inl hx)
        have hz6 := hG6.size
        go_wp2_with (at_builtin; refine wpList_append_one _ rfl _ _ 23 rfl 3 (.int .i64 0) 8 Try.underlying23 info_int rfl w3.heap.size _ _ _ rfl hT6 _ _ rfl rfl (by omega) (by omega) hz6 ?_; intro v7 w7 hO7 hg7 hk7)
        have hO8 := hO6.beside hg7 hA5.symm
        have hA7 : Apart v5 v7 := Apart.step hA5 hO6 hk7
        have hr7 := hr6.grown hg7 (fun k hk => by have := (hT6.wblk hk).1; omega)
        have hG7 := grownBy_trans hG6 hg7 (fun k hk => .inr (hT6.wblk hk).1)
        have HTM7 : Hid (tame (gs ++ [y]) ∧ tame (ts ++ [z])) := ⟨HTM5.out.1, tame_app HTM5.out.2 (by omega) (by omega)⟩
        have hT8 : Own w7 w3.heap.size 3 1 v7 (ts ++ [z]).length ((ts ++ [z]).map (Value.int .i64)) := by
          rw [List.map_append, List.length_append]; exact hO7
        have hgl8 : (gs ++ [y]).length + m1 ≤ 4 := by have := HM1.out; simp; omega
        have htl8 : (ts ++ [z]).length + m1 ≤ 4 := by have := HM1.out; simp; omega
        clear hO5' hT5 hA5 hr5 hG5 hO6 hT6 hG6 hr6 hg6 hO7 hg7 hk7
        go_roundw
        case rel => exact ⟨m1, q + 1 + 1, gs ++ [y], ts ++ [z], rfl, by have := HM1.out; omega, hO8, hT8, hA7, HTM7, ⟨hgl8, htl8⟩, by have := HM1.out; omega, hr7, hG7⟩
        case measure => (have := HM1.out; simp only [intOf]; omega)
      · have hm2i : ¬ (1 : Int) < (m : Int) := by omega
        go_wp2_with (at_builtin; refine wpList_append_one _ rfl _ _ 23 rfl 3 (.int .i64 0) 8 Try.underlying23 info_int rfl w3.heap.size _ _ _ rfl hO4 _ _ rfl rfl (by omega) (by omega) hz4 ?_; intro v5 w5 hO5 hg5 hk5)
        have hT5 := hT4.beside hg5 hAp
        have hA5 : Apart v5 u5 := (Apart.step (Apart.symm hAp) hT4 hk5).symm
        have hr5 := hr4.grown hg5 (fun k hk => by have := (hO4.wblk hk).1; omega)
        have hG5 : w3.grownBy w5 (some rb) := grownBy_trans hG4 hg5 (fun k hk => .inr (hO4.wblk hk).1)
        have hz5 := hG5.size
        have HTM5 : Hid (tame (gs ++ [y]) ∧ tame ts) := ⟨tame_app HTM.out.1 (by omega) (by omega), HTM.out.2⟩
        have hO5' : Own w5 w3.heap.size 3 1 v5 (gs ++ [y]).length ((gs ++ [y]).map (Value.int .i64)) := by
          rw [List.map_append, List.length_append]; exact hO5
        clear HO HT hO4 hT4 hG4 hr hg4 hO5 hg5 hk5 hAp hG
        have hgl8 : (gs ++ [y]).length + m1 ≤ 4 := by have := HM1.out; simp; omega
        go_roundw
        case rel => exact ⟨m1, q + 1, gs ++ [y], ts, rfl, by have := HM1.out; omega, hO5', hT5, hA5, HTM5, ⟨hgl8, by have := HM1.out; omega⟩, by have := HM1.out; omega, hr5, hG5⟩
        case measure => (have := HM1.out; simp only [intOf]; omega)
    · obtain rfl : m = 0 := by omega
      clear s0 s1 s2 fs0 fs1 fs2
      obtain ⟨ag, cg, rfl, hcg, hmg⟩ := hO.form
      obtain ⟨at', ct, rfl, hct, hmt⟩ := hT.form
      have hne : w1.heap.size ≠ w.heap.size := by omega
      have hne' : w.heap.size ≠ w1.heap.size := by omega
      have hS4 := ((hS.store (by omega) 1 (.slice ag gs.length cg)).1.store (by omega) 2 (.slice at' ts.length ct)).1
      simp only [List.set_cons_zero, List.set_cons_succ] at hS4
      have hY4 := (hY.grown (setCell_grown wr w1.heap.size 1 (.slice ag gs.length cg)) (fun k e => by cases e; right; simp [Value.ownBlock]; omega)).grown (setCell_grown _ w1.heap.size 2 (.slice at' ts.length ct)) (fun k e => by cases e; right; simp [Value.ownBlock]; omega)
      have hI4 : Ints ((wr.setCell ⟨w1.heap.size, 1, none⟩ (.slice ag gs.length cg)).setCell ⟨w1.heap.size, 2, none⟩ (.slice at' ts.length ct)) w3.heap.size (.slice ag gs.length cg) gs := ints_set (ints_set hO.intsL (by omega)) (by omega)
      have hJ4 : Ints ((wr.setCell ⟨w1.heap.size, 1, none⟩ (.slice ag gs.length cg)).setCell ⟨w1.heap.size, 2, none⟩ (.slice at' ts.length ct)) w3.heap.size (.slice at' ts.length ct) ts := ints_set (ints_set hT.intsL (by omega)) (by omega)
      have hr4 := (hr.grown (setCell_grown wr w1.heap.size 1 (.slice ag gs.length cg)) (fun k e => by cases e; omega)).grown (setCell_grown _ w1.heap.size 2 (.slice at' ts.length ct)) (fun k e => by cases e; omega)
      have hG4 := grownBy_trans (grownBy_trans (grownBy_trans HG3.out hG (fun x hx => .inl hx)) (setCell_grown wr w1.heap.size 1 (.slice ag gs.length cg)) (fun k e => by cases e; right; omega)) (setCell_grown _ w1.heap.size 2 (.slice at' ts.length ct)) (fun k e => by cases e; right; omega)
      obtain ⟨⟨j0, j1, j2⟩, fj0, fj1, fj2⟩ := box3 hS
      obtain ⟨w4, hw4⟩ : ∃ w4, w4 = (wr.setCell ⟨w1.heap.size, 1, none⟩ (.slice ag gs.length cg)).setCell ⟨w1.heap.size, 2, none⟩ (.slice at' ts.length ct) := ⟨_, rfl⟩
      rw [← hw4] at hS4 hY4 hI4 hJ4 hr4 hG4
      have hz4 : wr.heap.size = w4.heap.size := by rw [hw4]; simp [World.setCell]
      have HS4 := Lib.hid hS4
      have HY4 := Lib.hid hY4
      have HI4 := Lib.hid hI4
      have HJ4 := Lib.hid hJ4
      clear hS hY hO hT hAp hr hG hS4 hY4 hI4 hJ4 HG3 HS3 HY3
      go_wp2_with fail
      go_at_call 22
      rw [← hw4]
      clear hw4 j0 j1 j2 fj0 fj1 fj2
      refine (pick_h _ _ _ 24 hr4 (by omega) (by omega)).mono ?_; rintro e w5 ⟨x, rfl, _, hr5, hg5⟩
      have hS5 := HS4.out.grown hg5 (fun k hk => by cases hk; left; exact hrb)
      have hY5 := HY4.out.grown hg5 (fun k hk => by cases hk; left; exact hrb)
      have hI5 : Ints w5 w3.heap.size (.slice ag gs.length cg) gs := Rd.grown HI4.out hg5 (fun k hk => by cases hk; left; omega) (by decide)
      have hJ5 : Ints w5 w3.heap.size (.slice at' ts.length ct) ts := Rd.grown HJ4.out hg5 (fun k hk => by cases hk; left; omega) (by decide)
      have hG5 := grownBy_trans hG4 hg5 (fun x hx => .inl hx)
      have hz5 := hg5.size
      have HI5 := Lib.hid hI5
      have HJ5 := Lib.hid hJ5
      clear HS4 HY4 HI4 HJ4 hr4 hg5 hG4 hI5 hJ5
      by_cases hx0 : x = 0
      · have d0 : (x == 0) = true := by rw [hx0]; rfl
        clear hx0
        have HS5 := Lib.hid hS5
        have HY5 := Lib.hid hY5
        clear hS5 hY5
        go_wp2_with fail
        go_at_call 21
        refine (one_LR w5 rb _ [0, 30, 31] _ 3 rfl hr5 (by omega) (by omega) (by omega)).mono ?_; rintro e w6 ⟨y, rfl, _, hr6, hg6⟩
        have hS6 := HS5.out.grown hg6 (fun k hk => by cases hk; left; exact hrb)
        have hY6 := HY5.out.grown hg6 (fun k hk => by cases hk; left; exact hrb)
        have hG6 := grownBy_trans hG5 hg6 (fun x hx => .inl hx)
        have hz6 := hg6.size
        have hS7 := (hS6.store (by omega) 0 (.int .i64 y)).1
        simp only [List.set_cons_zero, List.set_cons_succ] at hS7
        have hY7 := hY6.grown (setCell_grown w6 w1.heap.size 0 (.int .i64 y)) (fun k e => by cases e; right; simp [Value.ownBlock]; omega)
        have hr7 := hr6.grown (setCell_grown w6 w1.heap.size 0 (.int .i64 y)) (fun k e => by cases e; omega)
        have hG7 := grownBy_trans hG6 (setCell_grown w6 w1.heap.size 0 (.int .i64 y)) (fun k e => by cases e; right; omega)
        have hI7 : Ints (w6.setCell ⟨w1.heap.size, 0, none⟩ (.int .i64 y)) w3.heap.size (.slice ag gs.length cg) (gs) := ints_set (Rd.grown HI5.out hg6 (fun k hk => by cases hk; left; omega) (by decide)) (by omega)
        have hJ7 : Ints (w6.setCell ⟨w1.heap.size, 0, none⟩ (.int .i64 y)) w3.heap.size (.slice at' ts.length ct) (ts) := ints_set (Rd.grown HJ5.out hg6 (fun k hk => by cases hk; left; omega) (by decide)) (by omega)
        obtain ⟨⟨k0, k1, k2⟩, fk0, fk1, fk2⟩ := box3 hS7
        obtain ⟨⟨l0, l1, l2⟩, fl0, fl1, fl2⟩ := box3 hS6
        obtain ⟨⟨q0, q1, q2⟩, fq0, fq1, fq2⟩ := box3 hY7
        obtain ⟨⟨r0, r1, r2⟩, fr0, fr1, fr2⟩ := box3 hY6
        have HF := Lib.hid (street_fin (b0 := w.heap.size) (c := y) hrb (Nat.le_refl _) (hI7.mono (by omega)) (hJ7.mono (by omega)) hr7 hG7)
        clear hS6 hS7 hY6 hY7 hr5 hr6 hr7 hG5 hG6 hG7 hI7 hJ7 HI5 HJ5 hg6 HS5 HY5
        go_wp2_with fail
        exact bodyPost_ret (v := .agg #[.int .i64 y, .slice ag gs.length cg, .slice at' ts.length ct]) (by simp [results, Try.results10, go_sem, l0, l1, l2, fl0, fl1, fl2, k0, k1, k2, fk0, fk1, fk2, r0, r1, r2, fr0, fr1, fr2, q0, q1, q2, fq0, fq1, fq2, hne, hne']) rfl HF.out
      · have d0 : (x == 0) = false := beq_eq_false_iff_ne.mpr hx0
        by_cases hx1 : x = 1
        · have d1 : (x == 1) = true := by rw [hx1]; rfl
          clear hx0 hx1
          have HS5 := Lib.hid hS5
          have HY5 := Lib.hid hY5
          clear hS5 hY5
          go_wp2_with fail
          go_at_call 23
          refine (spoil_h w5 rb _ _ gs 31 hr5 (by omega) (HI5.out.mono (Nat.zero_le _)) (by omega) HTM.out.1 (by omega)).mono ?_; rintro e w6 ⟨v6, ys, q6, rfl, hI6', hyl, _, hq6, hr6, hg6⟩
          obtain ⟨a6, c6, rfl, hc6, hm6⟩ := Rd.form hI6'
          have hI6 : Ints w6 w3.heap.size (.slice a6 ys.length c6) ys := Rd.mono hI6' (by omega)
          have hS6 := HS5.out.grown hg6 (fun k hk => by cases hk; left; exact hrb)
          have hY6 := HY5.out.grown hg6 (fun k hk => by cases hk; left; exact hrb)
          have hG6 := grownBy_trans hG5 hg6 (fun x hx => .inl hx)
          have hz6 := hg6.size
          have hS7 := (hS6.store (by omega) 1 (.slice a6 ys.length c6)).1
          simp only [List.set_cons_zero, List.set_cons_succ] at hS7
          have hY7 := hY6.grown (setCell_grown w6 w1.heap.size 1 (.slice a6 ys.length c6)) (fun k e => by cases e; right; simp [Value.ownBlock]; omega)
          have hr7 := hr6.grown (setCell_grown w6 w1.heap.size 1 (.slice a6 ys.length c6)) (fun k e => by cases e; omega)
          have hG7 := grownBy_trans hG6 (setCell_grown w6 w1.heap.size 1 (.slice a6 ys.length c6)) (fun k e => by cases e; right; omega)
          have hI7 : Ints (w6.setCell ⟨w1.heap.size, 1, none⟩ (.slice a6 ys.length c6)) w3.heap.size (.slice a6 ys.length c6) (ys) := ints_set (hI6) (by omega)
          have hJ7 : Ints (w6.setCell ⟨w1.heap.size, 1, none⟩ (.slice a6 ys.length c6)) w3.heap.size (.slice at' ts.length ct) (ts) := ints_set (Rd.grown HJ5.out hg6 (fun k hk => by cases hk; left; omega) (by decide)) (by omega)
          obtain ⟨⟨k0, k1, k2⟩, fk0, fk1, fk2⟩ := box3 hS7
          obtain ⟨⟨l0, l1, l2⟩, fl0, fl1, fl2⟩ := box3 hS6
          obtain ⟨⟨q0, q1, q2⟩, fq0, fq1, fq2⟩ := box3 hY7
          obtain ⟨⟨r0, r1, r2⟩, fr0, fr1, fr2⟩ := box3 hY6
          have HF := Lib.hid (street_fin (b0 := w.heap.size) (c := c) hrb (Nat.le_refl _) (hI7.mono (by omega)) (hJ7.mono (by omega)) hr7 hG7)
          clear hS6 hS7 hY6 hY7 hr5 hr6 hr7 hG5 hG6 hG7 hI7 hJ7 HI5 HJ5 hg6 HS5 HY5
          go_wp2_with fail
          exact bodyPost_ret (v := .agg #[.int .i64 c, .slice a6 ys.length c6, .slice at' ts.length ct]) (by simp [results, Try.results10, go_sem, l0, l1, l2, fl0, fl1, fl2, k0, k1, k2, fk0, fk1, fk2, r0, r1, r2, fr0, fr1, fr2, q0, q1, q2, fq0, fq1, fq2, hne, hne']) rfl HF.out
        · have d1 : (x == 1) = false := beq_eq_false_iff_ne.mpr hx1
          by_cases hx2 : x = 2
          · have d2 : (x == 2) = true := by rw [hx2]; rfl
            clear hx0 hx1 hx2
            have HS5 := Lib.hid hS5
            have HY5 := Lib.hid hY5
            clear hS5 hY5
            go_wp2_with fail
            go_at_call 23
            refine (spoil_h w5 rb _ _ ts 61 hr5 (by omega) (HJ5.out.mono (Nat.zero_le _)) (by omega) HTM.out.2 (by omega)).mono ?_; rintro e w6 ⟨v6, ys, q6, rfl, hI6', hyl, _, hq6, hr6, hg6⟩
            obtain ⟨a6, c6, rfl, hc6, hm6⟩ := Rd.form hI6'
            have hI6 : Ints w6 w3.heap.size (.slice a6 ys.length c6) ys := Rd.mono hI6' (by omega)
            have hS6 := HS5.out.grown hg6 (fun k hk => by cases hk; left; exact hrb)
            have hY6 := HY5.out.grown hg6 (fun k hk => by cases hk; left; exact hrb)
            have hG6 := grownBy_trans hG5 hg6 (fun x hx => .inl hx)
            have hz6 := hg6.size
            have hS7 := (hS6.store (by omega) 2 (.slice a6 ys.length c6)).1
            simp only [List.set_cons_zero, List.set_cons_succ] at hS7
            have hY7 := hY6.grown (setCell_grown w6 w1.heap.size 2 (.slice a6 ys.length c6)) (fun k e => by cases e; right; simp [Value.ownBlock]; omega)
            have hr7 := hr6.grown (setCell_grown w6 w1.heap.size 2 (.slice a6 ys.length c6)) (fun k e => by cases e; omega)
            have hG7 := grownBy_trans hG6 (setCell_grown w6 w1.heap.size 2 (.slice a6 ys.length c6)) (fun k e => by cases e; right; omega)
            have hI7 : Ints (w6.setCell ⟨w1.heap.size, 2, none⟩ (.slice a6 ys.length c6)) w3.heap.size (.slice ag gs.length cg) (gs) := ints_set (Rd.grown HI5.out hg6 (fun k hk => by cases hk; left; omega) (by decide)) (by omega)
            have hJ7 : Ints (w6.setCell ⟨w1.heap.size, 2, none⟩ (.slice a6 ys.length c6)) w3.heap.size (.slice a6 ys.length c6) (ys) := ints_set (hI6) (by omega)
            obtain ⟨⟨k0, k1, k2⟩, fk0, fk1, fk2⟩ := box3 hS7
            obtain ⟨⟨l0, l1, l2⟩, fl0, fl1, fl2⟩ := box3 hS6
            obtain ⟨⟨q0, q1, q2⟩, fq0, fq1, fq2⟩ := box3 hY7
            obtain ⟨⟨r0, r1, r2⟩, fr0, fr1, fr2⟩ := box3 hY6
            have HF := Lib.hid (street_fin (b0 := w.heap.size) (c := c) hrb (Nat.le_refl _) (hI7.mono (by omega)) (hJ7.mono (by omega)) hr7 hG7)
            clear hS6 hS7 hY6 hY7 hr5 hr6 hr7 hG5 hG6 hG7 hI7 hJ7 HI5 HJ5 hg6 HS5 HY5
            go_wp2_with fail
            exact bodyPost_ret (v := .agg #[.int .i64 c, .slice ag gs.length cg, .slice a6 ys.length c6]) (by simp [results, Try.results10, go_sem, l0, l1, l2, fl0, fl1, fl2, k0, k1, k2, fk0, fk1, fk2, r0, r1, r2, fr0, fr1, fr2, q0, q1, q2, fq0, fq1, fq2, hne, hne']) rfl HF.out
          · have d2 : (x == 2) = false := beq_eq_false_iff_ne.mpr hx2
            clear hx0 hx1 hx2
            obtain ⟨⟨k0, k1, k2⟩, fk0, fk1, fk2⟩ := box3 hS5
            obtain ⟨⟨q0, q1, q2⟩, fq0, fq1, fq2⟩ := box3 hY5
            have HF := Lib.hid (street_fin (b0 := w.heap.size) (c := c) hrb (Nat.le_refl _) (HI5.out.mono (by omega)) (HJ5.out.mono (by omega)) hr5 hG5)
            clear hS5 hY5 hr5 hG5 HI5 HJ5
            go_wp2_with fail
            exact bodyPost_ret (v := .agg #[.int .i64 c, .slice ag gs.length cg, .slice at' ts.length ct]) (by simp [results, Try.results10, go_sem, k0, k1, k2, fk0, fk1, fk2, q0, q1, q2, fq0, fq1, fq2, hne]) rfl HF.out
end Go.Proofs.Ytbojkhmlfflakaa
