/- RunCar: how many orders are carried out. -/
import Derived.Test.YtpaioaknppgggaaGreatDoorWk1
namespace Go.Proofs.YtpaioaknppgggaaGreatDoor
open Go.RowKit
set_option linter.unusedVariables false
set_option linter.unusedSimpArgs false

def CarB (W : World) (B gs : Nat) (c : CarV) : Prop := Own W B 29 4 (.slice (some ⟨gs, 0, none⟩) 1 1) 1 [.int .i64 c.fl, .int .i64 c.hd, .int .i64 c.ld, .bool c.op]
theorem CarB.at {W : World} {B gs : Nat} {c : CarV} (h : CarB W B gs c) : B ≤ gs ∧ gs < W.heap.size ∧ (W.frozen? ⟨gs, 0, none⟩ = false ∧ W.frozen? ⟨gs, 1, none⟩ = false ∧ W.frozen? ⟨gs, 2, none⟩ = false ∧ W.frozen? ⟨gs, 3, none⟩ = false) ∧
    W.cell? ⟨gs, 0, none⟩ = some (.int .i64 c.fl) ∧ W.cell? ⟨gs, 1, none⟩ = some (.int .i64 c.hd) ∧ W.cell? ⟨gs, 2, none⟩ = some (.int .i64 c.ld) ∧ W.cell? ⟨gs, 3, none⟩ = some (.bool c.op) := by
  obtain ⟨g, hg, h1, h2, h3, h4, _⟩ := Own.parts h (by decide)
  cases hg
  exact ⟨h1, h2, ⟨h4 0, h4 1, h4 2, h4 3⟩, h3 0 (by simp), h3 1 (by simp), h3 2 (by simp), h3 3 (by simp)⟩
theorem CarB.set {W : World} {B gs : Nat} {c : CarV} (h : CarB W B gs c) (d : CarV) :
    CarB ((((W.setCell ⟨gs, 0, none⟩ (.int .i64 d.fl)).setCell ⟨gs, 1, none⟩ (.int .i64 d.hd)).setCell ⟨gs, 2, none⟩ (.int .i64 d.ld)).setCell ⟨gs, 3, none⟩ (.bool d.op)) B gs d := by
  have st : ∀ {W : World} {cs : List Value} (i : Nat) (u : Value), Own W B 29 4 (.slice (some ⟨gs, 0, none⟩) 1 1) 1 cs → Own (W.setCell ⟨gs, i, none⟩ u) B 29 4 (.slice (some ⟨gs, 0, none⟩) 1 1) 1 (cs.set i u) := fun {W cs} i u h => by
    obtain ⟨g, hg, _, _, _, _, hset⟩ := Own.parts h (by decide)
    cases hg
    exact (hset i u).1
  exact st 3 (.bool d.op) (st 2 (.int .i64 d.ld) (st 1 (.int .i64 d.hd) (st 0 (.int .i64 d.fl) h)))
theorem CarB.other {W : World} {B gs gs' : Nat} {c c' : CarV} (h : CarB W B gs c) (h' : CarB W B gs' c') (hne : gs' ≠ gs) (d : CarV) :
    CarB ((((W.setCell ⟨gs, 0, none⟩ (.int .i64 d.fl)).setCell ⟨gs, 1, none⟩ (.int .i64 d.hd)).setCell ⟨gs, 2, none⟩ (.int .i64 d.ld)).setCell ⟨gs, 3, none⟩ (.bool d.op)) B gs' c' := by
  have st : ∀ {W : World} {cs : List Value} (i : Nat) (u : Value), Own W B 29 4 (.slice (some ⟨gs, 0, none⟩) 1 1) 1 cs ∧ CarB W B gs' c' → Own (W.setCell ⟨gs, i, none⟩ u) B 29 4 (.slice (some ⟨gs, 0, none⟩) 1 1) 1 (cs.set i u) ∧ CarB (W.setCell ⟨gs, i, none⟩ u) B gs' c' := fun {W cs} i u h => by
    obtain ⟨g, hg, _, _, _, _, hset⟩ := Own.parts h.1 (by decide)
    cases hg
    exact ⟨(hset i u).1, Own.grown h.2 (hset i u).2 (fun k hk => .inr (fun e => hne (by cases hk; simpa [Value.ownBlock] using e)))⟩
  exact (st 3 (.bool d.op) (st 2 (.int .i64 d.ld) (st 1 (.int .i64 d.hd) (st 0 (.int .i64 d.fl) ⟨h, h'⟩)))).2
theorem CarB.below {w w' : World} {B gs K : Nat} {c : CarV} (h : CarB w B gs c) (hb : Below K w w') (hB : w.heap.size ≤ K) : CarB w' B gs c := Own.below h hb hB
theorem below_4 {B : Nat} {w W : World} (h : Below B w W) {g : Nat} (hg : B ≤ g) (a b c d : Value) : Below B w ((((W.setCell ⟨g, 0, none⟩ a).setCell ⟨g, 1, none⟩ b).setCell ⟨g, 2, none⟩ c).setCell ⟨g, 3, none⟩ d) :=
  (((h.setCell (p := ⟨g, 0, none⟩) hg a).setCell (p := ⟨g, 1, none⟩) hg b).setCell (p := ⟨g, 2, none⟩) hg c).setCell (p := ⟨g, 3, none⟩) hg d
def RunCRet (w : World) (n : Nat) (e : Ending) (w' : World) : Prop := ∃ c : CarV, e = .returned (.tuple #[.agg #[.int .i64 c.fl, .int .i64 c.hd, .int .i64 c.ld, .bool c.op], .int .i64 n]) ∧ Below w.heap.size w w'
theorem ranC_step {c : CarV} {os : List Nat} {k : Nat} (hk : k < os.length) : ranC c (os.drop k) = match stepC c (os.getD k 0) with | some d => ranC d (os.drop (k + 1)) + 1 | none => 0 := by
  rw [List.drop_eq_getElem_cons hk, List.getD_eq_getElem?_getD, List.getElem?_eq_getElem hk]; rfl

set_option maxRecDepth 100000 in
set_option maxHeartbeats 8000000 in
theorem impl_runCar (w : World) (v : Value) (os : List Nat) (hv : Ints w 0 v (os.map fun n : Nat => (n : Int))) (ho : ∀ o ∈ os, 1 ≤ o ∧ o ≤ 7) (hn : os.length ≤ 40) :
    Calls Tryz.prog 11 #[.agg #[.int .i64 0, .int .i64 0, .int .i64 0, .bool false], v] w (RunCRet w (ranC car0 os)) := by
  have hv' : Rd w 0 v 1 os.length ((os.map fun n : Nat => (n : Int)).map (Value.int .i64)) := by unfold Ints at hv; simpa using hv
  obtain ⟨ao, cap, rfl, hcap, hm⟩ := hv'.form
  have HV := Lib.hid hv'
  clear hv hv'
  have dn : ¬ (40 : Int) < ((os.length : Nat) : Int) := by omega
  have hb1 : CarB (w.alloc (.cells #[.int .i64 0, .int .i64 0, .int .i64 0, .bool false] 29)) w.heap.size w.heap.size car0 := Own.made w [.int .i64 0, .int .i64 0, .int .i64 0, .bool false] 29 w.heap.size 4 1 rfl (Nat.le_refl _) (by decide)
  go_enter Tryz.func11, Tryz.ntmps11
  have hb2 := hb1.below ((Below.refl _ _).alloc (Nat.le_refl _) (.cells #[.int .i64 0, .int .i64 0, .int .i64 0, .bool false] 29)) (Nat.le_refl _)
  have hc2 : CarB ((w.alloc (.cells #[.int .i64 0, .int .i64 0, .int .i64 0, .bool false] 29)).alloc (.cells #[.int .i64 0, .int .i64 0, .int .i64 0, .bool false] 29)) w.heap.size (w.heap.size + 1) car0 := by
    have h := Own.made (w.alloc (.cells #[.int .i64 0, .int .i64 0, .int .i64 0, .bool false] 29)) [.int .i64 0, .int .i64 0, .int .i64 0, .bool false] 29 w.heap.size 4 1 rfl (by simp) (by decide)
    simp only [World.size_alloc] at h
    exact h
  have hB2 : Below w.heap.size w ((w.alloc (.cells #[.int .i64 0, .int .i64 0, .int .i64 0, .bool false] 29)).alloc (.cells #[.int .i64 0, .int .i64 0, .int .i64 0, .bool false] 29)) := ((Below.refl _ _).alloc (Nat.le_refl _) _).alloc (by simp) _
  have HVC : Hid (∀ V, Calls Tryz.prog 25 #[.agg #[.int .i64 0, .int .i64 0, .int .i64 0, .bool false]] V fun e w' => e = .returned (.bool true) ∧ Below V.heap.size V w') := fun V => by
    refine (impl_validCar V 0 0 0 false (by unfold carOk; decide)).mono ?_
    rintro e w' ⟨h1, h2⟩
    exact ⟨h1, by rw [h2]; exact (Below.refl _ _).alloc (Nat.le_refl _) _⟩
  clear hb1
  go_wp2_with fail
  generalize ((w.alloc (.cells #[.int .i64 0, .int .i64 0, .int .i64 0, .bool false] 29)).alloc (.cells #[.int .i64 0, .int .i64 0, .int .i64 0, .bool false] 29)) = w2 at hb2 hc2 hB2 ⊢
  go_wp2_with (go_at_call 25; refine (HVC.out _).mono ?_; rintro e' w3 ⟨rfl, hB3⟩; have hb3 := hb2.below hB3 (Nat.le_refl _); have hc3 := hc2.below hB3 (Nat.le_refl _); have hB3 := hB2.trans (hB3.mono hB2.size))
  clear hb2 hc2 hB2 HVC dn
  have h00 : carOk car0 := by unfold carOk; decide
  go_loopw [21] (fun iv V => ∃ (k : Nat) (c : CarV), k ≤ os.length ∧ iv = .int .i64 k ∧ CarB V w.heap.size w.heap.size c ∧ CarB V w.heap.size (w.heap.size + 1) car0 ∧ carOk c ∧ Hid (k + ranC c (os.drop k) = ranC car0 os) ∧ Below w.heap.size w V) (fun iv _ => os.length - (intOf iv).toNat)
  case atStart => exact ⟨0, car0, Nat.zero_le _, rfl, hb3, hc3, h00, by unfold Hid; simp, hB3⟩
  case round =>
    clear hb3 hc3 hB3 h00
    obtain ⟨k, c, hk, rfl, hb, hc, hok, HK, hB⟩ := hrel
    by_cases hlt : k < os.length
    · have hltz : (k : Int) < (os.length : Int) := by omega
      obtain ⟨b, off, rfl, _, hbl, hcell⟩ := Rd.spot (f := fun n : Nat => Value.int .i64 (n : Int)) 0 (by have := HV.out; rwa [List.map_map] at this) (by omega : 0 < os.length)
      obtain ⟨o, hoo⟩ : ∃ o, o = os.getD k 0 := ⟨_, rfl⟩
      have hco : wr.cell? ⟨b, off + k, none⟩ = some (.int .i64 (o : Int)) := by
        rw [hoo]; exact (hB.cell (p := ⟨b, off + k, none⟩) hbl).trans (hcell k hlt)
      have h17 : 1 ≤ o ∧ o ≤ 7 := ho o (by rw [hoo, List.getD_eq_getElem?_getD, List.getElem?_eq_getElem hlt]; exact List.getElem_mem _)
      have hst := ranC_step (c := c) hlt
      rw [← hoo] at hst
      obtain ⟨r, hr⟩ : ∃ r, r = stepC c o := ⟨_, rfl⟩
      rw [← hr] at hst
      have hokd : ∀ d, r = some d → carOk d := fun d h => stepC_ok hok (o := o) (by rw [← hr]; exact h)
      obtain ⟨fl, hd, ld, op⟩ := c
      have HC : Hid (∀ V, Calls Tryz.prog 26 #[.agg #[.int .i64 fl, .int .i64 hd, .int .i64 ld, .bool op], .int .i64 o] V (StpRet V r)) := fun V => impl_stepCar V _ _ _ _ o hok h17 r hr
      obtain ⟨_, hg, _, p0, p1, p2, p3⟩ := hb.at
      have HB := Lib.hid hb
      have HCC := Lib.hid hc
      have HBW := Lib.hid hB
      have HST := Lib.hid hst
      simp only at p0 p1 p2 p3
      clear hb hc hB hst hcell hoo hr hok
      cases r with
      | none =>
        clear hokd
        go_wp2_with (go_at_call 26; refine (HC.out _).mono ?_; rintro e' w4 ⟨rfl, hB4⟩; unfold carV; simp only [Option.getD_none, Option.isSome_none, car0]; obtain ⟨_, hg4, ⟨f0, f1, f2, f3⟩, q0, q1, q2, q3⟩ := (HB.out.below hB4 (Nat.le_refl _)).at; obtain ⟨_, hg5, ⟨f4, f5, f6, f7⟩, q4, q5, q6, q7⟩ := (HCC.out.below hB4 (Nat.le_refl _)).at; simp only [car0] at q0 q1 q2 q3 q4 q5 q6 q7; have HB4 := Lib.hid (HBW.out.trans (hB4.mono HBW.out.size)); clear hB4)
        have hst := HST.out
        have hkk := HK.out
        have hst0 : ranC ⟨fl, hd, ld, op⟩ (os.drop k) = 0 := hst
        rw [hst0, Nat.add_zero] at hkk
        rw [← hkk]
        have hz4 := HB4.out.size
        refine bodyPost_ret (v := .tuple #[.agg #[.int .i64 fl, .int .i64 hd, .int .i64 ld, .bool op], .int .i64 k]) (by simp [results, Tryz.results11, go_sem, q4, q5, q6, q7, f4, f5, f6, f7, hg5]) rfl ⟨⟨fl, hd, ld, op⟩, rfl, ?_⟩
        have hw6 := below_4 (g := w.heap.size + 1) HB4.out (by omega) (.int .i64 fl) (.int .i64 hd) (.int .i64 ld) (.bool op)
        exact hw6.alloc (by have := hw6.size; omega) _
      | some d =>
        have hod := hokd d rfl
        clear hokd
        obtain ⟨dfl, dhd, dld, dop⟩ := d
        go_wp2_with (go_at_call 26; refine (HC.out _).mono ?_; rintro e' w4 ⟨rfl, hB4⟩; unfold carV; simp only [Option.getD_some, Option.isSome_some]; obtain ⟨_, hg4, ⟨f0, f1, f2, f3⟩, q0, q1, q2, q3⟩ := (HB.out.below hB4 (Nat.le_refl _)).at; simp only at q0 q1 q2 q3; have HB4 := Lib.hid (HB.out.below hB4 (Nat.le_refl _)); have HC4 := Lib.hid (HCC.out.below hB4 (Nat.le_refl _)); have HW4 := Lib.hid (HBW.out.trans (hB4.mono HBW.out.size)); clear hB4)
        have hb6 := (HB4.out.set ⟨dfl, dhd, dld, dop⟩)
        have hc6 := (HB4.out.other HC4.out (by omega) ⟨dfl, dhd, dld, dop⟩)
        have hw6 := below_4 HW4.out (Nat.le_refl _) (.int .i64 dfl) (.int .i64 dhd) (.int .i64 dld) (.bool dop)
        have HK6 : Hid ((k + 1) + ranC ⟨dfl, dhd, dld, dop⟩ (os.drop (k + 1)) = ranC car0 os) := by
          have hst := HST.out
          simp only at hst
          have := HK.out
          unfold Hid
          omega
        go_roundw
        case rel => exact ⟨k + 1, ⟨dfl, dhd, dld, dop⟩, by omega, by go_num, hb6.below ((Below.refl _ _).alloc (Nat.le_refl _) _) (Nat.le_refl _), hc6.below ((Below.refl _ _).alloc (Nat.le_refl _) _) (Nat.le_refl _), hod, HK6, hw6.alloc (by have := hw6.size; omega) _⟩
        case measure => simp [intOf]; omega
    · have hltz : ¬ (k : Int) < (os.length : Int) := by omega
      obtain ⟨fl, hd, ld, op⟩ := c
      obtain ⟨_, hg, _, p0, p1, p2, p3⟩ := hb.at
      obtain ⟨_, hg5, ⟨f4, f5, f6, f7⟩, q4, q5, q6, q7⟩ := hc.at
      simp only [car0] at p0 p1 p2 p3 q4 q5 q6 q7
      have HBW := Lib.hid hB
      have hkn : k = os.length := by omega
      have hkk := HK.out
      rw [List.drop_eq_nil_of_le (by omega)] at hkk
      have hkr : ranC car0 os = os.length := by rw [← hkk, hkn]; rfl
      clear hb hc hB HK hkk
      go_wp2_with fail
      refine bodyPost_ret (v := .tuple #[.agg #[.int .i64 fl, .int .i64 hd, .int .i64 ld, .bool op], .int .i64 os.length]) (by simp [results, Tryz.results11, go_sem, q4, q5, q6, q7, f4, f5, f6, f7, hg5]) rfl ⟨⟨fl, hd, ld, op⟩, rfl, ?_⟩
      exact below_4 (g := w.heap.size + 1) HBW.out (by omega) (.int .i64 fl) (.int .i64 hd) (.int .i64 ld) (.bool op)
end Go.Proofs.YtpaioaknppgggaaGreatDoor
