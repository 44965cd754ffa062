/- The program's ride: its state in memory, and what it asks of it (riding, hasRoom, waiting). The program's ride: letting out. The program's ride: letting in. The program's ride: driving. The program's ride: its beginning. -/
import Derived.Test.YtpaioaknppgggaaGreatDoorSsA
import Derived.StillTailTactics
import Derived.Deep.CutBlock
import Derived.Deep.DeepCutAuto
import Derived.BigRegion
namespace Go.Proofs.YtpaioaknppgggaaGreatDoor

section
open Go.RowKit
set_option linter.unusedVariables false
set_option linter.unusedSimpArgs false

def rideCells (vc : Value) (g1 g2 n : Nat) (fl hd ins lft : Int) : List Value := [vc, .slice (some ⟨g1, 0, none⟩) n n, .slice (some ⟨g2, 0, none⟩) n n, .int .i64 fl, .int .i64 hd, .int .i64 ins, .int .i64 lft]
/-- A ride that was begun at w1, as it lies in W. -/
def RI (w1 : World) (gr g1 g2 n : Nat) (vc : Value) (on off : List Int) (fl hd ins lft : Int) (W : World) : Prop :=
  Own W w1.heap.size 96 7 (.slice (some ⟨gr, 0, none⟩) 1 1) 1 (rideCells vc g1 g2 n fl hd ins lft) ∧ RidO W w1.heap.size g1 g2 n on off ∧ ¬ gr = g1 ∧ ¬ gr = g2 ∧ w1.heap.size ≤ g1 ∧ w1.heap.size ≤ g2 ∧ w1.heap.size ≤ gr ∧ Below w1.heap.size w1 W
section
variable {w1 W : World} {gr g1 g2 n : Nat} {vc : Value} {on off : List Int} {fl hd ins lft : Int}
theorem RI.box (h : RI w1 gr g1 g2 n vc on off fl hd ins lft W) : gr < W.heap.size ∧ (∀ i, W.frozen? ⟨gr, i, none⟩ = false) ∧ W.cell? ⟨gr, 0, none⟩ = some vc ∧ W.cell? ⟨gr, 1, none⟩ = some (.slice (some ⟨g1, 0, none⟩) n n) ∧ W.cell? ⟨gr, 2, none⟩ = some (.slice (some ⟨g2, 0, none⟩) n n) ∧
    W.cell? ⟨gr, 3, none⟩ = some (.int .i64 fl) ∧ W.cell? ⟨gr, 4, none⟩ = some (.int .i64 hd) ∧ W.cell? ⟨gr, 5, none⟩ = some (.int .i64 ins) ∧ W.cell? ⟨gr, 6, none⟩ = some (.int .i64 lft) := by
  obtain ⟨hO, _⟩ := h
  obtain ⟨g', e1, h2, h3, h4, h5, h6⟩ := hO.parts (by omega)
  cases e1
  have hl : (rideCells vc g1 g2 n fl hd ins lft).length = 7 := rfl
  exact ⟨h3, h5, h4 0 (by omega), h4 1 (by omega), h4 2 (by omega), h4 3 (by omega), h4 4 (by omega), h4 5 (by omega), h4 6 (by omega)⟩
theorem RI.two (h : RI w1 gr g1 g2 n vc on off fl hd ins lft W) : RidO W w1.heap.size g1 g2 n on off := h.2.1
theorem RI.bel (h : RI w1 gr g1 g2 n vc on off fl hd ins lft W) : Below w1.heap.size w1 W := h.2.2.2.2.2.2.2
theorem RI.below {W' : World} (h : RI w1 gr g1 g2 n vc on off fl hd ins lft W) (hb : Below W.heap.size W W') : RI w1 gr g1 g2 n vc on off fl hd ins lft W' := by
  obtain ⟨h1, h2, h3, h4, h5, h6, h7, h8⟩ := h
  exact ⟨h1.below hb (Nat.le_refl _), h2.below hb, h3, h4, h5, h6, h7, h8.trans (hb.mono h8.size)⟩
theorem RI.drewN (h : RI w1 gr g1 g2 n vc on off fl hd ins lft W) (m : Nat) : RI w1 gr g1 g2 n vc on off fl hd ins lft (W.drewN m) := h.below (below_drewN (Below.refl _ _) m)
theorem RI.alloc (h : RI w1 gr g1 g2 n vc on off fl hd ins lft W) (o : Obj) : RI w1 gr g1 g2 n vc on off fl hd ins lft (W.alloc o) := h.below ((Below.refl _ _).alloc (Nat.le_refl _) _)
theorem RI.setBox (h : RI w1 gr g1 g2 n vc on off fl hd ins lft W) (i : Nat) (u : Value) {fl' hd' ins' lft' : Int} (e : (rideCells vc g1 g2 n fl hd ins lft).set i u = rideCells vc g1 g2 n fl' hd' ins' lft') :
    RI w1 gr g1 g2 n vc on off fl' hd' ins' lft' (W.setCell ⟨gr, i, none⟩ u) := by
  obtain ⟨h1, ⟨h2, h2b, h2c⟩, h3, h4, h5, h6, h7, h8⟩ := h
  obtain ⟨k1, k2⟩ := h1.store (by omega) i u
  rw [e] at k1
  exact ⟨k1, ⟨h2.grown k2 (fun k hk => .inr (fun x => h3 (by cases hk; exact (Option.some.inj x).symm))), h2b.grown k2 (fun k hk => .inr (fun x => h4 (by cases hk; exact (Option.some.inj x).symm))), h2c⟩, h3, h4, h5, h6, h7, h8.setCell (p := ⟨gr, i, none⟩) h7 _⟩
theorem RI.setFl (h : RI w1 gr g1 g2 n vc on off fl hd ins lft W) (x : Int) : RI w1 gr g1 g2 n vc on off x hd ins lft (W.setCell ⟨gr, 3, none⟩ (.int .i64 x)) := h.setBox 3 _ rfl
theorem RI.setHd (h : RI w1 gr g1 g2 n vc on off fl hd ins lft W) (x : Int) : RI w1 gr g1 g2 n vc on off fl x ins lft (W.setCell ⟨gr, 4, none⟩ (.int .i64 x)) := h.setBox 4 _ rfl
theorem RI.setIns (h : RI w1 gr g1 g2 n vc on off fl hd ins lft W) (x : Int) : RI w1 gr g1 g2 n vc on off fl hd x lft (W.setCell ⟨gr, 5, none⟩ (.int .i64 x)) := h.setBox 5 _ rfl
theorem RI.setLft (h : RI w1 gr g1 g2 n vc on off fl hd ins lft W) (x : Int) : RI w1 gr g1 g2 n vc on off fl hd ins x (W.setCell ⟨gr, 6, none⟩ (.int .i64 x)) := h.setBox 6 _ rfl
theorem RI.setOn (h : RI w1 gr g1 g2 n vc on off fl hd ins lft W) (i : Nat) (hi : i < n) (x : Int) : RI w1 gr g1 g2 n vc (on.set i x) off fl hd ins lft (W.setCell ⟨g1, i, none⟩ (.int .i64 x)) := by
  obtain ⟨h1, h2, h3, h4, h5, h6, h7, h8⟩ := h
  have hg := (h2.1.store (by omega) i (.int .i64 x)).2
  exact ⟨h1.grown hg (fun k hk => .inr (fun e => h3 (by cases hk; exact Option.some.inj e))), h2.setOn i hi x, h3, h4, h5, h6, h7, h8.setCell (p := ⟨g1, i, none⟩) h5 _⟩
theorem RI.setOff (h : RI w1 gr g1 g2 n vc on off fl hd ins lft W) (i : Nat) (hi : i < n) (x : Int) : RI w1 gr g1 g2 n vc on (off.set i x) fl hd ins lft (W.setCell ⟨g2, i, none⟩ (.int .i64 x)) := by
  obtain ⟨h1, h2, h3, h4, h5, h6, h7, h8⟩ := h
  have hg := (h2.2.1.store (by omega) i (.int .i64 x)).2
  exact ⟨h1.grown hg (fun k hk => .inr (fun e => h4 (by cases hk; exact Option.some.inj e))), h2.setOff i hi x, h3, h4, h5, h6, h7, h8.setCell (p := ⟨g2, i, none⟩) h6 _⟩
end

set_option maxHeartbeats 2000000 in
theorem impl_riding (w1 W : World) (gr g1 g2 n : Nat) (vc : Value) (on off : List Int) (fl hd ins lft : Int) (h : RI w1 gr g1 g2 n vc on off fl hd ins lft W) (i : Nat) (hi : i < n) (hn : n ≤ 12) (r : Bool) (hr : r = (decide (0 ≤ on.getD i 0) && decide (off.getD i 0 < 0))) :
    Calls Tryz.prog 99 #[.pointer (some ⟨gr, 0, none⟩), .int .i64 i] W fun e w' => e = .returned (.bool r) ∧ W = w' := by
  obtain ⟨_, _, b0, b1, b2, _⟩ := h.box
  obtain ⟨a1, a2, _⟩ := h.two.at hi
  obtain ⟨x, hx⟩ : ∃ x, x = on.getD i 0 := ⟨_, rfl⟩
  obtain ⟨y, hy⟩ : ∃ y, y = off.getD i 0 := ⟨_, rfl⟩
  rw [← hx] at a1 hr
  rw [← hy] at a2 hr
  clear hx hy h
  have hiz : (i : Int) < (n : Int) := by omega
  go_enter Tryz.func99, Tryz.ntmps99
  by_cases h1 : 0 ≤ x
  · by_cases h2 : y < 0
    · have HR : Hid (r = true) := by unfold Hid; rw [hr]; simp [h1, h2]
      clear hr
      go_wp2_with fail
      go_ret
      exact ⟨by rw [HR.out]; rfl, rfl⟩
    · have HR : Hid (r = false) := by unfold Hid; rw [hr]; simp; omega
      clear hr
      go_wp2_with fail
      go_ret
      exact ⟨by rw [HR.out]; rfl, rfl⟩
  · have HR : Hid (r = false) := by unfold Hid; rw [hr]; simp; omega
    clear hr
    go_wp2_with fail
    go_ret
    exact ⟨by rw [HR.out]; rfl, rfl⟩

theorem impl_hasRoom (w1 W : World) (gr g1 g2 n : Nat) (vc : Value) (on off : List Int) (fl hd ins lft : Int) (h : RI w1 gr g1 g2 n vc on off fl hd ins lft W) (r : Bool) (hr : r = decide (ins < 4)) :
    Calls Tryz.prog 100 #[.pointer (some ⟨gr, 0, none⟩)] W fun e w' => e = .returned (.bool r) ∧ W = w' := by
  obtain ⟨_, _, _, _, _, _, _, b5, _⟩ := h.box
  clear h
  go_enter Tryz.func100, Tryz.ntmps100
  by_cases h1 : ins < 4
  · have HR : Hid (r = true) := by unfold Hid; rw [hr]; simp [h1]
    clear hr
    go_wp2_with fail
    go_ret
    exact ⟨by rw [HR.out]; rfl, rfl⟩
  · have HR : Hid (r = false) := by unfold Hid; rw [hr]; simp; omega
    clear hr
    go_wp2_with fail
    go_ret
    exact ⟨by rw [HR.out]; rfl, rfl⟩

set_option maxHeartbeats 2000000 in
theorem impl_waiting (w1 W : World) (gr g1 g2 n : Nat) (aoc : Option Addr) (capc : Nat) (cs : List Cl) (on off : List Int) (fl hd ins lft : Int) (h : RI w1 gr g1 g2 n (.slice aoc n capc) on off fl hd ins lft W) (hc : Cls w1 0 (.slice aoc n capc) cs) (hcn : cs.length = n) (i : Nat) (t : Int) (hi : i < n) (hn : n ≤ 12) (r : Bool) (hr : r = (decide (on.getD i 0 < 0) && decide ((cs.getD i c0).2.2 ≤ t))) :
    Calls Tryz.prog 101 #[.pointer (some ⟨gr, 0, none⟩), .int .i64 i, .int .i64 t] W fun e w' => e = .returned (.bool r) ∧ W = w' := by
  obtain ⟨_, _, b0, b1, b2, _⟩ := h.box
  obtain ⟨a1, _⟩ := h.two.at hi
  obtain ⟨ao', cap', e1, hcap, hmc⟩ := hc.form
  injection e1 with e1 e2 e3
  subst e1 e3
  clear e2
  obtain ⟨b, o, rfl, _, hb2, hx2⟩ := hc.spot (by omega)
  obtain ⟨_, _, z3⟩ := hx2 i (by omega)
  have a3 := (h.bel.cell (p := ⟨b, o + i * 3 + 2, none⟩) hb2).trans z3
  rw [hcn] at hcap
  obtain ⟨x, hx⟩ : ∃ x, x = on.getD i 0 := ⟨_, rfl⟩
  obtain ⟨y, hy⟩ : ∃ y, y = (cs.getD i c0).2.2 := ⟨_, rfl⟩
  rw [← hx] at a1 hr
  rw [← hy] at a3 hr
  clear hx hy h hc hcn hx2 z3
  have hiz : (i : Int) < (n : Int) := by omega
  go_enter Tryz.func101, Tryz.ntmps101
  by_cases h1 : x < 0
  · by_cases h2 : y ≤ t
    · have HR : Hid (r = true) := by unfold Hid; rw [hr]; simp [h1, h2]
      clear hr
      go_wp2_with fail
      go_ret
      exact ⟨by rw [HR.out]; rfl, rfl⟩
    · have HR : Hid (r = false) := by unfold Hid; rw [hr]; simp; omega
      clear hr
      go_wp2_with fail
      go_ret
      exact ⟨by rw [HR.out]; rfl, rfl⟩
  · have HR : Hid (r = false) := by unfold Hid; rw [hr]; simp; omega
    clear hr
    go_wp2_with fail
    go_ret
    exact ⟨by rw [HR.out]; rfl, rfl⟩
end

section
open Go.RowKit
set_option linter.unusedVariables false
set_option linter.unusedSimpArgs false

/-- The box of a range's variable: a call. -/
theorem cl_box (W : World) (c : Cl) : (W.alloc (.cells #[.int .i64 c.1, .int .i64 c.2.1, .int .i64 c.2.2] 73)).cell? ⟨W.heap.size, 0, none⟩ = some (.int .i64 c.1) ∧ (W.alloc (.cells #[.int .i64 c.1, .int .i64 c.2.1, .int .i64 c.2.2] 73)).cell? ⟨W.heap.size, 1, none⟩ = some (.int .i64 c.2.1) ∧ (W.alloc (.cells #[.int .i64 c.1, .int .i64 c.2.1, .int .i64 c.2.2] 73)).cell? ⟨W.heap.size, 2, none⟩ = some (.int .i64 c.2.2) := by
  refine ⟨?_, ?_, ?_⟩ <;> (rw [cell_of_row _ W.heap.size _ _ _ (0, 0) (heap_alloc_new W _)]; rfl)

set_option maxRecDepth 100000 in
set_option maxHeartbeats 8000000 in
theorem impl_letOut (w1 W : World) (gr g1 g2 n : Nat) (aoc : Option Addr) (capc : Nat) (cs : List Cl) (on off off2 : List Int) (b0 : Bool) (fl hd : Int) (t : Nat) (h : RI w1 gr g1 g2 n (.slice aoc n capc) on off fl hd (insd on off n : Nat) (cnt off n : Nat) W) (hc : Cls w1 0 (.slice aoc n capc) cs) (hcn : cs.length = n) (hn : n ≤ 12) (ht : t ≤ 900)
    (hr : outS cs t fl on off n = (off2, b0)) :
    Calls Tryz.prog 72 #[.pointer (some ⟨gr, 0, none⟩), .int .i64 t] W fun e w' => e = .returned (.bool b0) ∧ RI w1 gr g1 g2 n (.slice aoc n capc) on off2 fl hd (insd on off2 n : Nat) (cnt off2 n : Nat) w' := by
  have HC := Lib.hid hc
  have HCN := Lib.hid hcn
  have HRR := Lib.hid hr
  obtain ⟨_, _, hcap, hmc⟩ : ∃ _ : True, ∃ _ : True, n ≤ capc ∧ capc ≤ 9223372036854775807 := by
    obtain ⟨ao', cap', e1, k1, k2⟩ := hc.form
    injection e1 with e1 e2 e3
    subst e1 e3
    exact ⟨trivial, trivial, by omega, k2⟩
  obtain ⟨_, _, p0, _⟩ := h.box
  clear hc hcn hr
  go_enter Tryz.func72, Tryz.ntmps72
  go_wp2_with fail
  go_loopw [5, 13] (fun bv iv V => ∃ (j : Nat) (b : Bool) (off1 : List Int), j ≤ n ∧ iv = .int .i64 j ∧ bv = .bool b ∧ Hid (outS cs t fl on off j = (off1, b)) ∧ RI w1 gr g1 g2 n (.slice aoc n capc) on off1 fl hd (insd on off1 n : Nat) (cnt off1 n : Nat) V) (fun _ iv _ => n - (intOf iv).toNat)
  case atStart => exact ⟨0, false, off, Nat.zero_le _, rfl, rfl, rfl, h⟩
  case round =>
    clear h p0
    obtain ⟨j, b, off1, hj, rfl, rfl, HJ, h⟩ := hrel
    by_cases hlt : j < n
    · have hltz : (j : Int) < (n : Int) := by omega
      obtain ⟨b2, o2, e2, _, hb2, hx2⟩ := HC.out.spot (by have := HCN.out; omega)
      cases e2
      obtain ⟨z1, z2, z3⟩ := hx2 j (by have := HCN.out; omega)
      have s1 := (h.bel.cell (p := ⟨b2, o2 + j * 3, none⟩) hb2).trans z1
      have s2 := (h.bel.cell (p := ⟨b2, o2 + j * 3 + 1, none⟩) hb2).trans z2
      have s3 := (h.bel.cell (p := ⟨b2, o2 + j * 3 + 2, none⟩) hb2).trans z3
      have HY : Hid (0 ≤ on.getD j 0 → off1.getD j 0 < 0 → (cs.getD j c0).2.1 = fl → outS cs t fl on off (j + 1) = (off1.set j t, true)) := fun h1 h2 h3 => outR_yes HJ.out h1 h2 h3
      have HN : Hid (¬ (0 ≤ on.getD j 0 ∧ off1.getD j 0 < 0 ∧ (cs.getD j c0).2.1 = fl) → outS cs t fl on off (j + 1) = (off1, b)) := fun h => outR_not HJ.out h
      obtain ⟨c, hcc⟩ : ∃ c, c = cs.getD j c0 := ⟨_, rfl⟩
      rw [← hcc] at s1 s2 s3 HY HN
      obtain ⟨cf, ct, cm⟩ := c
      simp only at s1 s2 s3 HY HN
      clear hx2 z1 z2 z3 hcc HJ
      have HR := Lib.hid h
      clear h
      go_wp2_with fail
      obtain ⟨hb0, hb1, hb2'⟩ := cl_box wr (cf, ct, cm)
      simp only at hb0 hb1 hb2'
      have HA := Lib.hid (HR.out.alloc (.cells #[.int .i64 cf, .int .i64 ct, .int .i64 cm] 73))
      have hgs : wr.heap.size < (wr.alloc (.cells #[.int .i64 cf, .int .i64 ct, .int .i64 cm] 73)).heap.size := by simp
      obtain ⟨gb, hgb⟩ : ∃ gb, gb = wr.heap.size := ⟨_, rfl⟩
      rw [← hgb] at hb0 hb1 hb2' hgs ⊢
      generalize hwq : wr.alloc (.cells #[.int .i64 cf, .int .i64 ct, .int .i64 cm] 73) = wq at hb0 hb1 hb2' hgs HA ⊢
      clear hwq hgb HR s1 s2 s3
      obtain ⟨hgl, hfr, p0, p1, p2, p3, p4, p5, p6⟩ := HA.out.box
      have f5 := hfr 5
      have f6 := hfr 6
      have HQ : Hid (0 ≤ on.getD j 0 → off1.getD j 0 < 0 → insd on (off1.set j t) n + 1 = insd on off1 n) := fun h1 h2 => insd_out (by rw [HA.out.two.ll.2]; exact hlt) h1 h2 (by omega) n hlt
      have HP : Hid (off1.getD j 0 < 0 → cnt (off1.set j t) n = cnt off1 n + 1) := fun h2 => cnt_set (by rw [HA.out.two.ll.2]; exact hlt) h2 (by omega) n hlt
      have HPL := Lib.hid (cnt_le off1 n)
      have HQL := Lib.hid (insd_le on off1 n)
      obtain ⟨q, hq⟩ : ∃ q, q = insd on off1 n := ⟨_, rfl⟩
      obtain ⟨p, hp⟩ : ∃ p, p = cnt off1 n := ⟨_, rfl⟩
      rw [← hq] at HA p5 HQ HQL
      rw [← hp] at HA p6 HP HPL
      have HST : Hid (∀ V off3 (b3 : Bool), outS cs t fl on off (j + 1) = (off3, b3) → RI w1 gr g1 g2 n (.slice (some ⟨b2, o2, none⟩) n capc) on off3 fl hd (insd on off3 n : Nat) (cnt off3 n : Nat) V → RI w1 gr g1 g2 n (.slice (some ⟨b2, o2, none⟩) n capc) on off3 fl hd (insd on off3 n : Nat) (cnt off3 n : Nat) V) := fun _ _ _ _ h => h
      have HEQ : Hid (q = insd on off1 n ∧ p = cnt off1 n) := ⟨hq, hp⟩
      have HRD : Hid (∀ (m : Nat) (r : Bool), r = (decide (0 ≤ on.getD j 0) && decide (off1.getD j 0 < 0)) → Calls Tryz.prog 99 #[.pointer (some ⟨gr, 0, none⟩), .int .i64 j] (wq.drewN m) fun e w' => e = .returned (.bool r) ∧ wq.drewN m = w') := fun m r hr =>
        impl_riding w1 _ gr g1 g2 n _ on off1 fl hd q p (HA.out.drewN m) j hlt hn r hr
      obtain ⟨x, hx⟩ : ∃ x, x = on.getD j 0 := ⟨_, rfl⟩
      obtain ⟨y, hy⟩ : ∃ y, y = off1.getD j 0 := ⟨_, rfl⟩
      rw [← hx] at HY HN HQ HRD
      rw [← hy] at HY HN HQ HP HRD
      clear hx hy hq hp hfr HST
      by_cases hrd : 0 ≤ x ∧ y < 0
      · have HC1 : Hid (∀ m, Calls Tryz.prog 99 #[.pointer (some ⟨gr, 0, none⟩), .int .i64 j] (wq.drewN m) fun e w' => e = .returned (.bool true) ∧ wq.drewN m = w') := fun m => HRD.out m true (by simp [hrd])
        by_cases h3 : ct = fl
        · have t3 : (ct == fl) = true := by simp [h3]
          have HE := Lib.hid (HY.out hrd.1 hrd.2 h3)
          obtain ⟨q', hq'⟩ : ∃ q', q' = insd on (off1.set j t) n := ⟨_, rfl⟩
          have hqq := HQ.out hrd.1 hrd.2
          have hpp := HP.out hrd.2
          rw [← hq'] at hqq
          have hql := HQL.out
          have hpl := HPL.out
          have wr1 : IntKind.i64.wrap ((q : Int) - 1) = (q' : Int) := by rw [show (q : Int) - 1 = (q' : Int) by omega]; exact IntWalk.i64_in _ (by omega)
          have wr2 : IntKind.i64.wrap ((p : Int) + 1) = (p : Int) + 1 := IntWalk.i64_in _ (by omega)
          have HQQ := Lib.hid hq'
          have HPP := Lib.hid hpp
          clear HY HN HRD HQ HP hrd h3 hqq hpp hql hpl hq'
          go_quiet ((go_at_call 99; exact quiet_eq (HC1.out _)))
          have HA3 := Lib.hid (HA.out.drewN nq)
          clear p0 p1 p2 p3 p4 p5 p6 f5 f6 hgl hb0 hb1 hb2' hgs HA HC1
          generalize hw3 : wq.drewN nq = w3 at HA3 ⊢
          clear hw3
          obtain ⟨hgl, hfr, _, _, p2, _, _, p5, p6⟩ := HA3.out.box
          obtain ⟨_, a2, _, f2, _, gl2⟩ := HA3.out.two.at hlt
          have f5 := hfr 5
          have f6 := hfr 6
          have n2 : ¬ gr = g2 := HA3.out.2.2.2.1
          have n2' : ¬ g2 = gr := fun e => n2 e.symm
          clear hfr
          go_wp2
          go_roundw
          case rel => exact ⟨j + 1, true, off1.set j t, by omega, by go_num, rfl, HE.out, by
            have k1 := ((HA3.out.setOff j hlt t).setIns (q' : Int)).setLft ((p : Int) + 1)
            rw [← HQQ.out, show ((cnt (off1.set j t) n : Nat) : Int) = (p : Int) + 1 by rw [HPP.out]; rfl]
            exact k1⟩
          case measure => simp [intOf]; omega
        · have t3 : (ct == fl) = false := by simp [h3]
          have HE := Lib.hid (HN.out (fun h => h3 h.2.2))
          clear HY HN HRD HQ HP hrd h3
          go_quiet ((go_at_call 99; exact quiet_eq (HC1.out _)))
          go_wp2
          go_roundw
          case rel => exact ⟨j + 1, b, off1, by omega, by go_num, rfl, HE.out, by rw [← HEQ.out.1, ← HEQ.out.2]; exact HA.out.drewN _⟩
          case measure => simp [intOf]; omega
      · have HC1 : Hid (∀ m, Calls Tryz.prog 99 #[.pointer (some ⟨gr, 0, none⟩), .int .i64 j] (wq.drewN m) fun e w' => e = .returned (.bool false) ∧ wq.drewN m = w') := fun m => HRD.out m false (by rw [← Bool.decide_and]; exact (decide_eq_false hrd).symm)
        have HE := Lib.hid (HN.out (fun h => hrd ⟨h.1, h.2.1⟩))
        clear HY HN HRD HQ HP hrd
        go_quiet ((go_at_call 99; exact quiet_eq (HC1.out _)))
        go_wp2
        go_roundw
        case rel => exact ⟨j + 1, b, off1, by omega, by go_num, rfl, HE.out, by rw [← HEQ.out.1, ← HEQ.out.2]; exact HA.out.drewN _⟩
        case measure => simp [intOf]; omega
    · have hltz : ¬ (j : Int) < (n : Int) := by omega
      have e : (off1, b) = (off2, b0) := by rw [← HRR.out, ← HJ.out, show j = n by omega]
      injection e with e1 e2
      subst e1 e2
      have HF := Lib.hid h
      clear h
      go_wp2_with fail
      go_ret
      exact ⟨rfl, HF.out⟩
end

section
open Go.RowKit
set_option linter.unusedVariables false
set_option linter.unusedSimpArgs false

set_option maxRecDepth 100000 in
set_option maxHeartbeats 8000000 in
theorem impl_letIn (w1 W : World) (gr g1 g2 n : Nat) (aoc : Option Addr) (capc : Nat) (cs : List Cl) (on off on2 : List Int) (b0 : Bool) (fl hd : Int) (t : Nat) (h : RI w1 gr g1 g2 n (.slice aoc n capc) on off fl hd (insd on off n : Nat) (cnt off n : Nat) W) (hc : Cls w1 0 (.slice aoc n capc) cs) (hcn : cs.length = n) (hn : n ≤ 12) (ht : t ≤ 900)
    (hbo : ∀ i, i < n → on.getD i 0 < 0 → off.getD i 0 < 0) (hr : inS cs t fl off on n = (on2, b0)) :
    Calls Tryz.prog 73 #[.pointer (some ⟨gr, 0, none⟩), .int .i64 t] W fun e w' => e = .returned (.bool b0) ∧ RI w1 gr g1 g2 n (.slice aoc n capc) on2 off fl hd (insd on2 off n : Nat) (cnt off n : Nat) w' := by
  have HC := Lib.hid hc
  have HCN := Lib.hid hcn
  have HRR := Lib.hid hr
  have HONL : Hid (on.length = n) := h.two.ll.1
  have HBO : Hid (∀ i j on1 b, j ≤ n → i < n → inS cs t fl off on j = (on1, b) → on1.getD i 0 < 0 → off.getD i 0 < 0) := fun i j on1 b hj hi e hx => by
    refine hbo i hi ?_
    have := inS_at cs t fl off on j (by rw [HONL.out]; exact hj) i
    rw [e] at this
    simp only at this
    rcases this with k | k <;> omega
  obtain ⟨_, _, hcap, hmc⟩ : ∃ _ : True, ∃ _ : True, n ≤ capc ∧ capc ≤ 9223372036854775807 := by
    obtain ⟨ao', cap', e1, k1, k2⟩ := hc.form
    injection e1 with e1 e2 e3
    subst e1 e3
    exact ⟨trivial, trivial, by omega, k2⟩
  obtain ⟨_, _, p0, _⟩ := h.box
  clear hc hcn hr hbo
  go_enter Tryz.func73, Tryz.ntmps73
  go_wp2_with fail
  go_loopw [5, 13] (fun bv iv V => ∃ (j : Nat) (b : Bool) (on1 : List Int), j ≤ n ∧ iv = .int .i64 j ∧ bv = .bool b ∧ Hid (inS cs t fl off on j = (on1, b)) ∧ RI w1 gr g1 g2 n (.slice aoc n capc) on1 off fl hd (insd on1 off n : Nat) (cnt off n : Nat) V) (fun _ iv _ => n - (intOf iv).toNat)
  case atStart => exact ⟨0, false, on, Nat.zero_le _, rfl, rfl, rfl, h⟩
  case round =>
    clear h p0
    obtain ⟨j, b, on1, hj, rfl, rfl, HJ, h⟩ := hrel
    by_cases hlt : j < n
    · have hltz : (j : Int) < (n : Int) := by omega
      obtain ⟨b2, o2, e2, _, hb2, hx2⟩ := HC.out.spot (by have := HCN.out; omega)
      cases e2
      obtain ⟨z1, z2, z3⟩ := hx2 j (by have := HCN.out; omega)
      have s1 := (h.bel.cell (p := ⟨b2, o2 + j * 3, none⟩) hb2).trans z1
      have s2 := (h.bel.cell (p := ⟨b2, o2 + j * 3 + 1, none⟩) hb2).trans z2
      have s3 := (h.bel.cell (p := ⟨b2, o2 + j * 3 + 2, none⟩) hb2).trans z3
      have HOF := Lib.hid (HBO.out j j on1 b hj hlt HJ.out)
      have HY : Hid (on1.getD j 0 < 0 → (cs.getD j c0).2.2 ≤ t → (cs.getD j c0).1 = fl → insd on1 off n < 4 → inS cs t fl off on (j + 1) = (on1.set j t, true)) := fun h1 h2 h3 h4 => inR_yes HJ.out h1 h2 h3 (by rw [HCN.out]; exact h4)
      have HN : Hid (¬ (on1.getD j 0 < 0 ∧ (cs.getD j c0).2.2 ≤ t ∧ (cs.getD j c0).1 = fl ∧ insd on1 off n < 4) → inS cs t fl off on (j + 1) = (on1, b)) := fun h => inR_not HJ.out (by rw [HCN.out]; exact h)
      obtain ⟨c, hcc⟩ : ∃ c, c = cs.getD j c0 := ⟨_, rfl⟩
      have HCC := Lib.hid hcc
      rw [← hcc] at s1 s2 s3 HY HN
      obtain ⟨cf, ct, cm⟩ := c
      simp only at s1 s2 s3 HY HN
      clear hx2 z1 z2 z3 hcc HJ
      have HR := Lib.hid h
      clear h
      go_wp2_with fail
      obtain ⟨hb0, hb1, hb2'⟩ := cl_box wr (cf, ct, cm)
      simp only at hb0 hb1 hb2'
      have HA := Lib.hid (HR.out.alloc (.cells #[.int .i64 cf, .int .i64 ct, .int .i64 cm] 73))
      have hgs : wr.heap.size < (wr.alloc (.cells #[.int .i64 cf, .int .i64 ct, .int .i64 cm] 73)).heap.size := by simp
      obtain ⟨gb, hgb⟩ : ∃ gb, gb = wr.heap.size := ⟨_, rfl⟩
      rw [← hgb] at hb0 hb1 hb2' hgs ⊢
      generalize hwq : wr.alloc (.cells #[.int .i64 cf, .int .i64 ct, .int .i64 cm] 73) = wq at hb0 hb1 hb2' hgs HA ⊢
      clear hwq hgb HR s1 s2 s3
      obtain ⟨hgl, hfr, p0, p1, p2, p3, p4, p5, p6⟩ := HA.out.box
      have f5 := hfr 5
      have HQ : Hid (on1.getD j 0 < 0 → insd (on1.set j t) off n = insd on1 off n + 1) := fun h1 => insd_in (by rw [HA.out.two.ll.1]; exact hlt) h1 (HOF.out h1) (by omega) n hlt
      have HQL := Lib.hid (insd_le on1 off n)
      obtain ⟨q, hq⟩ : ∃ q, q = insd on1 off n := ⟨_, rfl⟩
      rw [← hq] at HA p5 HQ HQL HY HN
      have HEQ : Hid (q = insd on1 off n) := hq
      have HRM : Hid (∀ (m : Nat) (r : Bool), r = decide ((q : Int) < 4) → Calls Tryz.prog 100 #[.pointer (some ⟨gr, 0, none⟩)] (wq.drewN m) fun e w' => e = .returned (.bool r) ∧ wq.drewN m = w') := fun m r hr =>
        impl_hasRoom w1 _ gr g1 g2 n _ on1 off fl hd q (cnt off n : Nat) (HA.out.drewN m) r hr
      have HWT : Hid (∀ (m : Nat) (r : Bool), r = (decide (on1.getD j 0 < 0) && decide (cm ≤ t)) → Calls Tryz.prog 101 #[.pointer (some ⟨gr, 0, none⟩), .int .i64 j, .int .i64 t] (wq.drewN m) fun e w' => e = .returned (.bool r) ∧ wq.drewN m = w') := fun m r hr =>
        impl_waiting w1 _ gr g1 g2 n _ _ cs on1 off fl hd q (cnt off n : Nat) (HA.out.drewN m) HC.out HCN.out j t hlt hn r (by rw [← HCC.out]; exact hr)
      obtain ⟨x, hx⟩ : ∃ x, x = on1.getD j 0 := ⟨_, rfl⟩
      rw [← hx] at HY HN HQ HWT
      clear hx hq hfr HOF
      by_cases hrm : q < 4
      · have HC0 : Hid (∀ m, Calls Tryz.prog 100 #[.pointer (some ⟨gr, 0, none⟩)] (wq.drewN m) fun e w' => e = .returned (.bool true) ∧ wq.drewN m = w') := fun m => HRM.out m true (by rw [decide_eq_true]; omega)
        by_cases hrd : x < 0 ∧ cm ≤ t
        · have HC1 : Hid (∀ m, Calls Tryz.prog 101 #[.pointer (some ⟨gr, 0, none⟩), .int .i64 j, .int .i64 t] (wq.drewN m) fun e w' => e = .returned (.bool true) ∧ wq.drewN m = w') := fun m => HWT.out m true (by simp [hrd])
          by_cases h3 : cf = fl
          · have t3 : (cf == fl) = true := by simp [h3]
            have HE := Lib.hid (HY.out hrd.1 hrd.2 h3 hrm)
            have hqq := HQ.out hrd.1
            have hql := HQL.out
            have wr1 : IntKind.i64.wrap ((q : Int) + 1) = (q : Int) + 1 := IntWalk.i64_in _ (by omega)
            have HQQ := Lib.hid hqq
            clear HY HN HRM HWT HQ hrd h3 hrm hqq hql
            go_quiet ((first | (go_at_call 100; exact quiet_eq (HC0.out _)) | (go_at_call 101; exact quiet_eq (HC1.out _))))
            have HA3 := Lib.hid (HA.out.drewN nq)
            clear p0 p1 p2 p3 p4 p5 p6 f5 hgl hb0 hb1 hb2' hgs HA HC1 HC0
            generalize hw3 : wq.drewN nq = w3 at HA3 ⊢
            clear hw3
            obtain ⟨hgl, hfr, _, p1, _, _, _, p5, _⟩ := HA3.out.box
            obtain ⟨a1, _, f1, _, gl1, _⟩ := HA3.out.two.at hlt
            have f5 := hfr 5
            have n1 : ¬ gr = g1 := HA3.out.2.2.1
            have n1' : ¬ g1 = gr := fun e => n1 e.symm
            clear hfr
            go_wp2
            go_roundw
            case rel => exact ⟨j + 1, true, on1.set j t, by omega, by go_num, rfl, HE.out, by
              have k1 := (HA3.out.setOn j hlt t).setIns ((q : Int) + 1)
              rw [show ((insd (on1.set j t) off n : Nat) : Int) = (q : Int) + 1 by rw [HQQ.out]; rfl]
              exact k1⟩
            case measure => simp [intOf]; omega
          · have t3 : (cf == fl) = false := by simp [h3]
            have HE := Lib.hid (HN.out (fun h => h3 h.2.2.1))
            clear HY HN HRM HWT HQ hrd h3 hrm
            go_quiet ((first | (go_at_call 100; exact quiet_eq (HC0.out _)) | (go_at_call 101; exact quiet_eq (HC1.out _))))
            go_wp2
            go_roundw
            case rel => exact ⟨j + 1, b, on1, by omega, by go_num, rfl, HE.out, by rw [← HEQ.out]; exact HA.out.drewN _⟩
            case measure => simp [intOf]; omega
        · have HC1 : Hid (∀ m, Calls Tryz.prog 101 #[.pointer (some ⟨gr, 0, none⟩), .int .i64 j, .int .i64 t] (wq.drewN m) fun e w' => e = .returned (.bool false) ∧ wq.drewN m = w') := fun m => HWT.out m false (by rw [← Bool.decide_and]; exact (decide_eq_false hrd).symm)
          have HE := Lib.hid (HN.out (fun h => hrd ⟨h.1, h.2.1⟩))
          clear HY HN HRM HWT HQ hrd hrm
          go_quiet ((first | (go_at_call 100; exact quiet_eq (HC0.out _)) | (go_at_call 101; exact quiet_eq (HC1.out _))))
          go_wp2
          go_roundw
          case rel => exact ⟨j + 1, b, on1, by omega, by go_num, rfl, HE.out, by rw [← HEQ.out]; exact HA.out.drewN _⟩
          case measure => simp [intOf]; omega
      · have HC0 : Hid (∀ m, Calls Tryz.prog 100 #[.pointer (some ⟨gr, 0, none⟩)] (wq.drewN m) fun e w' => e = .returned (.bool false) ∧ wq.drewN m = w') := fun m => HRM.out m false (by rw [decide_eq_false]; omega)
        have HE := Lib.hid (HN.out (fun h => hrm h.2.2.2))
        clear HY HN HRM HWT HQ hrm
        go_quiet ((go_at_call 100; exact quiet_eq (HC0.out _)))
        go_wp2
        go_roundw
        case rel => exact ⟨j + 1, b, on1, by omega, by go_num, rfl, HE.out, by rw [← HEQ.out]; exact HA.out.drewN _⟩
        case measure => simp [intOf]; omega
    · have hltz : ¬ (j : Int) < (n : Int) := by omega
      have e : (on1, b) = (on2, b0) := by rw [← HRR.out, ← HJ.out, show j = n by omega]
      injection e with e1 e2
      subst e1 e2
      have HF := Lib.hid h
      clear h
      go_wp2_with fail
      go_ret
      exact ⟨rfl, HF.out⟩
end

section
open Go.RowKit
set_option linter.unusedVariables false
set_option linter.unusedSimpArgs false

theorem ahd_no {l : List Int} {fl hd : Int} {a : Bool} (h : a = ahd l fl hd) {p : Int} (hp : p = 0) : ahd l fl hd = (a || decide (0 < p)) := by subst hp; rw [← h]; simp
theorem ahd_one' {l : List Int} {fl hd f : Int} {a : Bool} (h : a = ahd l fl hd) {p : Int} (hp : p = (f - fl) * hd) : ahd (l ++ [f]) fl hd = (a || decide (0 < p)) := by
  rw [ahd_app, ahd_one, ← h, hp]
theorem ahd_neg {l : List Int} {fl hd f : Int} {a : Bool} (h : a = ahd l fl (-hd)) {p : Int} (hp : p = (f - fl) * hd) : ahd (l ++ [f]) fl (-hd) = (a || decide (p < 0)) := by
  have e : (0 < (f - fl) * -hd) = (p < 0) := by rw [Int.mul_neg, ← hp]; exact propext ⟨fun h => by omega, fun h => by omega⟩
  rw [ahd_app, ahd_one, ← h]; congr 1; simp only [e]
theorem ahd_no' {l : List Int} {fl hd : Int} {a : Bool} (h : a = ahd l fl hd) {p : Int} (hp : p = 0) : ahd l fl hd = (a || decide (p < 0)) := by subst hp; rw [← h]; simp

/-- Where the switch leaves: the target, and what its way adds. -/
def DrvC (w3 : World) (L : List Int) (fl hd : Int) (a b : Bool) (tv : Value) (wx : World) : Prop :=
  ∃ T : Int, tv = .int .i64 T ∧ wx = w3 ∧ 0 ≤ T ∧ T ≤ 15 ∧ ∀ z, z = (T - fl) * hd → ahd L fl hd = (a || decide (0 < z)) ∧ ahd L fl (-hd) = (b || decide (z < 0))
set_option maxRecDepth 100000 in
set_option maxHeartbeats 16000000 in
theorem impl_drive (w1 W : World) (gr g1 g2 n : Nat) (aoc : Option Addr) (capc : Nat) (cs : List Cl) (on off : List Int) (fl hd : Int) (t : Nat) (h : RI w1 gr g1 g2 n (.slice aoc n capc) on off fl hd (insd on off n : Nat) (cnt off n : Nat) W) (hc : Cls w1 0 (.slice aoc n capc) cs) (hcn : cs.length = n) (hn : n ≤ 12) (ht : t ≤ 900)
    (hok : ∀ i, i < cs.length → clOk (cs.getD i c0)) (h0 : 0 ≤ fl ∧ fl ≤ 15) (hh : hd = 1 ∨ hd = -1) (fl2 hd2 : Int) (hh2 : hd2 = turnS (tg cs t on off cs.length) fl hd) (hf2 : fl2 = fl + if ahd (tg cs t on off cs.length) fl hd2 = true then hd2 else 0) :
    Calls Tryz.prog 74 #[.pointer (some ⟨gr, 0, none⟩), .int .i64 t] W fun e w' => e = .returned (.tuple #[]) ∧ RI w1 gr g1 g2 n (.slice aoc n capc) on off fl2 hd2 (insd on off n : Nat) (cnt off n : Nat) w' := by
  have HC := Lib.hid hc
  have HCN := Lib.hid hcn
  have HOK := Lib.hid hok
  have HHD := Lib.hid hh
  have HH2 := Lib.hid hh2
  have HF2 := Lib.hid hf2
  obtain ⟨_, _, hcap, hmc⟩ : ∃ _ : True, ∃ _ : True, n ≤ capc ∧ capc ≤ 9223372036854775807 := by
    obtain ⟨ao', cap', e1, k1, k2⟩ := hc.form
    injection e1 with e1 e2 e3
    subst e1 e3
    exact ⟨trivial, trivial, by omega, k2⟩
  obtain ⟨_, _, p0, _⟩ := h.box
  obtain ⟨q, hq⟩ : ∃ q, q = insd on off n := ⟨_, rfl⟩
  obtain ⟨p, hp⟩ : ∃ p, p = cnt off n := ⟨_, rfl⟩
  rw [← hq, ← hp] at h ⊢
  have HQ := Lib.hid hq
  clear hc hcn hok hh hh2 hf2 hq hp
  go_enter Tryz.func74, Tryz.ntmps74
  go_wp2_with fail
  go_loopw [4, 5, 15] (fun av bv iv V => ∃ (j : Nat) (l : List Int) (a b : Bool), j ≤ n ∧ iv = .int .i64 j ∧ av = .bool a ∧ bv = .bool b ∧ Hid (l = tg cs t on off j) ∧ Hid (a = ahd l fl hd) ∧ Hid (b = ahd l fl (-hd)) ∧ RI w1 gr g1 g2 n (.slice aoc n capc) on off fl hd q p V) (fun _ _ iv _ => n - (intOf iv).toNat)
  case atStart => exact ⟨0, [], false, false, Nat.zero_le _, rfl, rfl, rfl, rfl, rfl, rfl, h⟩
  case round =>
    clear h p0
    obtain ⟨j, l, a, b, hj, rfl, rfl, rfl, HL, HAA, HBB, h⟩ := hrel
    by_cases hlt : j < n
    · have hltz : (j : Int) < (n : Int) := by omega
      obtain ⟨b2, o2, e2, _, hb2, hx2⟩ := HC.out.spot (by have := HCN.out; omega)
      cases e2
      obtain ⟨z1, z2, z3⟩ := hx2 j (by have := HCN.out; omega)
      have s1 := (h.bel.cell (p := ⟨b2, o2 + j * 3, none⟩) hb2).trans z1
      have s2 := (h.bel.cell (p := ⟨b2, o2 + j * 3 + 1, none⟩) hb2).trans z2
      have s3 := (h.bel.cell (p := ⟨b2, o2 + j * 3 + 2, none⟩) hb2).trans z3
      have hcok := HOK.out j (by have := HCN.out; omega)
      have HTA : Hid (0 ≤ on.getD j 0 ∧ off.getD j 0 < 0 → tg cs t on off (j + 1) = l ++ [(cs.getD j c0).2.1]) := fun h => by rw [tg_a h, HL.out]
      have HTB : Hid (on.getD j 0 < 0 ∧ (cs.getD j c0).2.2 ≤ t ∧ q < 4 → tg cs t on off (j + 1) = l ++ [(cs.getD j c0).1]) := fun h => by rw [tg_b (by rw [HCN.out, ← HQ.out]; exact h), HL.out]
      have HTC : Hid (¬ (0 ≤ on.getD j 0 ∧ off.getD j 0 < 0) → ¬ (on.getD j 0 < 0 ∧ (cs.getD j c0).2.2 ≤ t ∧ q < 4) → tg cs t on off (j + 1) = l) := fun h1 h2 => by rw [tg_c h1 (by rw [HCN.out, ← HQ.out]; exact h2), HL.out]
      obtain ⟨c, hcc⟩ : ∃ c, c = cs.getD j c0 := ⟨_, rfl⟩
      have HCC := Lib.hid hcc
      rw [← hcc] at s1 s2 s3 hcok HTA HTB HTC
      obtain ⟨cf, ct, cm⟩ := c
      unfold clOk at hcok
      simp only at s1 s2 s3 hcok HTA HTB HTC
      obtain ⟨hcf, hct⟩ : (0 ≤ cf ∧ cf ≤ 15) ∧ (0 ≤ ct ∧ ct ≤ 15) := by omega
      clear hx2 z1 z2 z3 hcc HL hcok
      have HR := Lib.hid h
      clear h
      obtain ⟨hgr, _, _, _, _, r3, _⟩ := HR.out.box
      have HA := Lib.hid (HR.out.alloc (.cells #[.int .i64 cf, .int .i64 ct, .int .i64 cm] 73))
      obtain ⟨hb0, hb1, hb2'⟩ := cl_box wr (cf, ct, cm)
      simp only at hb0 hb1 hb2'
      have hgs : wr.heap.size < (wr.alloc (.cells #[.int .i64 cf, .int .i64 ct, .int .i64 cm] 73)).heap.size := by simp
      go_upto_block 2 with fail
      obtain ⟨gb, hgb⟩ : ∃ gb, gb = wr.heap.size := ⟨_, rfl⟩
      rw [← hgb] at hb0 hb1 hb2' hgs ⊢
      generalize hwq : wr.alloc (.cells #[.int .i64 cf, .int .i64 ct, .int .i64 cm] 73) = wq at hb0 hb1 hb2' hgs HA ⊢
      clear hwq hgb HR s1 s2 s3 r3 hgr
      obtain ⟨hgl, hfr, p0, p1, p2, p3, p4, p5, p6⟩ := HA.out.box
      have HRD : Hid (∀ (r : Bool), r = (decide (0 ≤ on.getD j 0) && decide (off.getD j 0 < 0)) → Calls Tryz.prog 99 #[.pointer (some ⟨gr, 0, none⟩), .int .i64 j] wq fun e w' => e = .returned (.bool r) ∧ wq = w') := fun r hr =>
        impl_riding w1 _ gr g1 g2 n _ on off fl hd q p HA.out j hlt hn r hr
      have HRM : Hid (∀ (r : Bool), r = decide ((q : Int) < 4) → Calls Tryz.prog 100 #[.pointer (some ⟨gr, 0, none⟩)] wq fun e w' => e = .returned (.bool r) ∧ wq = w') := fun r hr =>
        impl_hasRoom w1 _ gr g1 g2 n _ on off fl hd q p HA.out r hr
      have HWT : Hid (∀ (r : Bool), r = (decide (on.getD j 0 < 0) && decide (cm ≤ t)) → Calls Tryz.prog 101 #[.pointer (some ⟨gr, 0, none⟩), .int .i64 j, .int .i64 t] wq fun e w' => e = .returned (.bool r) ∧ wq = w') := fun r hr =>
        impl_waiting w1 _ gr g1 g2 n _ _ cs on off fl hd q p HA.out HC.out HCN.out j t hlt hn r (by rw [← HCC.out]; exact hr)
      obtain ⟨x, hx⟩ : ∃ x, x = on.getD j 0 := ⟨_, rfl⟩
      obtain ⟨y, hy⟩ : ∃ y, y = off.getD j 0 := ⟨_, rfl⟩
      rw [← hx] at HTA HTB HTC HRD HWT
      rw [← hy] at HTA HTC HRD
      clear hx hy hfr
      go_cut [8] (fun tv wx => DrvC wq (tg cs t on off (j + 1)) fl hd a b tv wx)
      case first =>
        by_cases hrd : 0 ≤ x ∧ y < 0
        · have C1 : Hid (Calls Tryz.prog 99 #[.pointer (some ⟨gr, 0, none⟩), .int .i64 j] wq fun e w' => e = .returned (.bool true) ∧ wq = w') := HRD.out true (by simp [hrd])
          have HE := Lib.hid (HTA.out hrd)
          clear HTA HTB HTC HRD HRM HWT hrd
          go_wp2_with (first | (go_at_call 99; refine (C1.out).mono ?_; rintro e' w9 ⟨rfl, rfl⟩))
          go_meet
          exact ⟨ct, rfl, rfl, by omega, by omega, fun z hz => by rw [HE.out]; exact ⟨ahd_one' HAA.out hz, ahd_neg HBB.out hz⟩⟩
        · have C1 : Hid (Calls Tryz.prog 99 #[.pointer (some ⟨gr, 0, none⟩), .int .i64 j] wq fun e w' => e = .returned (.bool false) ∧ wq = w') := HRD.out false (by rw [← Bool.decide_and]; exact (decide_eq_false hrd).symm)
          by_cases hrm : q < 4
          · have C2 : Hid (Calls Tryz.prog 100 #[.pointer (some ⟨gr, 0, none⟩)] wq fun e w' => e = .returned (.bool true) ∧ wq = w') := HRM.out true (by rw [decide_eq_true]; omega)
            by_cases hwt : x < 0 ∧ cm ≤ t
            · have C3 : Hid (Calls Tryz.prog 101 #[.pointer (some ⟨gr, 0, none⟩), .int .i64 j, .int .i64 t] wq fun e w' => e = .returned (.bool true) ∧ wq = w') := HWT.out true (by simp [hwt])
              have HE := Lib.hid (HTB.out ⟨hwt.1, hwt.2, hrm⟩)
              clear hwt hrm
              clear HTA HTB HTC HRD HRM HWT hrd
              go_wp2_with (first | (go_at_call 99; refine (C1.out).mono ?_; rintro e' w9 ⟨rfl, rfl⟩) | (go_at_call 100; refine (C2.out).mono ?_; rintro e' w9 ⟨rfl, rfl⟩) | (go_at_call 101; refine (C3.out).mono ?_; rintro e' w9 ⟨rfl, rfl⟩))
              go_meet
              exact ⟨cf, rfl, rfl, by omega, by omega, fun z hz => by rw [HE.out]; exact ⟨ahd_one' HAA.out hz, ahd_neg HBB.out hz⟩⟩
            · have C3 : Hid (Calls Tryz.prog 101 #[.pointer (some ⟨gr, 0, none⟩), .int .i64 j, .int .i64 t] wq fun e w' => e = .returned (.bool false) ∧ wq = w') := HWT.out false (by rw [← Bool.decide_and]; exact (decide_eq_false hwt).symm)
              have HE := Lib.hid (HTC.out hrd (fun h => hwt ⟨h.1, h.2.1⟩))
              clear hwt hrm
              clear HTA HTB HTC HRD HRM HWT hrd
              go_wp2_with (first | (go_at_call 99; refine (C1.out).mono ?_; rintro e' w9 ⟨rfl, rfl⟩) | (go_at_call 100; refine (C2.out).mono ?_; rintro e' w9 ⟨rfl, rfl⟩) | (go_at_call 101; refine (C3.out).mono ?_; rintro e' w9 ⟨rfl, rfl⟩))
              go_meet
              exact ⟨fl, rfl, rfl, by omega, by omega, fun z hz => by rw [HE.out]; exact ⟨ahd_no HAA.out (p := z) (by rw [hz, Int.sub_self, Int.zero_mul]), ahd_no' HBB.out (p := z) (by rw [hz, Int.sub_self, Int.zero_mul])⟩⟩
          · have C2 : Hid (Calls Tryz.prog 100 #[.pointer (some ⟨gr, 0, none⟩)] wq fun e w' => e = .returned (.bool false) ∧ wq = w') := HRM.out false (by rw [decide_eq_false]; omega)
            have HE := Lib.hid (HTC.out hrd (fun h => hrm h.2.2))
            clear hrm
            clear HTA HTB HTC HRD HRM HWT hrd
            go_wp2_with (first | (go_at_call 99; refine (C1.out).mono ?_; rintro e' w9 ⟨rfl, rfl⟩) | (go_at_call 100; refine (C2.out).mono ?_; rintro e' w9 ⟨rfl, rfl⟩))
            go_meet
            exact ⟨fl, rfl, rfl, by omega, by omega, fun z hz => by rw [HE.out]; exact ⟨ahd_no HAA.out (p := z) (by rw [hz, Int.sub_self, Int.zero_mul]), ahd_no' HBB.out (p := z) (by rw [hz, Int.sub_self, Int.zero_mul])⟩⟩
      case rest =>
        obtain ⟨T, rfl, rfl, hT0, hT1, hK⟩ := hcut
        obtain ⟨z, hz⟩ : ∃ z, z = (T - fl) * hd := ⟨_, rfl⟩
        have hzb : -15 ≤ z ∧ z ≤ 15 := by rcases HHD.out with e | e <;> rw [hz, e] <;> omega
        have wr1 : IntKind.i64.wrap (T - fl) = T - fl := IntWalk.i64_in _ (by omega)
        have wr2 : IntKind.i64.wrap ((T - fl) * hd) = z := by rw [← hz]; exact IntWalk.i64_in _ (by omega)
        have HK := Lib.hid (hK z hz)
        clear hK hz HTA HTB HTC HRD HRM HWT
        go_wp2_with fail
        go_quiet (fail)
        have HA9 := Lib.hid (HA.out.drewN nq)
        clear p0 p1 p2 p3 p4 p5 p6 hgl hb0 hb1 hb2' hgs HA
        rcases Int.lt_trichotomy z 0 with hs | hs | hs
        · have d2 : ¬ 0 < z := by omega
          have K1 : Hid (a = ahd (tg cs t on off (j + 1)) fl hd) := by unfold Hid; rw [HK.out.1]; cases a <;> simp [d2]
          have K2 : Hid (true = ahd (tg cs t on off (j + 1)) fl (-hd)) := by unfold Hid; rw [HK.out.2]; cases b <;> simp [hs]
          clear HK HAA HBB
          cases a <;> cases b <;> (go_wp2_with fail; go_roundw; (case rel => exact ⟨j + 1, _, _, _, by omega, by go_num, rfl, rfl, rfl, K1.out, K2.out, HA9.out⟩); (case measure => simp [intOf]; omega))
        · have d1 : ¬ z < 0 := by omega
          have d2 : ¬ 0 < z := by omega
          have K1 : Hid (a = ahd (tg cs t on off (j + 1)) fl hd) := by unfold Hid; rw [HK.out.1]; cases a <;> simp [d2]
          have K2 : Hid (b = ahd (tg cs t on off (j + 1)) fl (-hd)) := by unfold Hid; rw [HK.out.2]; cases b <;> simp [d1]
          clear HK HAA HBB
          cases a <;> cases b <;> (go_wp2_with fail; go_roundw; (case rel => exact ⟨j + 1, _, _, _, by omega, by go_num, rfl, rfl, rfl, K1.out, K2.out, HA9.out⟩); (case measure => simp [intOf]; omega))
        · have d1 : ¬ z < 0 := by omega
          have K1 : Hid (true = ahd (tg cs t on off (j + 1)) fl hd) := by unfold Hid; rw [HK.out.1]; cases a <;> simp [hs]
          have K2 : Hid (b = ahd (tg cs t on off (j + 1)) fl (-hd)) := by unfold Hid; rw [HK.out.2]; cases b <;> simp [d1]
          clear HK HAA HBB
          cases a <;> cases b <;> (go_wp2_with fail; go_roundw; (case rel => exact ⟨j + 1, _, _, _, by omega, by go_num, rfl, rfl, rfl, K1.out, K2.out, HA9.out⟩); (case measure => simp [intOf]; omega))
    · have hltz : ¬ (j : Int) < (n : Int) := by omega
      have HL2 : Hid (tg cs t on off cs.length = l) := by unfold Hid; rw [HL.out, HCN.out, show j = n by omega]
      clear HL
      obtain ⟨hgl, hfr, p0, p1, p2, p3, p4, p5, p6⟩ := h.box
      have f3 := hfr 3
      have f4 := hfr 4
      have hhb : -1 ≤ hd ∧ hd ≤ 1 := by rcases HHD.out with e | e <;> omega
      have wrn : IntKind.i64.wrap (-hd) = -hd := IntWalk.i64_in _ (by omega)
      have wra : IntKind.i64.wrap (fl + hd) = fl + hd := IntWalk.i64_in _ (by omega)
      have wrb : IntKind.i64.wrap (fl + -hd) = fl + -hd := IntWalk.i64_in _ (by omega)
      clear hfr hhb
      have HR := Lib.hid h
      clear h
      cases a
      · cases b
        · have e1 : hd2 = hd := by rw [HH2.out, HL2.out]; unfold turnS; rw [if_neg (by rw [← HBB.out]; simp)]
          have e2 : fl2 = fl := by rw [HF2.out, HL2.out, e1, ← HAA.out]; simp
          subst e1 e2
          go_wp2_with fail
          go_end0
          exact ⟨rfl, HR.out⟩
        · have e1 : hd2 = -hd := by rw [HH2.out, HL2.out]; unfold turnS; rw [if_pos ⟨HAA.out.symm, HBB.out.symm⟩]
          have e2 : fl2 = fl + -hd := by rw [HF2.out, HL2.out, e1, ← HBB.out]; simp
          subst e1 e2
          have HR2 := Lib.hid (HR.out.setHd (-hd))
          go_wp2_with fail
          clear p0 p1 p2 p3 p4 p5 p6 f3 f4 hgl HR
          generalize hw3 : wr.setCell ⟨gr, 4, none⟩ (.int .i64 (-hd)) = w3 at HR2 ⊢
          clear hw3
          obtain ⟨hgl, hfr, _, _, _, p3, p4, _, _⟩ := HR2.out.box
          have f3 := hfr 3
          clear hfr
          go_still_tail 11, (by kernel_rfl)
          go_wp2_with fail
          go_end0
          exact ⟨rfl, (HR2.out.setFl (fl + -hd)).drewN 1⟩
      · have e1 : hd2 = hd := by rw [HH2.out, HL2.out]; unfold turnS; rw [if_neg (by rw [← HAA.out]; simp)]
        have e2 : fl2 = fl + hd := by rw [HF2.out, HL2.out, e1, ← HAA.out]; simp
        subst e1 e2
        cases b
        all_goals
          go_wp2_with fail
          go_still_tail 11, (by kernel_rfl)
          go_wp2_with fail
          go_end0
          exact ⟨rfl, (HR.out.setFl (fl + hd2)).drewN 1⟩
end

section
open Go.RowKit
set_option linter.unusedVariables false
set_option linter.unusedSimpArgs false

theorem zerosR (n : Nat) : (madeCells (Value.int .i64 0).cells (n * 1)).toList = (List.replicate n (0 : Int)).map (Value.int .i64) := by
  rw [Nat.mul_one]
  apply List.ext_getElem?
  intro i
  by_cases hi : i < n
  · simp [madeCells, Value.cells, hi, Nat.mod_one]
  · simp [madeCells, Value.cells, List.getElem?_eq_none (show (List.range n).length ≤ i by simp; omega), List.getElem?_eq_none (show (List.replicate n (Value.int .i64 0)).length ≤ i by simp; omega)]
theorem all_minus {l : List Int} {n : Nat} (hl : l.length = n) (h : ∀ j, j < n → l.getD j 0 = -1) : l = List.replicate n (-1) := by
  refine list_eq_of (n := n) hl (by simp) (fun i hi => ?_)
  have := h i hi
  rw [List.getD_eq_getElem?_getD, List.getElem?_eq_getElem (by omega)] at this
  rw [List.getElem?_eq_getElem (by omega)]
  simp at this ⊢
  simp [hi, this]

def NewRet (w1 : World) (n : Nat) (vc : Value) (e : Ending) (w' : World) : Prop :=
  ∃ gr g1 g2, e = .returned (.pointer (some ⟨gr, 0, none⟩)) ∧ RI w1 gr g1 g2 n vc (List.replicate n (-1)) (List.replicate n (-1)) 0 1 0 0 w'
set_option maxRecDepth 100000 in
set_option maxHeartbeats 8000000 in
theorem impl_newRide (w1 : World) (aoc : Option Addr) (capc n : Nat) (cs : List Cl) (hc : Cls w1 0 (.slice aoc n capc) cs) (hcn : cs.length = n) (hn : n ≤ 12) :
    Calls Tryz.prog 71 #[.slice aoc n capc, .int .i64 0] w1 (NewRet w1 n (.slice aoc n capc)) := by
  obtain ⟨i0, hi0, hz0, hz1, hz2⟩ := info_parts info_intR
  obtain ⟨_, _, hcap, hmc⟩ : ∃ _ : True, ∃ _ : True, n ≤ capc ∧ capc ≤ 9223372036854775807 := by
    obtain ⟨ao', cap', e1, k1, k2⟩ := hc.form
    injection e1 with e1 e2 e3
    subst e1 e3
    exact ⟨trivial, trivial, by omega, k2⟩
  have hBx := Own.made w1 [.slice aoc n capc, .slice none 0 0, .slice none 0 0, .int .i64 0, .int .i64 1, .int .i64 0, .int .i64 0] 96 w1.heap.size 7 1 rfl (Nat.le_refl _) (by decide)
  have hB0 : Below w1.heap.size w1 (w1.alloc (.cells #[.slice aoc n capc, .slice none 0 0, .slice none 0 0, .int .i64 0, .int .i64 1, .int .i64 0, .int .i64 0] 96)) := (Below.refl _ _).alloc (Nat.le_refl _) _
  have hgt : w1.heap.size < (w1.alloc (.cells #[.slice aoc n capc, .slice none 0 0, .slice none 0 0, .int .i64 0, .int .i64 1, .int .i64 0, .int .i64 0] 96)).heap.size := by simp
  obtain ⟨wb, hwb⟩ : ∃ wb, wb = w1.alloc (.cells #[.slice aoc n capc, .slice none 0 0, .slice none 0 0, .int .i64 0, .int .i64 1, .int .i64 0, .int .i64 0] 96) := ⟨_, rfl⟩
  have e0 : (w1.alloc (.cells [.slice aoc n capc, .slice none 0 0, .slice none 0 0, .int .i64 0, .int .i64 1, .int .i64 0, .int .i64 0].toArray 96)) = wb := hwb.symm
  rw [e0] at hBx
  rw [← hwb] at hB0 hgt
  have hsz0 := hB0.size
  have HWB := Lib.hid hwb
  clear hc hwb e0
  go_enter Tryz.func71, Tryz.ntmps71
  go_wp2_with (first
    | (at_make; refine wpList_make_full _ rfl _ _ 27 rfl w1.heap.size 3 i0 (.int .i64 0) 1 Tryz.underlying27 hi0 hz0 hz1 .i64 .i64 n n n rfl rfl rfl rfl (by rw [hz2]; omega) (by unfold maxLen; omega) hszs ?_; intro w3 hown3 hg3; have hO3 := hOs.grown hg3 (fun k hk => by cases hk); obtain ⟨_, e3, _, gl3, hcell3, hfr3, hset3⟩ := hO3.parts (by omega); cases e3; have c3 : w3.cell? ⟨w1.heap.size, 2, none⟩ = some (.slice none 0 0) := hcell3 2 (by simp); have f3 := hfr3 2)
    | (at_make; rw [← HWB.out]; refine wpList_make_full _ rfl _ _ 27 rfl w1.heap.size 3 i0 (.int .i64 0) 1 Tryz.underlying27 hi0 hz0 hz1 .i64 .i64 n n n rfl rfl rfl rfl (by rw [hz2]; omega) (by unfold maxLen; omega) hsz0 ?_; intro w2 hown2 hg2; have hO2 := hBx.grown hg2 (fun k hk => by cases hk); obtain ⟨_, e2, _, gl2, hcell2, hfr2, hset2⟩ := hO2.parts (by omega); cases e2; have c2 : w2.cell? ⟨w1.heap.size, 1, none⟩ = some (.slice none 0 0) := hcell2 1 (by simp); have f2 := hfr2 1; obtain ⟨hOs, hgs⟩ := hset2 1 (.slice (some ⟨wb.heap.size, 0, none⟩) n n); have hB2 := hB0.trans (below_of_grownBy hg2 hsz0 (fun k hk => by cases hk)); have hBs := hB2.setCell (p := ⟨w1.heap.size, 1, none⟩) (Nat.le_refl _) (.slice (some ⟨wb.heap.size, 0, none⟩) n n); have hszs := hBs.size; clear hcell2 hfr2 hset2 hO2))
  have hG1 : Own w2 w1.heap.size 3 1 (.slice (some ⟨wb.heap.size, 0, none⟩) n n) n ((List.replicate n (0 : Int)).map (Value.int .i64)) := by rw [← zerosR]; exact .inl hown2
  have hlt1 : wb.heap.size < w2.heap.size := by
    rcases hown2.2 with ⟨h, _⟩ | ⟨g, cap, cur, h, _, hh, _⟩
    · cases h
    · cases h; exact (Array.getElem?_eq_some_iff.1 hh).1
  have hsw2 : (w2.setCell ⟨w1.heap.size, 1, none⟩ (.slice (some ⟨wb.heap.size, 0, none⟩) n n)).heap.size = w2.heap.size := by simp
  rw [hsw2] at hown3
  have hG2 : Own w3 w1.heap.size 3 1 (.slice (some ⟨w2.heap.size, 0, none⟩) n n) n ((List.replicate n (0 : Int)).map (Value.int .i64)) := by rw [← zerosR]; exact .inl hown3
  obtain ⟨hO4, hg4⟩ := hset3 2 (.slice (some ⟨w2.heap.size, 0, none⟩) n n)
  have hne : ∀ g, w1.heap.size < g → ∀ k, (some w1.heap.size : Option Nat) = some k → k < w1.heap.size ∨ (Value.slice (some ⟨g, 0, none⟩) n n).ownBlock ≠ some k := fun g hg k hk => .inr (fun e => by cases hk; have := Option.some.inj e; simp at this; omega)
  have hlt2 : w1.heap.size < w2.heap.size := by omega
  have hG1' := ((hG1.grown hgs (hne _ hgt)).grown hg3 (fun k hk => by cases hk)).grown hg4 (hne _ hgt)
  have hG2' := hG2.grown hg4 (hne _ hlt2)
  have hB3 := hBs.trans (below_of_grownBy hg3 hszs (fun k hk => by cases hk))
  have hB4 := hB3.setCell (p := ⟨w1.heap.size, 2, none⟩) (Nat.le_refl _) (.slice (some ⟨w2.heap.size, 0, none⟩) n n)
  have hRI : RI w1 w1.heap.size wb.heap.size w2.heap.size n (.slice aoc n capc) (List.replicate n 0) (List.replicate n 0) 0 1 0 0 (w3.setCell ⟨w1.heap.size, 2, none⟩ (.slice (some ⟨w2.heap.size, 0, none⟩) n n)) :=
    ⟨hO4, ⟨hG1', hG2', by omega⟩, by omega, by omega, by omega, by omega, Nat.le_refl _, hB4⟩
  obtain ⟨gr, hgr⟩ : ∃ g, g = w1.heap.size := ⟨_, rfl⟩
  obtain ⟨g1, hg1⟩ : ∃ g, g = wb.heap.size := ⟨_, rfl⟩
  obtain ⟨g2, hg2'⟩ : ∃ g, g = w2.heap.size := ⟨_, rfl⟩
  generalize hw4 : w3.setCell ⟨w1.heap.size, 2, none⟩ (.slice (some ⟨w2.heap.size, 0, none⟩) n n) = w4 at hRI ⊢
  have hRI2 : RI w1 gr g1 g2 n (.slice aoc n capc) (List.replicate n 0) (List.replicate n 0) 0 1 0 0 w4 := by rw [hgr, hg1, hg2']; exact hRI
  have hv0 : Value.pointer (some ⟨w1.heap.size, 0, none⟩) = .pointer (some ⟨gr, 0, none⟩) := by rw [hgr]
  rw [hv0]
  clear hv0 hRI hw4 hG1 hG2 hO4 hg4 hne hG1' hG2' hB3 hB4 hown2 hown3 hg2 hg3 hO3 gl2 gl3 hcell3 hfr3 hset3 c2 f2 c3 f3 hOs hgs hB2 hBs hszs hsw2 hlt1 hlt2 hB0 hgt hBx hsz0
  clear hgr hg1 hg2' HWB
  go_loopw [25] (fun iv V => ∃ (k : Nat) (on off : List Int), k ≤ n ∧ iv = .int .i64 k ∧ Hid (∀ j, j < k → on.getD j 0 = -1 ∧ off.getD j 0 = -1) ∧ RI w1 gr g1 g2 n (.slice aoc n capc) on off 0 1 0 0 V) (fun iv _ => n - (intOf iv).toNat)
  case atStart => exact ⟨0, _, _, Nat.zero_le _, rfl, fun j hj => by omega, hRI2⟩
  case round =>
    clear hRI2
    obtain ⟨k, on, off, hk, rfl, HM, h⟩ := hrel
    by_cases hlt : k < n
    · have hltz : (k : Int) < (n : Int) := by omega
      obtain ⟨hgl, hfr, _, p1, p2, _⟩ := h.box
      obtain ⟨a1, a2, f1, f2, gl1, gl2⟩ := h.two.at hlt
      have n1 : ¬ gr = g1 := h.2.2.1
      have n2 : ¬ gr = g2 := h.2.2.2.1
      have n3 : ¬ g1 = g2 := h.two.2.2
      have n1' : ¬ g1 = gr := fun e => n1 e.symm
      have n2' : ¬ g2 = gr := fun e => n2 e.symm
      have n3' : ¬ g2 = g1 := fun e => n3 e.symm
      have HR2 := Lib.hid (((h.setOn k hlt (-1)).setOff k hlt (-1)).drewN 1)
      have HLL := Lib.hid h.two.ll
      clear hfr h
      go_wp2_with fail
      go_region
      go_wp2
      go_roundw
      case rel => exact ⟨k + 1, on.set k (-1), off.set k (-1), by omega, by go_num, fun j hj => by
        rw [getD_set' _ _ _ _ (by rw [HLL.out.1]; exact hlt), getD_set' _ _ _ _ (by rw [HLL.out.2]; exact hlt)]
        by_cases e : j = k
        · rw [if_pos e, if_pos e]; exact ⟨rfl, rfl⟩
        · rw [if_neg e, if_neg e]; exact HM.out j (by omega), HR2.out⟩
      case measure => simp [intOf]; omega
    · have e1 : on = List.replicate n (-1) := all_minus h.two.ll.1 (fun j hj => (HM.out j (by omega)).1)
      have e2 : off = List.replicate n (-1) := all_minus h.two.ll.2 (fun j hj => (HM.out j (by omega)).2)
      subst e1 e2
      have hltz : ¬ (k : Int) < (n : Int) := by omega
      have HF := Lib.hid h
      clear h
      go_wp2_with fail
      go_ret
      exact ⟨gr, g1, g2, rfl, HF.out⟩
end
end Go.Proofs.YtpaioaknppgggaaGreatDoor
