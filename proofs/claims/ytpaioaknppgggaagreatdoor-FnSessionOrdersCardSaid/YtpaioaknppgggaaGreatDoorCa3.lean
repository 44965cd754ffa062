/- SortCalls: the program's. -/
import Derived.Test.YtpaioaknppgggaaGreatDoorSsA
import Derived.Test.YtpaioaknppgggaaGreatDoorShelfC
import Derived.Shelf.SlSortCmp.InsertionK
import Derived.Shelf.SlGeneric
namespace Go.Proofs
open Go.Shelf
def Tryz.sortR : Go.Shelf.Ren := ⟨fun | 20 => 120 | n => n, fun | 0 => 0 | 3 => 3 | 4 => 4 | 22 => 41 | 24 => 73 | 25 => 100 | n => n, fun n => n⟩
theorem Tryz.sortL : SlLaysF0.n20 Tryz.prog Tryz.sortR := {
  mixed := by kernel_rfl
  f20 := ⟨Tryz.f120.name, by kernel_rfl, Tryz.func120.trans (congrArg some (by kernel_rfl))⟩
  t0 := Tryz.underlying0
  a0 := Tryz.isAgg0
  z0 := Tryz.sizeOf0
  v0 := Tryz.zeroValue0
  t3 := Tryz.underlying3
  a3 := Tryz.isAgg3
  z3 := Tryz.sizeOf3
  v3 := Tryz.zeroValue3
  t4 := Tryz.underlying4
  a4 := Tryz.isAgg4
  z4 := Tryz.sizeOf4
  v4 := Tryz.zeroValue4
  t22 := Tryz.underlying41
  a22 := Tryz.isAgg41
  z22 := Tryz.sizeOf41
  v22 := Tryz.zeroValue41
  t25 := Tryz.underlying100
  a25 := Tryz.isAgg100
  z25 := Tryz.sizeOf100
  v25 := Tryz.zeroValue100 }
end Go.Proofs
namespace Go.Proofs.YtpaioaknppgggaaGreatDoor
open Go.RowKit Go.Shelf Go.Sort
set_option linter.unusedVariables false
set_option linter.unusedSimpArgs false

theorem cmp_neg (x y : Int) : (Lib.compareInt x y < 0) = (x < y) := by
  unfold Lib.compareInt
  refine propext ⟨fun h => ?_, fun h => by rw [if_pos h]; decide⟩
  split at h
  · assumption
  · split at h <;> omega
theorem ltC_of : (ltOf fun x y : Cl => Lib.compareInt x.2.2 y.2.2) = ltC := by
  funext x y
  unfold ltOf ltC
  simp only [cmp_neg]
set_option maxHeartbeats 1000000 in
theorem sort_closure (x y : Cl) (W : World) : Calls Tryz.prog 77 #[.agg (clCells x).toArray, .agg (clCells y).toArray] W fun e w' => e = .returned (.int .i64 (Lib.compareInt x.2.2 y.2.2)) ∧ ∃ q os', w' = grow (W.drewN q) os' := by
  obtain ⟨xf, xt, xm⟩ := x
  obtain ⟨yf, yt, ym⟩ := y
  have hcon := fun W' => Tryz.cmp_Compare_int xm ym W'
  simp only
  generalize Lib.compareInt xm ym = r at hcon ⊢
  unfold clCells
  go_enter Tryz.func77, Tryz.ntmps77
  go_wp2_with (go_at_call 78; refine (hcon _).mono ?_; rintro e w' ⟨rfl, rfl⟩)
  go_ret
  exact ⟨rfl, 0, _, by rw [alloc_eq_grow, alloc_eq_grow, grow_grow]; rfl⟩
theorem sort_lays (blk off size : Nat) (w : World) : CmpLays Tryz.prog 77 #[] clCells 3 (fun x y : Cl => Lib.compareInt x.2.2 y.2.2) blk off size w :=
  fun _ _ _ _ x y => sort_closure x y _

theorem below_sort {w : World} {g m B : Nat} {d : Array Cl} {os : Array Obj} (hB : B ≤ w.heap.size) (hg : B ≤ g) : Below B w (sortWorldK clCells 3 w g 0 m d os) := by
  refine ⟨rfl, rfl, rfl, size_sortWorldK_c _ _ _ _ _ _ _ _, fun k hk => ?_⟩
  unfold sortWorldK putRowK putRow mapBlock grow
  show ((w.heap.modify g _) ++ os)[k]? = w.heap[k]?
  rw [Array.getElem?_append_left (by simp; omega), Array.getElem?_modify, if_neg (by omega)]
theorem holdsK_of_own {w : World} {lo g n cap : Nat} {d : Array Cl} (h : OwnC w lo g n cap d) : HoldsK clCells 3 w g 0 d := by
  obtain ⟨hs, hO⟩ := h
  intro t ht
  rw [size_flatK] at ht
  by_cases hn : n = 0
  · omega
  obtain ⟨g', e1, hlo, hg, hc, hf, _⟩ := hO.parts (by omega)
  cases e1
  have hlt : t < (cdf d).length := by rw [cdf_len]; exact ht
  refine ⟨?_, hf _⟩
  rw [Nat.zero_add, hc t hlt, get_flatK _ _ _ _ ht, ← List.getElem?_eq_getElem hlt]
  unfold cdf
  have e : t = t / 3 * 3 + t % 3 := by omega
  have e3 : t % 3 < 3 := by omega
  have ed : t / 3 < d.size := by omega
  conv => lhs; rw [e]
  rw [flat_get clCells_len d.toList (t / 3) (t % 3) e3]
  simp [ed]
  rw [List.getElem?_eq_getElem (by rw [clCells_len]; exact e3)]; rfl
theorem cls_of_holds {w : World} {g n cap : Nat} {ds : List Cl} (h : HoldsK clCells 3 w g 0 ds.toArray) (hn : ds.length = n) (hc : n ≤ cap) (hm : cap ≤ 9223372036854775807) : Cls w 0 (.slice (some ⟨g, 0, none⟩) n cap) ds := by
  refine ⟨by rw [flat_len clCells_len], some ⟨g, 0, none⟩, cap, by rw [hn], by omega, by unfold maxLen; omega, (fun e => by cases e), fun _ => ⟨g, 0, rfl, Nat.zero_le _, fun i hi => ?_⟩⟩
  rw [flat_len clCells_len] at hi
  have e : i = i / 3 * 3 + i % 3 := by omega
  have e3 : i % 3 < 3 := by omega
  have ed : i / 3 < ds.length := by omega
  have := (h.cell (i := i / 3) (c := i % 3) (by simpa using ed) e3).1
  rw [Nat.zero_add] at this ⊢
  rw [← e] at this
  rw [this]
  have h2 := flat_get clCells_len ds (i / 3) (i % 3) e3
  rw [← e, List.getElem?_eq_getElem (by rw [flat_len clCells_len]; exact hi)] at h2
  rw [h2]
  simp [ed]
  rw [List.getElem?_eq_getElem (by rw [clCells_len]; exact e3)]; rfl

set_option maxHeartbeats 2000000 in
theorem ins_none (p : Option Addr) (cap : Nat) (fv : Value) (w : World) :
    Calls Tryz.prog 120 #[.slice p 0 cap, .int .i64 0, .int .i64 0, fv] w fun e w' => e = .returned (.tuple #[]) ∧ w' = w := by
  go_enter Tryz.func120, Tryz.ntmps120
  go_wp2_with fail
  go_loopw [8] (fun vi W => vi = .int .i64 1 ∧ W = w) (fun _ _ => 0)
  case atStart => exact ⟨rfl, rfl⟩
  case round =>
    obtain ⟨rfl, rfl⟩ := hrel
    go_wp2_with fail
    go_end0
    exact ⟨rfl, rfl⟩
def StRet (w : World) (g n : Nat) (cs : List Cl) (e : Ending) (w' : World) : Prop := e = .returned (.tuple #[]) ∧ HoldsK clCells 3 w' g 0 (sortC cs).toArray ∧ ∀ B, B ≤ w.heap.size → B ≤ g → Below B w w'
theorem ins_call (w : World) (g n cap : Nat) (cs : List Cl) (hO : OwnC w 0 g n cap cs.toArray) (hn : cs.length = n) (h0 : 0 < n) (h12 : n ≤ 12) :
    Calls Tryz.prog 120 #[.slice (some ⟨g, 0, none⟩) n cap, .int .i64 0, .int .i64 n, .func (.func 77) #[] #[]] w (StRet w g n cs) := by
  have eg : ∀ args w, (callFunc 77 args).run Tryz.prog w = .ok (.enter 77 args) w := enters_of Tryz.func77 (by kernel_rfl) rfl
  have hs : cs.toArray.size = n := by simp [hn]
  have hg : g < w.heap.size := (hO.at (i := 0) h0).1
  have hH := holdsK_of_own hO
  have hcon := AnyQ.insertionSortCmpFunc Tryz.sortL 3 Tryz.isAgg73 Tryz.sizeOf73 clCells clCells_len (fun x v hv => by simp [clCells] at hv; rcases hv with rfl | rfl | rfl <;> rfl) (fun x y : Cl => Lib.compareInt x.2.2 y.2.2) 77 #[] g 0 cap 0 n cs.toArray w eg (sort_lays g 0 _ w) hH hg (Nat.zero_le _) (by rw [hs]; exact Nat.le_refl _) (by rw [hs]; omega)
  rw [hs] at hcon
  refine Calls.mono hcon ?_
  rintro e w' ⟨rfl, m, os, rfl⟩
  refine ⟨rfl, ?_, fun B h1 h2 => below_sort h1 h2⟩
  have e1 : Sort.insertionSort (ltOf fun x y : Cl => Lib.compareInt x.2.2 y.2.2) cs.toArray 0 n = (sortC cs).toArray := by rw [ltC_of, ← hn]; simp [sortC]
  rw [e1]
  exact holdsK_sortWorldK_c clCells 3 w g 0 cs.toArray _ m os hH hg (by simp [sortC_len])

set_option maxHeartbeats 2000000 in
theorem stable_call (w : World) (ao : Option Addr) (n cap : Nat) (fv : Value) (hn : n ≤ 12) (hcap : n ≤ cap) (hm : cap ≤ 9223372036854775807) (R : World → Prop) (h : Calls Tryz.prog 120 #[.slice ao n cap, .int .i64 0, .int .i64 n, fv] w fun e w' => e = .returned (.tuple #[]) ∧ R w') :
    Calls Tryz.prog 102 #[.slice ao n cap, .int .i64 n, fv] w fun e w' => e = .returned (.tuple #[]) ∧ R w' := by
  have HC := Lib.hid h
  clear h
  have d1 : ¬ (20 : Int) ≤ (n : Int) := by omega
  have d2 : ¬ (20 : Int) < (n : Int) := by omega
  go_enter Tryz.func102, Tryz.ntmps102
  go_wp2_with fail
  go_loopw [7, 8] (fun a b W => a = .int .i64 0 ∧ b = .int .i64 20 ∧ W = w) (fun _ _ _ => 0)
  case atStart => exact ⟨rfl, rfl, rfl⟩
  case round =>
    obtain ⟨rfl, rfl, rfl⟩ := hrel
    go_wp2_with (go_at_call 120; refine HC.out.mono ?_; rintro e' w3 ⟨rfl, hR⟩; have HR := Lib.hid hR; clear hR)
    go_loopw [6, 7, 8] (fun s a b W => s = .int .i64 20 ∧ W = w3) (fun _ _ _ _ => 0)
    case atStart => exact ⟨rfl, rfl⟩
    case round =>
      obtain ⟨rfl, rfl⟩ := hrel
      go_wp2_with fail
      go_end0
      exact ⟨rfl, HR.out⟩
theorem sortStable_call (w : World) (ao : Option Addr) (n cap : Nat) (fv : Value) (hn : n ≤ 12) (hcap : n ≤ cap) (hm : cap ≤ 9223372036854775807) (R : World → Prop) (h : Calls Tryz.prog 120 #[.slice ao n cap, .int .i64 0, .int .i64 n, fv] w fun e w' => e = .returned (.tuple #[]) ∧ R w') :
    Calls Tryz.prog 76 #[.slice ao n cap, fv] w fun e w' => e = .returned (.tuple #[]) ∧ R w' := by
  have HC := Lib.hid (stable_call w ao n cap fv hn hcap hm R h)
  clear h
  go_enter Tryz.func76, Tryz.ntmps76
  go_wp2_with (go_at_call 102; refine HC.out.mono ?_; rintro e' w3 ⟨rfl, hR⟩; have HR := Lib.hid hR; clear hR)
  go_end0
  exact ⟨rfl, HR.out⟩

def ClRet (w : World) (cs : List Cl) (e : Ending) (w' : World) : Prop := ∃ v', e = .returned v' ∧ Own w' w.heap.size 73 3 v' cs.length (cs.flatMap clCells) ∧ Below w.heap.size w w'
theorem cloneC_any (w : World) (lo : Nat) (v : Value) (cs : List Cl) (hv : Cls w lo v cs) (hn : cs.length ≤ 1000) :
    Calls Tryz.prog 75 #[v] w (ClRet w cs) := by
  obtain ⟨ao, cap, rfl, hcap, hm⟩ := hv.form
  have q22 : ∀ (w : World) (a : Option Addr) (n c n' c' : Nat), (binOp .eql 41 (.slice a n c) (.slice none n' c')).run Tryz.prog w = .ok (.bool a.isNone) w := fun w a n c n' c' => Lib.run_eql_slice_nil w _ _ a n c n' c' Tryz.underlying41
  cases ao with
  | none =>
    have hcap0 : cap = 0 := by
      obtain ⟨_, _, _, e, _, _, h, _⟩ := hv
      cases e; exact h rfl
    have h0 : cs = [] := List.eq_nil_of_length_eq_zero (by omega)
    subst h0
    clear hv
    go_enter Tryz.func75, Tryz.ntmps75
    go_wp2
    go_ret
    exact ⟨_, rfl, Own.nil _ _ _ _, Below.refl _ _⟩
  | some a =>
    have hO := Own.made w [] 73 w.heap.size 3 0 rfl (Nat.le_refl _) (by decide)
    have hB : Below w.heap.size w (w.alloc (.cells #[] 73)) := (Below.refl _ _).alloc (Nat.le_refl _) _
    have hv1 := Rd.below hv hB (Nat.le_refl _) (by decide)
    have hsz := hB.size
    clear hv
    go_enter Tryz.func75, Tryz.ntmps75
    go_wp2_with (at_builtin; refine wpList_append_Own _ rfl _ _ 41 rfl 73 (.agg #[.int .i64 0, .int .i64 0, .int .i64 0]) 3 24 Tryz.underlying41 info_call rfl (by omega) w.heap.size _ _ _ rfl hO _ lo cs.length _ rfl hv1 (by
      intro u hu
      obtain ⟨c, _, hc⟩ := List.mem_flatMap.1 hu
      simp [clCells] at hc
      rcases hc with rfl | rfl | rfl <;> rfl) (by unfold maxLen; omega) (by omega) hsz ?_; intro v' w2 hO2 hg2 _)
    go_ret
    exact ⟨_, rfl, by simpa using hO2, hB.trans (below_of_grownBy hg2 hsz (fun k hk => (hO.wblk hk).1))⟩

def SoRet (w : World) (cs : List Cl) (e : Ending) (w' : World) : Prop := ∃ v', e = .returned v' ∧ Cls w' 0 v' (sortC cs) ∧ Below w.heap.size w w'
set_option maxHeartbeats 2000000 in
theorem impl_sortCalls (w : World) (lo : Nat) (v : Value) (cs : List Cl) (hv : Cls w lo v cs) (hok : clsOk cs) :
    Calls Tryz.prog 56 #[v] w (SoRet w cs) := by
  have HV := Lib.hid (impl_validCalls w lo v cs true (decide_eq_true hok).symm hv)
  have hv0 := hv
  have h12 := hok.1
  have HCL : Hid (∀ W, Below w.heap.size w W → Calls Tryz.prog 75 #[v] W (ClRet W cs)) := fun W hB => cloneC_any W lo v cs (Rd.below hv0 hB (Nat.le_refl _) (by decide)) (by omega)
  clear hv hv0 hok
  go_enter Tryz.func56, Tryz.ntmps56
  go_wp2_with (first
    | (go_at_call 54; refine HV.out.mono ?_; rintro e' w1 ⟨rfl, hB1⟩; have HB1 := Lib.hid hB1; clear hB1)
    | (go_at_call 75; refine (HCL.out _ HB1.out).mono ?_; rintro e' w2 ⟨v2, rfl, hO2, hB2⟩; obtain ⟨ao2, cap2, rfl, hc2, hm2⟩ := hO2.form; have HO2 := Lib.hid hO2; have HB2 := Lib.hid (HB1.out.trans (hB2.mono HB1.out.size)); have HZ := Lib.hid HB1.out.size; clear hO2 hB2))
  by_cases hn0 : cs.length = 0
  · have h0 : cs = [] := List.eq_nil_of_length_eq_zero hn0
    subst h0
    go_at_call 76
    refine (sortStable_call w2 ao2 0 cap2 _ (by omega) (by omega) hm2 (fun w' => w' = w2) (ins_none _ _ _ _)).mono ?_
    rintro e' w3 ⟨rfl, rfl⟩
    go_wp2_with fail
    go_ret
    exact ⟨_, rfl, by rw [sortC_nil]; exact HO2.out.rd.mono (Nat.zero_le _), HB2.out⟩
  · obtain ⟨g, e1, hlo, hg, _, _, _⟩ := HO2.out.parts (by omega)
    cases e1
    have HS := Lib.hid (ins_call w2 g cs.length cap2 cs ⟨by simp, by unfold cdf; exact HO2.out.mono (Nat.zero_le _)⟩ rfl (by omega) h12)
    go_at_call 76
    refine (sortStable_call w2 (some ⟨g, 0, none⟩) cs.length cap2 _ h12 hc2 hm2 _ HS.out).mono ?_
    rintro e' w3 ⟨rfl, hH, hB⟩
    have HH := Lib.hid hH
    have HB3 := Lib.hid (HB2.out.trans (hB w.heap.size HB2.out.size (by have := HZ.out; omega)))
    clear hH hB
    go_wp2_with fail
    go_ret
    exact ⟨_, rfl, cls_of_holds HH.out (sortC_len cs) hc2 hm2, HB3.out⟩
end Go.Proofs.YtpaioaknppgggaaGreatDoor
