/- Draws of phases: sorted, randomPhase. -/
import Derived.Test.YtokpgipbgkiepaaDrP1
import Derived.Test.YtokpgipbgkiepaaPlQ
namespace Go.Proofs.Ytokpgipbgkiepaa
open Go.RowKit
set_option linter.unusedVariables false
set_option linter.unusedSimpArgs false

def SortRet (w : World) (xs : List Int) (e : Ending) (w' : World) : Prop := ∃ v', ∃ ys : List Int, e = .returned v' ∧ Own w' w.heap.size 3 1 v' ys.length (ys.map (.int .i64)) ∧ ys.length = xs.length ∧ (∀ y ∈ ys, y ∈ xs) ∧ Below w.heap.size w w'
theorem getD_in {xs : List Int} {k : Nat} (h : k < xs.length) : xs.getD k 0 ∈ xs := by simp [h]
theorem swap_in {ys xs : List Int} (h : ∀ y ∈ ys, y ∈ xs) {a b : Nat} (ha : a < ys.length) (hb : b < ys.length) : ∀ y ∈ (ys.set a (ys.getD b 0)).set b (ys.getD a 0), y ∈ xs := by
  intro y hy
  rcases List.mem_or_eq_of_mem_set hy with h1 | h1
  · rcases List.mem_or_eq_of_mem_set h1 with h2 | h2
    · exact h y h2
    · rw [h2]; exact h _ (getD_in hb)
  · rw [h1]; exact h _ (getD_in ha)

set_option maxHeartbeats 4000000 in
theorem sorted_any (w : World) (v : Value) (xs : List Int) (hv : Ints w 0 v xs) (hn : xs.length ≤ 1000) :
    Calls Try.prog 129 #[v] w (SortRet w xs) := by
  obtain ⟨ao, cap, rfl, hcap, hm⟩ := hv.form
  go_enter Try.func129, Try.ntmps129
  go_wp2_with fail
  go_at_call 59
  refine (copyInts_any _ _ xs hv (by omega)).mono ?_; rintro e w1 ⟨v1, rfl, hO1, hB1⟩
  obtain ⟨a1, c1, rfl, hc1, hm1⟩ := hO1.form
  obtain ⟨n, hnn⟩ : ∃ n, n = xs.length := ⟨_, rfl⟩
  rw [← hnn] at hO1 hc1 hn ⊢
  have HN := Lib.hid hnn
  clear hv hcap hm hnn
  go_wp2_with fail
  go_loopw [4] (fun i wo => ∃ k : Nat, ∃ ys : List Int, 1 ≤ k ∧ k ≤ n + 1 ∧ i = .int .i64 k ∧ Own wo w.heap.size 3 1 (.slice a1 n c1) n (ys.map (.int .i64)) ∧ Hid (ys.length = n ∧ ∀ y ∈ ys, y ∈ xs) ∧ Below w.heap.size w wo) (fun i _ => n + 1 - (intOf i).toNat)
  case atStart => exact ⟨1, xs, Nat.le_refl _, by omega, rfl, hO1, ⟨HN.out.symm, fun y hy => hy⟩, hB1⟩
  case round =>
    clear hO1 hB1
    obtain ⟨k, ys, hk1, hk2, rfl, hO, HY, hB⟩ := hrel
    by_cases hlt : k < n
    · have HO := Lib.hid hO
      have HB := Lib.hid hB
      clear hO hB
      go_wp2_with fail
      go_loopw [5] (fun i wi => ∃ j : Nat, ∃ ys : List Int, j ≤ k ∧ i = .int .i64 j ∧ Own wi w.heap.size 3 1 (.slice a1 n c1) n (ys.map (.int .i64)) ∧ Hid (ys.length = n ∧ ∀ y ∈ ys, y ∈ xs) ∧ Below w.heap.size w wi) (fun i _ => (intOf i).toNat)
      case atStart => exact ⟨k, ys, Nat.le_refl _, rfl, HO.out, HY, HB.out⟩
      case round =>
        clear HO HY HB
        obtain ⟨j, ys, hj, rfl, hO, HY, hB⟩ := hrel
        by_cases hj0 : 0 < j
        · have hlen := hO.len
          have hyl := HY.out.1
          obtain ⟨g, rfl, hgl, hgs, hcell, hfr, _⟩ := hO.parts (by omega)
          have q1 := hcell j (by simp; omega)
          have q2 := hcell (j - 1) (by simp; omega)
          rw [List.getElem_map] at q1 q2
          have e1 : ys[j]'(by omega) = ys.getD j 0 := by simp [show j < ys.length by omega]
          have e2 : ys[j - 1]'(by omega) = ys.getD (j - 1) 0 := by simp [show j - 1 < ys.length by omega]
          rw [e1] at q1
          rw [e2] at q2
          have hsw := swap_in HY.out.2 (a := j) (b := j - 1) (by omega) (by omega)
          obtain ⟨y, hy⟩ : ∃ y, y = ys.getD j 0 := ⟨_, rfl⟩
          obtain ⟨z, hz⟩ : ∃ z, z = ys.getD (j - 1) 0 := ⟨_, rfl⟩
          rw [← hy] at q1 hsw
          rw [← hz] at q2 hsw
          have f1 := hfr j
          have f2 := hfr (j - 1)
          have HSW := Lib.hid hsw
          have d0 : decide (0 < j) = true := decide_eq_true hj0
          have d0i : decide ((0 : Int) < (j : Int)) = true := decide_eq_true (by omega)
          have g0 : (0 : Int) ≤ (j : Int) := by omega
          have g1 : (j : Int) < (n : Int) := by omega
          have wr1 : IntKind.i64.wrap ((j : Int) - 1) = (j : Int) - 1 := IntWalk.i64_in _ (by omega)
          have g2 : 0 ≤ (j : Int) - 1 := by omega
          have g3 : (j : Int) - 1 < (n : Int) := by omega
          have e3 : ((j : Int) - 1).toNat = j - 1 := by omega
          have e4 : ((j - 1 : Nat) : Int) = (j : Int) - 1 := by omega
          have HE4 := Lib.hid e4
          have hjn : j - 1 ≠ j := by omega
          have HYL := Lib.hid hyl
          clear hcell hfr hlen hy hz e1 e2 hsw e4 hyl
          by_cases hyz : y < z
          · have d1 : decide (y < z) = true := decide_eq_true hyz
            clear hyz
            obtain ⟨hS1, hg1⟩ := hO.store (by omega) j (.int .i64 z)
            obtain ⟨hS2, hg2⟩ := hS1.store (by omega) (j - 1) (.int .i64 y)
            have HF : Hid (∀ m, Own ((((wr.drewN m).setCell ⟨g, j, none⟩ (.int .i64 z)).setCell ⟨g, j - 1, none⟩ (.int .i64 y))) w.heap.size 3 1 (.slice (some ⟨g, 0, none⟩) n c1) n (((ys.set j z).set (j - 1) y).map (.int .i64)) ∧
                Hid (((ys.set j z).set (j - 1) y).length = n ∧ ∀ q ∈ (ys.set j z).set (j - 1) y, q ∈ xs) ∧ Below w.heap.size w (((wr.drewN m).setCell ⟨g, j, none⟩ (.int .i64 z)).setCell ⟨g, j - 1, none⟩ (.int .i64 y))) := fun m => by
              obtain ⟨p1, _⟩ := (hO.drewN m).store (by omega) j (.int .i64 z)
              obtain ⟨p2, _⟩ := p1.store (by omega) (j - 1) (.int .i64 y)
              refine ⟨by rw [List.map_set, List.map_set]; exact p2, ⟨by simp [HYL.out], HSW.out⟩, ((below_drewN hB m).setCell (p := ⟨g, j, none⟩) hgl _).setCell (p := ⟨g, j - 1, none⟩) hgl _⟩
            clear hS1 hg1 hS2 hg2 hO hB
            go_wp2_with fail
            go_quiet (fail)
            go_wp2
            go_roundw
            case rel => exact ⟨j - 1, _, by omega, by rw [HE4.out], (HF.out _).1, (HF.out _).2⟩
            case measure => simp [intOf]; omega
          · have d1 : decide (y < z) = false := decide_eq_false hyz
            clear hyz
            go_wp2_with fail
            go_quiet (fail)
            go_wp2
            go_roundw
            case rel => exact ⟨k + 1, ys, by omega, by omega, by go_num, hO.drewN _, HY, below_drewN hB _⟩
            case measure => simp [intOf]; omega
        · obtain rfl : j = 0 := by omega
          have d0 : decide ((0 : Nat) < 0) = false := by decide
          have d0i : decide ((0 : Int) < ((0 : Nat) : Int)) = false := by decide
          have d0j : decide ((0 : Int) < 0) = false := by decide
          go_wp2_with fail
          go_quiet (fail)
          go_wp2
          go_roundw
          case rel => exact ⟨k + 1, ys, by omega, by omega, by go_num, hO.drewN _, HY, below_drewN hB _⟩
          case measure => simp [intOf]; omega
    · have HF : Hid (Own wr w.heap.size 3 1 (.slice a1 n c1) ys.length (ys.map (.int .i64)) ∧ ys.length = xs.length ∧ (∀ y ∈ ys, y ∈ xs)) := ⟨by rw [HY.out.1]; exact hO, by rw [HY.out.1, HN.out], HY.out.2⟩
      clear hO
      go_wp2_with fail
      go_ret
      exact ⟨_, ys, rfl, HF.out.1, HF.out.2.1, HF.out.2.2, hB⟩

def PhaseDraw (w : World) (hi rb p : Nat) (e : Ending) (w' : World) : Prop :=
  ∃ v', ∃ ys : List Int, ∃ p', e = .returned v' ∧ Own w' w.heap.size 3 1 v' ys.length (ys.map (.int .i64)) ∧ ys.length ≤ 8 ∧ tame ys ∧ p' ≤ p + 20 ∧ Rdh hi w' rb p' ∧ w.grownBy w' (some rb)

theorem ConfR.grown {w w' : World} {lo : Nat} {v : Value} {t : List (List Int)} {row : Option Nat} (h : ConfR w lo v t) (hg : w.grownBy w' row) (hr : ∀ q, row = some q → q < lo) : ConfR w' lo v t := by
  obtain ⟨b, off, cap, e, h1, h2, h3, h4, h5⟩ := h
  have key : ∀ b o, lo ≤ b → b < w.heap.size → w'.cell? ⟨b, o, none⟩ = w.cell? ⟨b, o, none⟩ := fun b o hl hb =>
    World.cell?_of_block (hg.block b hb (fun e => by have := hr b e.symm; omega))
  refine ⟨b, off, cap, e, h1, h2, h3, Nat.lt_of_lt_of_le h4 hg.size, fun a ha => ?_⟩
  obtain ⟨b1, off1, c1, q1, q2, q3, q4, q5, q6⟩ := h5 a ha
  exact ⟨b1, off1, c1, (key b _ h3 h4).trans q1, q2, q3, q4, Nat.lt_of_lt_of_le q5 hg.size, fun c hc => (key b1 _ q4 q5).trans (q6 c hc)⟩
/-- append of one value behind a guard that lets it through. -/
theorem wpList_append_oneG {P : Program} (w : World) {ops : Array Oper} {rest : List Oper} {o : Oper} {a : Act} {Q : Exit → Act → World → Prop} (hw : Region.wanted o (yielded ops a.tmps) = true) (s x : Operand) (t : TypeId)
    (ho : o.op = .call { callee := .builtin .append, args := #[s, x], argTypes := #[t, t] })
    (e : TypeId) (z : Value) (bytes : Nat) (ht : P.underlying t = some (.slice e)) (hi : (P.info? e).map (fun i => (i.zero, i.size, i.bytes)) = some (some z, 1, bytes))
    (hzs : z.cells.size = 1)
    (lo : Nat) (v : Value) (n : Nat) (cs : List Value) (hs : a.eval s = v) (hown : Own w lo e 1 v n cs)
    (u : Value) (t' : TypeId) (hxe : a.eval x = .slice (some ⟨w.heap.size, 0, none⟩) 1 1) (h1 : u.oneCell' = true)
    (h63 : n + 1 ≤ 9223372036854775807) (hbytes : (n + 1) * bytes ≤ 140737488355328) (hbase : lo ≤ w.heap.size)
    (h : ∀ v' w', Own w' lo e 1 v' (n + 1) (cs ++ [u]) → w.grownBy w' (wblk v) → (∀ k, wblk v' = some k → wblk v = some k ∨ w.heap.size ≤ k) → wpList P ops Q rest (a.put o.dst v') w') :
    wpList P ops Q (o :: rest) a (w.alloc (.cells #[u] t')) := by
  refine wpList_step fun K hK => ?_
  rw [if_pos hw]
  obtain ⟨i, hi1, hz, hsize, hby⟩ := info_parts hi
  obtain ⟨v', w', hr, h2, h3, h4⟩ := run_append_Own (P := P) (w.alloc (.cells #[u] t')) lo t o.type e i z 1 bytes ht hi1 hz hsize hby hzs (by omega) v n cs (hown.alloc _) (.slice (some ⟨w.heap.size, 0, none⟩) 1 1) 0 1 [u] (Rd.made w [u] t' 0 1 1 rfl (Nat.zero_le _) (by decide)) (by simpa using h1) (by unfold maxLen; omega) hbytes (by simp; omega)
  have hga := World.grownBy_alloc w (.cells #[u] t') none
  unfold Oper.wp execOp
  simp only [ho, resolve, invoke, builtin, Sem.run_bind, Sem.run_pure, Result.andThen_ok, List.map_toArray, List.map_cons, List.map_nil, hs, hxe, hr]
  refine hK _ _ (h v' w' h2 ?_ ?_)
  · exact grownBy_trans (row := wblk v) ⟨hga.os, hga.tape, hga.output, hga.size, fun k hk _ => hga.block k hk (fun e => by cases e)⟩ h3 (fun x hx => .inl hx)
  · intro k hk'
    rcases h4 k hk' with h | h
    · exact .inl h
    · right; simp at h; omega

set_option maxHeartbeats 8000000 in
theorem randomPhase_any {hi : Nat} (w : World) (rb p : Nat) (lo : Nat) (v : Value) (t : List (List Int)) (hr : Rdh hi w rb p) (hp : p ≤ 1000000) (hv : IntSS w lo v t) (hlo : rb < lo) (hval : validCl t = true) :
    Calls Try.prog 120 #[.pointer (some ⟨rb, 0, none⟩), v] w (PhaseDraw w hi rb p) := by
  obtain ⟨ao, cap, rfl, hcap, hm⟩ := hv.form
  have hrb := hr.lt
  obtain ⟨hn1, hn8, _, _⟩ := validCl_iff.1 hval
  obtain ⟨w0, hw0⟩ : ∃ w0, w0 = w.alloc (.cells #[] 3) := ⟨_, rfl⟩
  have hB0 : Below w.heap.size w w0 := by rw [hw0]; exact (Below.refl _ _).alloc (Nat.le_refl _) _
  have hO0 : Own w0 w.heap.size 3 1 (.slice (some ⟨w.heap.size, 0, none⟩) 0 0) 0 [] := by rw [hw0]; exact Own.made w [] 3 w.heap.size 1 0 rfl (Nat.le_refl _) (by decide)
  have HW0 := Lib.hid hw0
  have HVAL := Lib.hid hval
  clear hw0 hval
  go_enter Try.func120, Try.ntmps120
  go_wp2_with fail
  rw [← HW0.out]
  clear HW0
  refine (spec_conflictsOf _ lo _ t (hv.below hB0 (Nat.le_refl _)) HVAL.out).mono ?_; rintro e w1 ⟨vc, rfl, hC, hB1⟩
  have hT1 := hB0.trans (hB1.mono hB0.size)
  have hO1 := hO0.below hB1 (Nat.le_refl _)
  have hr1 := hr.below hT1 hrb
  have hC1 : ConfR w1 (rb + 1) vc t := by
    obtain ⟨b, off, capc, e, h1, h2, h3, h4, h5⟩ := hC
    have hs0 := hB0.size
    refine ⟨b, off, capc, e, h1, h2, by omega, h4, fun a ha => ?_⟩
    obtain ⟨b1, off1, c1, q1, q2, q3, q4, q5, q6⟩ := h5 a ha
    exact ⟨b1, off1, c1, q1, q2, q3, by omega, q5, q6⟩
  have hz1 := hT1.size
  have hG1 : w.grownBy w1 (some rb) := grownBy_of_below hT1 (Nat.le_refl _) _
  clear hO0 hB0 hB1 hC hT1 hv hr
  go_wp2_with fail
  go_at_call 53
  refine (pick_h _ _ _ t.length hr1 (by omega) (by omega)).mono ?_; rintro e w2 ⟨x, rfl, ⟨hx0, hx1, hx2⟩, hr2, hg2⟩
  have hx3 := hx1 (by omega)
  have hO2 : Own w2 w1.heap.size 3 1 (.slice (some ⟨w.heap.size, 0, none⟩) 0 0) ([] : List Int).length (([] : List Int).map (.int .i64)) := .inr ⟨rfl, rfl, _, rfl⟩
  have hrb1 : rb < w1.heap.size := by omega
  obtain ⟨at_, rfl⟩ := Int.eq_ofNat_of_zero_le hx0
  have HC1 := Lib.hid hC1
  have HG1 := Lib.hid hG1
  have HVC : Hid (∃ b off capc, vc = .slice (some ⟨b, off, none⟩) t.length capc) := by obtain ⟨b, off, capc, e, _⟩ := hC1; exact ⟨b, off, capc, e⟩
  obtain ⟨bv, ov, cv, rfl⟩ := HVC.out
  clear hx1 hO1 hr1 hC1 hG1 HVC
  go_wp2_with fail
  go_loopw [5, 8] (fun uv i wo => ∃ k : Nat, ∃ ys : List Int, ∃ p', k ≤ t.length ∧ i = .int .i64 k ∧ Own wo w1.heap.size 3 1 uv ys.length (ys.map (.int .i64)) ∧ ys.length ≤ k ∧ Hid (∀ y ∈ ys, 0 ≤ y ∧ y < t.length) ∧ p' ≤ p + 1 + k ∧ Rdh hi wo rb p' ∧ w1.grownBy wo (some rb)) (fun _ i _ => t.length - (intOf i).toNat)
  case atStart => exact ⟨0, [], _, Nat.zero_le _, rfl, hO2, Nat.le_refl _, fun y hy => by simp at hy, Nat.le_refl _, hr2, hg2⟩
  case round =>
    clear hO2 hr2 hg2
    obtain ⟨k, ys, p', hk, rfl, hO, hyl, HY, hp', hr, hG⟩ := hrel
    by_cases hlt : k < t.length
    · obtain ⟨q, hq⟩ : ∃ q, q = (at_ + k) % t.length := ⟨_, rfl⟩
      have hq1 : q < t.length := by rw [hq]; exact Nat.mod_lt _ (by omega)
      have e1 : ((at_ : Int) + (k : Int)) % (t.length : Int) = (q : Int) := by rw [hq, show ((at_ : Int) + (k : Int)) = ((at_ + k : Nat) : Int) by omega, ← Int.natCast_emod]
      have m3 : ((at_ : Int) + (k : Int)).tmod (t.length : Int) = (q : Int) := by rw [Int.tmod_eq_emod_of_nonneg (by omega), e1]
      have m4 : ¬ (t.length : Int) = 0 := by omega
      have m6 : ¬ t.length = 0 := by omega
      have wr1 : IntKind.i64.wrap ((at_ : Int) + (k : Int)) = (at_ : Int) + (k : Int) := IntWalk.i64_in _ (by omega)
      have HYI : Hid (∀ y ∈ ys ++ [(q : Int)], 0 ≤ y ∧ y < t.length) := fun y hy => by
        rcases List.mem_append.1 hy with h | h
        · exact HY.out y h
        · simp at h; subst h; omega
      clear hq
      go_wp2_with fail
      go_at_call 53
      refine (pick_h _ _ _ 4 hr (by omega) (by omega)).mono ?_; rintro e w3 ⟨x, rfl, ⟨hx0, hx1, hx2⟩, hr3, hg3⟩
      have hO3 := hO.grown hg3 (fun q hq => .inl (by cases hq; exact hrb1))
      have hG3 := grownBy_trans hG hg3 (fun x hx => .inl hx)
      clear hx1 hr hG hO hg3
      by_cases hx0' : 0 < x
      · have d0 : decide (0 < x) = true := decide_eq_true hx0'
        have hz3 := hG3.size
        have HC3 := Lib.hid (HC1.out.grown hG3 (fun q hq => by cases hq; omega))
        clear hx0'
        go_wp2_with fail
        go_at_call 59
        refine (copyInts_any _ _ ys (hO3.ints rfl) (by omega)).mono ?_; rintro e w4 ⟨v4, rfl, hO4, hB4⟩
        have hz4 := hB4.size
        have hr3l := hr3.lt
        go_wp2_with (at_builtin; refine wpList_append_oneG _ (by rfl) _ _ 27 (by rfl) 3 (.int .i64 0) 8 Try.underlying27 info_int rfl w3.heap.size _ _ _ (by rfl) hO4 _ _ (by rfl) rfl (by omega) (by omega) hz4 ?_; intro v5 w5 hO5 hg5 _)
        have hB35 : Below w3.heap.size w3 w5 := hB4.trans (below_of_grownBy hg5 hz4 (fun q hq => (hO4.wblk hq).1))
        have HC5 := HC3.out.below hB35 (Nat.le_refl _)
        have hI5 : Ints w5 0 v5 (ys ++ [(q : Int)]) := by
          have := hO5.rd.mono (Nat.zero_le _)
          unfold Ints; simpa using this
        have hO35 := hO3.below hB35 (Nat.le_refl _)
        have hr5 := hr3.below hB35 hr3.lt
        have hG5 := grownBy_trans hG3 (grownBy_of_below hB35 (Nat.le_refl _) (some rb)) (fun x hx => .inl hx)
        clear hO3 hr3 hG3 hB4 hO4 hO5 hg5 hB35
        refine (spec_clear _ _ 0 _ _ t (ys ++ [(q : Int)]) HC5 hI5 (fun i hi => HYI.out _ (getD_in hi))).mono ?_; rintro e w6 ⟨rfl, hB6⟩
        have hO6 := hO35.below hB6 (Nat.le_refl _)
        have hr6 := hr5.below hB6 hr5.lt
        have hG6 := grownBy_trans hG5 (grownBy_of_below hB6 (Nat.le_refl _) (some rb)) (fun x hx => .inl hx)
        have hz6 := hG6.size
        clear hO35 hr5 hG5 hB6 hI5 HC5
        cases hap : apartB t (ys ++ [(q : Int)])
        · clear hap
          go_wp2_with fail
          go_roundw
          case rel => exact ⟨k + 1, ys, _, by omega, by go_num, hO6, by omega, HY, by omega, hr6, hG6⟩
          case measure => simp [intOf]; omega
        · clear hap
          go_wp2_with (at_builtin; refine wpList_append_one _ rfl _ _ 27 rfl 3 (.int .i64 0) 8 Try.underlying27 info_int rfl w1.heap.size _ _ _ rfl hO6 _ _ rfl rfl (by omega) (by omega) hz6 ?_; intro v7 w7 hO7 hg7 _)
          have hr7 := hr6.grown hg7 (wblk_le hO6 hrb1)
          have hG7 := grownBy_trans hG6 hg7 (fun q hq => .inr (hO6.wblk hq).1)
          have hO7' : Own w7 w1.heap.size 3 1 v7 (ys ++ [(q : Int)]).length ((ys ++ [(q : Int)]).map (.int .i64)) := by simpa using hO7
          clear hO6 hO7 hr6 hG6 hg7
          go_roundw
          case rel => exact ⟨k + 1, ys ++ [(q : Int)], _, by omega, by go_num, hO7', by simp; omega, HYI, by omega, hr7, hG7⟩
          case measure => simp [intOf]; omega
      · have d0 : decide (0 < x) = false := decide_eq_false hx0'
        clear hx0'
        go_wp2_with fail
        go_roundw
        case rel => exact ⟨k + 1, ys, _, by omega, by go_num, hO3, by omega, HY, by omega, hr3, hG3⟩
        case measure => simp [intOf]; omega
    · have hT := grownBy_trans HG1.out hG (fun x hx => .inl hx)
      have hzT := hT.size
      go_wp2_with fail
      go_at_call 129
      refine (sorted_any _ _ ys (hO.ints rfl) (by omega)).mono ?_; rintro e w8 ⟨v8, zs, rfl, hO8, hzl, hzin, hB8⟩
      have hr8 := hr.below hB8 hr.lt
      have HF : Hid (Own w8 w.heap.size 3 1 v8 zs.length (zs.map (.int .i64)) ∧ zs.length ≤ 8 ∧ tame zs ∧ Rdh hi w8 rb p' ∧ w.grownBy w8 (some rb)) :=
        ⟨hO8.mono hzT, by omega, fun z hz => by have := HY.out z (hzin z hz); omega, hr8, grownBy_trans hT (grownBy_of_below hB8 (Nat.le_refl _) (some rb)) (fun x hx => .inl hx)⟩
      clear hO8 hzin hB8 hO hr hG hT
      go_wp2_with fail
      go_ret
      exact ⟨_, zs, p', rfl, HF.out.1, HF.out.2.1, HF.out.2.2.1, by omega, HF.out.2.2.2.1, HF.out.2.2.2.2⟩
end Go.Proofs.Ytokpgipbgkiepaa
