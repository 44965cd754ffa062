/- Draws of plans: randomPlan. -/
import Derived.Test.YtokpgipbgkiepaaDrP3
namespace Go.Proofs.Ytokpgipbgkiepaa
open Go.RowKit
set_option linter.unusedVariables false
set_option linter.unusedSimpArgs false

theorem stgCells_snoc {hs : List Value} {ss : List Stg} (hl : hs.length = ss.length) (u : Value) (s : Stg) : stgCells (hs ++ [u]) (ss ++ [s]) = stgCells hs ss ++ [u, .int .i64 s.gr] := by
  unfold stgCells
  rw [List.length_append, List.length_singleton, List.range_succ, List.flatMap_append]
  congr 1
  · unfold List.flatMap
    congr 1
    apply List.map_congr_left
    intro i hi
    have hi' := List.mem_range.1 hi
    rw [getD_snoc_lt (by omega)]
    simp [List.getD_eq_getElem?_getD, List.getElem?_append_left hi']
  · simp [List.getD_eq_getElem?_getD, ← hl]
theorem phsOf_snoc_lt {ss : List Stg} {s : Stg} {j : Nat} (h : j < ss.length) : (phsOf (ss ++ [s])).getD j [] = (phsOf ss).getD j [] := by
  unfold phsOf
  rw [List.map_append]
  simp [List.getD_eq_getElem?_getD, List.getElem?_append_left (show j < (ss.map Stg.ph).length by simpa using h), h]
theorem phsOf_snoc_eq (ss : List Stg) (s : Stg) : (phsOf (ss ++ [s])).getD ss.length [] = s.ph := by
  simp [phsOf, List.getD_eq_getElem?_getD]
theorem RowsO.cong {w : World} {lo : Nat} {hs : List Value} {t t' : List (List Int)} {k : Nat} (h : RowsO w lo hs t k) (ht : ∀ j, j < k → t'.getD j [] = t.getD j []) : RowsO w lo hs t' k :=
  ⟨h.1, fun j hj => by rw [ht j hj]; exact h.2.1 j hj, h.2.2⟩

theorem RowsO.snoc2 {w : World} {lo B : Nat} {hs : List Value} {t : List (List Int)} {k : Nat} {u : Value} (h : RowsO w lo hs t k) (hlt : ∀ j, j < k → ∀ q, wblk (hs.getD j .nilFunc) = some q → q < B) (hO : Own w B 3 1 u (t.getD k []).length ((t.getD k []).map (.int .i64))) (hlo : lo ≤ B) :
    RowsO w lo (hs ++ [u]) t (k + 1) := by
  have old : ∀ j, j < k → (hs ++ [u]).getD j .nilFunc = hs.getD j .nilFunc := fun j hj => getD_snoc_lt (by rw [h.1]; exact hj)
  have new : (hs ++ [u]).getD k .nilFunc = u := by rw [← h.1]; exact getD_snoc_eq hs u
  refine ⟨by simp [h.1], fun j hj => ?_, fun i j hi hj hij => ?_⟩
  · by_cases e : j = k
    · subst e; rw [new]; exact hO.mono hlo
    · rw [old j (by omega)]; exact h.2.1 j (by omega)
  · have key : ∀ j, j < k → Apart u (hs.getD j .nilFunc) := fun j hj q hq hq' => by
      have := (hO.wblk hq).1; have := hlt j hj q hq'; omega
    by_cases ei : i = k
    · subst ei; rw [new, old j (by omega)]; exact key j (by omega)
    · by_cases ej : j = k
      · subst ej; rw [new, old i (by omega)]; exact (key i (by omega)).symm
      · rw [old i (by omega), old j (by omega)]; exact h.2.2 i j (by omega) (by omega) hij
theorem IntSS.grown {w w' : World} {lo : Nat} {v : Value} {t : List (List Int)} {row : Option Nat} (h : IntSS w lo v t) (hg : w.grownBy w' row) (hr : ∀ q, row = some q → q < lo) : IntSS w' lo v t := by
  obtain ⟨hs, h1, h2⟩ := h
  exact ⟨hs, h1.grown hg (fun q hq => .inl (hr q hq)) (by decide), fun i hi => Rd.grown (h2 i hi) hg (fun q hq => .inl (hr q hq)) (by decide)⟩
theorem StgS.grown {w w' : World} {lo : Nat} {v : Value} {t : List Stg} {row : Option Nat} (h : StgS w lo v t) (hg : w.grownBy w' row) (hr : ∀ q, row = some q → q < lo) : StgS w' lo v t := by
  obtain ⟨hs, h1, h2⟩ := h
  exact ⟨hs, h1.grown hg (fun q hq => .inl (hr q hq)) (by decide), fun i hi => Rd.grown (h2 i hi) hg (fun q hq => .inl (hr q hq)) (by decide)⟩
theorem PlanR.grown {w w' : World} {lo : Nat} {v : Value} {p : Pln} {row : Option Nat} (h : PlanR w lo v p) (hg : w.grownBy w' row) (hr : ∀ q, row = some q → q < lo) : PlanR w' lo v p := by
  obtain ⟨vc, vs, e, h1, h2⟩ := h; exact ⟨vc, vs, e, h1.grown hg hr, h2.grown hg hr⟩

/-- append of one stage, which lies in the block made just before. -/
theorem wpList_append_stg {P : Program} (w : World) {ops : Array Oper} {rest : List Oper} {o : Oper} {a : Act} {Q : Exit → Act → World → Prop} (hgd : o.guard = none) (s x : Operand) (t : TypeId)
    (ho : o.op = .call { callee := .builtin .append, args := #[s, x], argTypes := #[t, t] })
    (e : TypeId) (ht : P.underlying t = some (.slice e)) (hi : (P.info? e).map (fun i => (i.zero, i.size, i.bytes)) = some (some (.agg #[.slice none 0 0, .int .i64 0]), 2, 32))
    (lo : Nat) (v : Value) (n : Nat) (cs : List Value) (hs : a.eval s = v) (hown : Own w lo e 2 v n cs)
    (u g : Value) (t' : TypeId) (H : Nat) (hxe : a.eval x = .slice (some ⟨H, 0, none⟩) 1 1) (hH : w.heap.size = H) (h1 : u.oneCell' = true) (h2 : g.oneCell' = true)
    (h63 : n + 1 ≤ 9223372036854775807) (hbytes : (n + 1) * 32 ≤ 140737488355328) (hbase : lo ≤ w.heap.size)
    (h : ∀ v' w', Own w' lo e 2 v' (n + 1) (cs ++ [u, g]) → w.grownBy w' (wblk v) → (∀ k, wblk v' = some k → wblk v = some k ∨ w.heap.size ≤ k) → wpList P ops Q rest (a.put o.dst v') w') :
    wpList P ops Q (o :: rest) a (w.alloc (.cells #[u, g] t')) := by
  subst hH
  refine wpList_append_Own _ hgd s x t ho e _ 2 32 ht hi rfl (by omega) lo v n cs hs (hown.alloc _) _ 0 1 [u, g] hxe (Rd.made w [u, g] t' 0 2 1 rfl (Nat.zero_le _) (by decide)) (by intro q hq; simp at hq; rcases hq with rfl | rfl <;> assumption) (by unfold maxLen; omega) hbytes (by simp; omega) ?_
  intro v' w' ho' hg hk
  have hga := World.grownBy_alloc w (.cells #[u, g] t') none
  refine h v' w' ho' ?_ ?_
  · exact grownBy_trans (row := wblk v) ⟨hga.os, hga.tape, hga.output, hga.size, fun k hk _ => hga.block k hk (fun e => by cases e)⟩ hg (fun x hx => .inl hx)
  · intro k hk'
    rcases hk k hk' with h | h
    · exact .inl h
    · right; simp at h; omega

def PlanDraw (w : World) (hi rb p : Nat) (vt : Value) (e : Ending) (w' : World) : Prop :=
  ∃ vs ss p', e = .returned (.agg #[vt, vs]) ∧ OwnStg w' w.heap.size vs ss ∧ (1 ≤ ss.length ∧ ss.length ≤ 5 ∧ ∀ i, i < ss.length → (ss.getD i s0).ph.length ≤ 9) ∧ p' ≤ p + 200 ∧ Rdh hi w' rb p' ∧ w.grownBy w' (some rb)

set_option maxHeartbeats 8000000 in
theorem randomPlan_any {hi : Nat} (w : World) (rb p : Nat) (lo : Nat) (v : Value) (t : List (List Int)) (hr : Rdh hi w rb p) (hp : p ≤ 1000000 - 200) (hv : IntSS w lo v t) (hlo : rb < lo) (hval : validCl t = true) :
    Calls Try.prog 101 #[.pointer (some ⟨rb, 0, none⟩), v] w (PlanDraw w hi rb p v) := by
  have hrb := hr.lt
  have HVAL := Lib.hid hval
  obtain ⟨ao, cap, rfl, hcap, hm⟩ := hv.form
  have HV := Lib.hid hv
  obtain ⟨w1, hw1⟩ : ∃ x, x = w.alloc (.cells #[.slice none 0 0, .slice none 0 0] 26) := ⟨_, rfl⟩
  have hX1 := Own.made w [.slice none 0 0, .slice none 0 0] 26 w.heap.size 2 1 rfl (Nat.le_refl _) (by decide)
  have hB1 : Below w.heap.size w w1 := by rw [hw1]; exact (Below.refl _ _).alloc (Nat.le_refl _) _
  have hs1 : w1.heap.size = w.heap.size + 1 := by rw [hw1]; simp
  obtain ⟨w2, hw2⟩ : ∃ x, x = w1.alloc (.cells #[.slice ao t.length cap, .slice none 0 0] 26) := ⟨_, rfl⟩
  have hX2 := Own.made w1 [.slice ao t.length cap, .slice none 0 0] 26 w.heap.size 2 1 rfl (by omega) (by decide)
  have hB2 : Below w1.heap.size w1 w2 := by rw [hw2]; exact (Below.refl _ _).alloc (Nat.le_refl _) _
  have hs2 : w2.heap.size = w.heap.size + 2 := by rw [hw2]; simp [hs1]
  obtain ⟨w3, hw3⟩ : ∃ x, x = w2.alloc (.cells #[] 34) := ⟨_, rfl⟩
  have hB3 : Below w2.heap.size w2 w3 := by rw [hw3]; exact (Below.refl _ _).alloc (Nat.le_refl _) _
  have hs3 : w3.heap.size = w.heap.size + 3 := by rw [hw3]; simp [hs2]
  have hT2 := hB1.trans (hB2.mono hB1.size)
  have hT3 := hT2.trans (hB3.mono hT2.size)
  rw [show (w.alloc (Obj.cells [Value.slice none 0 0, Value.slice none 0 0].toArray 26)) = w1 from hw1.symm] at hX1
  rw [show (w1.alloc (Obj.cells [Value.slice ao t.length cap, Value.slice none 0 0].toArray 26)) = w2 from hw2.symm, hs1] at hX2
  have hY1 := (hX1.below hB2 (Nat.le_refl _)).below hB3 (Nat.le_refl _)
  have hY2 := hX2.below hB3 (Nat.le_refl _)
  have hr3 := hr.below hT3 hrb
  have HY1 := Lib.hid hY1
  have HY2 := Lib.hid hY2
  have HT3 := Lib.hid hT3
  have HV3 := Lib.hid (HV.out.below hT3 (Nat.le_refl _))
  have HW1 := Lib.hid hw1
  have HW2 := Lib.hid hw2
  have HW3 := Lib.hid hw3
  have HS3 := Lib.hid hs3
  clear hX1 hX2 hB1 hB2 hB3 hT2 hT3 hs1 hs2 hs3 hw1 hw2 hw3 hY1 hY2 hv hval hr
  go_enter Try.func101, Try.ntmps101
  go_wp2_with fail
  rw [← HW1.out, ← HW2.out, ← HW3.out]
  clear HW1 HW2 HW3
  have hone := one_LR w3 rb p [2, 3, 2, 4, 1, 5] 3 6 rfl hr3 (by omega) (by omega) (by omega)
  rw [HS3.out] at hone
  refine hone.mono ?_; rintro e w4 ⟨x, rfl, hx, hr4, hg4⟩
  have hx' := hx.out
  simp at hx'
  obtain ⟨N, rfl⟩ : ∃ m : Nat, x = m := ⟨x.toNat, by omega⟩
  have hN1 : 1 ≤ N := by omega
  have hN5 : N ≤ 5 := by omega
  have hO4 : Own w4 (w.heap.size + 3) 34 2 (.slice (some ⟨w.heap.size + 2, 0, none⟩) 0 0) ([] : List Stg).length (stgCells [] []) := .inr ⟨rfl, rfl, _, rfl⟩
  clear hone hx hx' hr3
  go_wp2_with fail
  go_loopw [6, 7] (fun sv i wo => ∃ m : Nat, ∃ ss : List Stg, ∃ hs p', i = .int .i64 m ∧ Own wo (w.heap.size + 3) 34 2 sv ss.length (stgCells hs ss) ∧ Hid (RowsO wo (w.heap.size + 3) hs (phsOf ss) ss.length ∧ (∀ j, j < ss.length → Apart sv (hs.getD j .nilFunc)) ∧ ∀ i, i < ss.length → (ss.getD i s0).ph.length ≤ 9) ∧ ss.length + m = N ∧ p' ≤ p + 1 + 21 * ss.length ∧ Rdh hi wo rb p' ∧ w3.grownBy wo (some rb)) (fun _ i _ => (intOf i).toNat)
  case atStart => exact ⟨N, [], [], p + 1, rfl, hO4, ⟨RowsO.nil _ _ _, fun j hj => absurd hj (Nat.not_lt_zero _), fun j hj => absurd hj (Nat.not_lt_zero _)⟩, by simp, by simp, hr4, hg4⟩
  case round =>
    clear hO4 hr4 hg4
    obtain ⟨m, ss, hs, p', rfl, hO, HR, hN, hp', hr, hG⟩ := hrel
    have hsz := hG.size
    rw [HS3.out] at hsz
    by_cases hm0 : 0 < m
    · have d0 : decide (0 < m) = true := decide_eq_true hm0
      have d0i : decide ((0 : Int) < (m : Int)) = true := decide_eq_true (by omega)
      have hm1 : (m : Int) - 1 = ((m - 1 : Nat) : Int) := by omega
      have HM1 := Lib.hid hm1
      have wr1 : IntKind.i64.wrap ((m : Int) - 1) = (m : Int) - 1 := IntWalk.i64_in _ (by omega)
      have HG := Lib.hid hG
      have HO := Lib.hid hO
      clear hm1 hG hO
      go_wp2_with fail
      go_at_call 120
      refine (randomPhase_any _ rb p' lo _ t hr (by omega) (HV3.out.grown HG.out (fun q hq => by cases hq; exact hlo)) hlo HVAL.out).mono ?_; rintro e w5 ⟨v5, ys, p5, rfl, hO5, hl5, _, hp5, hr5, hg5⟩
      obtain ⟨a5, c5, rfl, _, _⟩ := hO5.form
      have HO5 := Lib.hid hO5
      have HG5 := Lib.hid hg5
      clear hr hO5 hg5
      go_wp2_with fail
      go_at_call 53
      refine (pick_h _ _ _ 9 hr5 (by omega) (by omega)).mono ?_; rintro e w6 ⟨y, rfl, ⟨hy0, hy1, hy2⟩, hr6, hg6⟩
      have hy3 := hy1 (by omega)
      have wr2 : IntKind.i64.wrap (5 + y) = 5 + y := IntWalk.i64_in _ (by omega)
      have hg56 : wr.grownBy w6 (some rb) := grownBy_trans HG5.out hg6 (fun x hx => .inl hx)
      have hO6 := HO.out.grown hg56 (fun q hq => .inl (by cases hq; omega))
      have hR6 := (HR.out.1.grown hg56 (fun q hq => .inl (by cases hq; omega))).cong (t' := phsOf (ss ++ [⟨ys, 5 + y⟩])) (fun j hj => phsOf_snoc_lt hj)
      have hU6 : Own w6 wr.heap.size 3 1 (.slice a5 ys.length c5) ((phsOf (ss ++ [⟨ys, 5 + y⟩])).getD ss.length []).length (((phsOf (ss ++ [⟨ys, 5 + y⟩])).getD ss.length []).map (.int .i64)) := by
        rw [phsOf_snoc_eq]; exact HO5.out.grown hg6 (fun q hq => .inl (by cases hq; omega))
      have hR7 := hR6.snoc2 (fun j hj q hq => (HR.out.1.lt hj hq).2) hU6 hsz
      have hA7 : ∀ j, j < ss.length + 1 → Apart u6 ((hs ++ [Value.slice a5 ys.length c5]).getD j .nilFunc) := by
        intro j hj
        by_cases e : j = ss.length
        · subst e
          rw [← HR.out.1.1, getD_snoc_eq]
          intro q hq hq'
          have := (HO.out.wblk hq).2; have := (hU6.wblk hq').1; omega
        · rw [getD_snoc_lt (by rw [HR.out.1.1]; omega)]; exact HR.out.2.1 j (by omega)
      have hz6 : w.heap.size + 3 ≤ w6.heap.size := Nat.le_trans hsz hg56.size
      have HR7 := Lib.hid hR7
      have HA7 := Lib.hid hA7
      have HG6 := Lib.hid (grownBy_trans HG.out hg56 (fun x hx => .inl hx))
      clear hy1 hr5 hg6 hg56 hR6 hU6 hR7 hA7 HO5 HG5 HO HG
      go_wp2_with (at_builtin; refine wpList_append_stg _ rfl _ _ 24 rfl 34 Try.underlying24 info_stg (w.heap.size + 3) _ _ _ rfl hO6 _ _ _ w6.heap.size rfl rfl rfl rfl (by omega) (by omega) hz6 ?_; intro v' w7 hO7 hg7 hk7)
      have hR8 := HR7.out.grown hg7 (fun q hq => .inr (fun j hj e => HA7.out j hj q hq e))
      have hA8 : ∀ j, j < ss.length + 1 → Apart v' ((hs ++ [Value.slice a5 ys.length c5]).getD j .nilFunc) := by
        intro j hj q hq hq'
        rcases hk7 q hq with h | h
        · exact HA7.out j hj q h hq'
        · have := (HR7.out.lt hj hq').2; omega
      have hO8 : Own w7 (w.heap.size + 3) 34 2 v' (ss ++ [(⟨ys, 5 + y⟩ : Stg)]).length (stgCells (hs ++ [Value.slice a5 ys.length c5]) (ss ++ [(⟨ys, 5 + y⟩ : Stg)])) := by
        rw [stgCells_snoc HR.out.1.1]; simpa using hO7
      have HF : Hid (RowsO w7 (w.heap.size + 3) (hs ++ [Value.slice a5 ys.length c5]) (phsOf (ss ++ [(⟨ys, 5 + y⟩ : Stg)])) (ss ++ [(⟨ys, 5 + y⟩ : Stg)]).length ∧ (∀ j, j < (ss ++ [(⟨ys, 5 + y⟩ : Stg)]).length → Apart v' ((hs ++ [Value.slice a5 ys.length c5]).getD j .nilFunc)) ∧ ∀ i, i < (ss ++ [(⟨ys, 5 + y⟩ : Stg)]).length → ((ss ++ [(⟨ys, 5 + y⟩ : Stg)]).getD i s0).ph.length ≤ 9) := by
        refine ⟨by simpa using hR8, fun j hj => hA8 j (by simpa using hj), fun i hi => ?_⟩
        by_cases e : i = ss.length
        · subst e; simp [List.getD_eq_getElem?_getD]; omega
        · have hi' : i < ss.length := by simp at hi; omega
          have := HR.out.2.2 i hi'
          simpa [List.getD_eq_getElem?_getD, List.getElem?_append_left hi'] using this
      have hr7 := hr6.grown hg7 (wblk_le hO6 (by omega))
      have hG7 := grownBy_trans HG6.out hg7 (fun q hq => .inr (by rw [HS3.out]; exact (hO6.wblk hq).1))
      clear hO6 hO7 hg7 hk7 hR8 hA8 hr6
      go_roundw
      case rel => exact ⟨m - 1, ss ++ [(⟨ys, 5 + y⟩ : Stg)], _, p5 + 1, by rw [HM1.out], hO8, HF, by simp; omega, by simp; omega, hr7, hG7⟩
      case measure => simp [intOf]; omega
    · obtain rfl : m = 0 := by omega
      have d0 : decide ((0 : Nat) < 0) = false := by decide
      have d0i : decide ((0 : Int) < ((0 : Nat) : Int)) = false := by decide
      have d0j : decide ((0 : Int) < 0) = false := by decide
      obtain ⟨a9, c9, rfl, _, _⟩ := hO.form
      have hY1 : Own wr w.heap.size _ 2 (.slice (some ⟨w.heap.size, 0, none⟩) 1 1) 1 _ := HY1.out.grown hG (fun q hq => .inl (by cases hq; exact hrb))
      have hY2 : Own wr w.heap.size _ 2 (.slice (some ⟨w.heap.size + 1, 0, none⟩) 1 1) 1 _ := HY2.out.grown hG (fun q hq => .inl (by cases hq; exact hrb))
      obtain ⟨_, e1, _, z1, p1, f1, _⟩ := hY1.parts (by omega)
      cases e1
      obtain ⟨_, e1, _, z2, p2, f2, _⟩ := hY2.parts (by omega)
      cases e1
      have q10 := p1 0 (by simp)
      have q11 := p1 1 (by simp)
      have q20 := p2 0 (by simp)
      have q21 := p2 1 (by simp)
      have r10 := f1 0
      have r11 := f1 1
      have r20 := f2 0
      have r21 := f2 1
      simp only [List.getElem_cons_zero, List.getElem_cons_succ] at q10 q11 q20 q21
      have HF0 : Hid (Own wr (w.heap.size + 3) 34 2 (.slice a9 ss.length c9) ss.length (stgCells hs ss) ∧ Rdh hi wr rb p' ∧ w.grownBy wr (some rb)) := ⟨hO, hr, grownBy_trans (grownBy_of_below HT3.out (Nat.le_refl _) (some rb)) hG (fun x hx => .inl hx)⟩
      have HF : Hid (∀ u1 u2 u3 : Value, OwnStg (((wr.setCell ⟨w.heap.size + 1, 1, none⟩ u1).setCell ⟨w.heap.size, 0, none⟩ u2).setCell ⟨w.heap.size, 1, none⟩ u3) w.heap.size (.slice a9 ss.length c9) ss ∧ Rdh hi (((wr.setCell ⟨w.heap.size + 1, 1, none⟩ u1).setCell ⟨w.heap.size, 0, none⟩ u2).setCell ⟨w.heap.size, 1, none⟩ u3) rb p' ∧
          w.grownBy (((wr.setCell ⟨w.heap.size + 1, 1, none⟩ u1).setCell ⟨w.heap.size, 0, none⟩ u2).setCell ⟨w.heap.size, 1, none⟩ u3) (some rb)) := by
        intro u1 u2 u3
        have one : ∀ (W : World) (b o : Nat) (u : Value), b < w.heap.size + 3 → w.heap.size ≤ b → (OwnStg W (w.heap.size + 3) (.slice a9 ss.length c9) ss ∧ Rdh hi W rb p' ∧ w.grownBy W (some rb)) →
            (OwnStg (W.setCell ⟨b, o, none⟩ u) (w.heap.size + 3) (.slice a9 ss.length c9) ss ∧ Rdh hi (W.setCell ⟨b, o, none⟩ u) rb p' ∧ w.grownBy (W.setCell ⟨b, o, none⟩ u) (some rb)) := by
          intro W b o u h1 h2 ⟨h3, h4, h5⟩
          have hg : W.grownBy (W.setCell ⟨b, o, none⟩ u) (some b) := cell_grown (b' := b) u o
          exact ⟨h3.grown hg (fun k hk => by cases hk; exact h1), h4.grown hg (fun k hk => by cases hk; omega), grownBy_trans h5 hg (fun q hq => .inr (by cases hq; exact h2))⟩
        have hstart : OwnStg wr (w.heap.size + 3) (.slice a9 ss.length c9) ss := ⟨hs, HF0.out.1, HR.out.1, HR.out.2.1⟩
        have := one _ w.heap.size 1 u3 (by omega) (by omega) (one _ w.heap.size 0 u2 (by omega) (by omega) (one _ (w.heap.size + 1) 1 u1 (by omega) (by omega) ⟨hstart, HF0.out.2⟩))
        exact ⟨this.1.mono (by omega), this.2.1, this.2.2⟩
      have hne1 : w.heap.size + 1 ≠ w.heap.size := by omega
      clear p1 p2 f1 f2 hY1 hY2 HY1 HY2 hO hr hG
      go_wp2_with fail
      refine bodyPost_ret (v := .agg #[.slice ao t.length cap, .slice a9 ss.length c9]) (by simp [results, Try.results101, go_sem, q10, q11, q20, q21, r10, r11, r20, r21]) rfl ?_
      exact ⟨_, ss, p', rfl, (HF.out _ _ _).1, ⟨by omega, by omega, HR.out.2.2⟩, by omega, (HF.out _ _ _).2.1, (HF.out _ _ _).2.2⟩
end Go.Proofs.Ytokpgipbgkiepaa
