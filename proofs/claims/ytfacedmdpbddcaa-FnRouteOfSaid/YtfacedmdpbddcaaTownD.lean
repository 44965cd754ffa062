/- The draws of towns. -/
import Derived.Test.YtfacedmdpbddcaaTown2
import Derived.Test.YtfacedmdpbddcaaRdB
import Derived.ProofKit
import Derived.Deep.RegionHeld3
import Derived.Deep.AppendLies
namespace Go.Proofs.Ytfacedmdpbddcaa
open Go.RowKit
set_option linter.unusedVariables false
set_option linter.unusedSimpArgs false

theorem set_flatR (e : Rod) : ∀ (es : List Rod) (j : Nat), (((es.flatMap rodCells).set (j * 3) (.int .i64 e.f)).set (j * 3 + 1) (.int .i64 e.t)).set (j * 3 + 2) (.int .i64 e.c) = (es.set j e).flatMap rodCells := by
  intro es
  induction es with
  | nil => intro j; simp
  | cons x r ih =>
    intro j
    cases j with
    | zero => simp [rodCells, List.flatMap_cons]
    | succ j =>
      have e1 : (j + 1) * 3 = j * 3 + 1 + 1 + 1 := by omega
      have e3 : j * 3 + 1 + 1 + 1 + 2 = j * 3 + 2 + 1 + 1 + 1 := by omega
      rw [e1, e3]
      have := ih j
      simp only [List.flatMap_cons, rodCells, List.cons_append, List.nil_append, List.set_cons_succ] at this ⊢
      rw [← this]

theorem wpList_append_rod {P : Program} (w : World) {ops : Array Oper} {rest : List Oper} {o : Oper} {a : Act} {Q : Exit → Act → World → Prop} (hgd : o.guard = none) (s x : Operand) (t : TypeId)
    (ho : o.op = .call { callee := .builtin .append, args := #[s, x], argTypes := #[t, t] })
    (e : TypeId) (ht : P.underlying t = some (.slice e)) (hi : (P.info? e).map (fun i => (i.zero, i.size, i.bytes)) = some (some (.agg #[.int .i64 0, .int .i64 0, .int .i64 0]), 3, 24))
    (lo : Nat) (v : Value) (es : List Rod) (hs : a.eval s = v) (hown : Own w lo e 3 v es.length (es.flatMap rodCells))
    (t0 u0 s0 : Int) (t' : TypeId) (hxe : a.eval x = .slice (some ⟨w.heap.size, 0, none⟩) 1 1)
    (h63 : es.length + 1 ≤ 9223372036854775807) (hbytes : (es.length + 1) * 24 ≤ 140737488355328) (hbase : lo ≤ w.heap.size)
    (h : ∀ v' w', Own w' lo e 3 v' (es ++ [(⟨t0, u0, s0⟩ : Rod)]).length ((es ++ [(⟨t0, u0, s0⟩ : Rod)]).flatMap rodCells) → w.grownBy w' (wblk v) → (∀ k, wblk v' = some k → wblk v = some k ∨ w.heap.size ≤ k) → wpList P ops Q rest (a.put o.dst v') w') :
    wpList P ops Q (o :: rest) a (w.alloc (.cells #[.int .i64 t0, .int .i64 u0, .int .i64 s0] t')) := by
  refine wpList_append_Own _ hgd s x t ho e _ 3 24 ht hi rfl (by omega) lo v es.length _ hs (hown.alloc _) _ 0 1 [.int .i64 t0, .int .i64 u0, .int .i64 s0] hxe (Rd.made w [.int .i64 t0, .int .i64 u0, .int .i64 s0] t' 0 3 1 rfl (Nat.zero_le _) (by decide)) (by intro u hu; simp at hu; rcases hu with rfl | rfl | rfl <;> rfl) (by unfold maxLen; omega) hbytes (by simp; omega) ?_
  intro v' w' ho' hg hk
  have hga := World.grownBy_alloc w (.cells #[.int .i64 t0, .int .i64 u0, .int .i64 s0] t') none
  refine h v' w' (by simpa [rodCells] using ho') ?_ ?_
  · exact grownBy_trans (row := wblk v) ⟨hga.os, hga.tape, hga.output, hga.size, fun k hk _ => hga.block k hk (fun e => by cases e)⟩ hg (fun x hx => .inl hx)
  · intro k hk'
    rcases hk k hk' with h | h
    · exact .inl h
    · right; simp at h; omega

section
variable {P : Program} {w : World}
theorem step_append_OwnG {ops : Array Oper} {o : Oper} {a : Act} {K : Act → World → Prop} {Q : Exit → Act → World → Prop} {E : Prop} (hw : Region.wanted o (yielded ops a.tmps) = true) (s x : Operand) (t : TypeId)
    (ho : o.op = .call { callee := .builtin .append, args := #[s, x], argTypes := #[t, t] })
    (e : TypeId) (z : Value) (sz bytes : Nat) (ht : P.underlying t = some (.slice e)) (hi : (P.info? e).map (fun i => (i.zero, i.size, i.bytes)) = some (some z, sz, bytes))
    (hzs : z.cells.size = sz) (hsz : 0 < sz)
    (lo : Nat) (v : Value) (n : Nat) (cs : List Value) (hs : a.eval s = v) (hown : Own w lo e sz v n cs)
    (xv : Value) (lo' m : Nat) (news : List Value) (hxe : a.eval x = xv) (hx : Rd w lo' xv sz m news) (h1 : ∀ u ∈ news, u.oneCell' = true)
    (h63 : n + m ≤ maxLen) (hbytes : (n + m) * bytes ≤ 140737488355328) (hbase : lo ≤ w.heap.size)
    (h : ∀ v' w', Own w' lo e sz v' (n + m) (cs ++ news) → w.grownBy w' (wblk v) → (∀ k, wblk v' = some k → wblk v = some k ∨ w.heap.size ≤ k) → K (a.put o.dst v') w') :
    if Region.wanted o (yielded ops a.tmps) = true then Oper.wp P o a w K Q else E := by
  rw [if_pos hw]
  obtain ⟨i, hi1, hz, hsize, hby⟩ := info_parts hi
  obtain ⟨v', w', hr, h2, h3, h4⟩ := run_append_Own (P := P) w lo t o.type e i z sz bytes ht hi1 hz hsize hby hzs hsz v n cs hown xv lo' m news hx h1 h63 hbytes hbase
  unfold Oper.wp execOp
  simp only [ho, resolve, invoke, builtin, Sem.run_bind, Sem.run_pure, Result.andThen_ok, List.map_toArray, List.map_cons, List.map_nil, hs, hxe, hr]
  exact h v' w' h2 h3 h4

end
theorem step_append_rod {P : Program} (w : World) {ops : Array Oper} {o : Oper} {a : Act} {K : Act → World → Prop} {Q : Exit → Act → World → Prop} {E : Prop} (hw : Region.wanted o (yielded ops a.tmps) = true) (s x : Operand) (t : TypeId)
    (ho : o.op = .call { callee := .builtin .append, args := #[s, x], argTypes := #[t, t] })
    (e : TypeId) (ht : P.underlying t = some (.slice e)) (hi : (P.info? e).map (fun i => (i.zero, i.size, i.bytes)) = some (some (.agg #[.int .i64 0, .int .i64 0, .int .i64 0]), 3, 24))
    (lo : Nat) (v : Value) (es : List Rod) (hs : a.eval s = v) (hown : Own w lo e 3 v es.length (es.flatMap rodCells))
    (t0 u0 s0 : Int) (t' : TypeId) (hxe : a.eval x = .slice (some ⟨w.heap.size, 0, none⟩) 1 1)
    (h63 : es.length + 1 ≤ 9223372036854775807) (hbytes : (es.length + 1) * 24 ≤ 140737488355328) (hbase : lo ≤ w.heap.size)
    (h : ∀ v' w', Own w' lo e 3 v' (es ++ [(⟨t0, u0, s0⟩ : Rod)]).length ((es ++ [(⟨t0, u0, s0⟩ : Rod)]).flatMap rodCells) → w.grownBy w' (wblk v) → (∀ k, wblk v' = some k → wblk v = some k ∨ w.heap.size ≤ k) → K (a.put o.dst v') w') :
    if Region.wanted o (yielded ops a.tmps) = true then Oper.wp P o a (w.alloc (.cells #[.int .i64 t0, .int .i64 u0, .int .i64 s0] t')) K Q else E := by
  refine step_append_OwnG hw s x t ho e _ 3 24 ht hi rfl (by omega) lo v es.length _ hs (hown.alloc _) _ 0 1 [.int .i64 t0, .int .i64 u0, .int .i64 s0] hxe (Rd.made w [.int .i64 t0, .int .i64 u0, .int .i64 s0] t' 0 3 1 rfl (Nat.zero_le _) (by decide)) (by intro u hu; simp at hu; rcases hu with rfl | rfl | rfl <;> rfl) (by unfold maxLen; omega) hbytes (by simp; omega) ?_
  intro v' w' ho' hg hk
  have hga := World.grownBy_alloc w (.cells #[.int .i64 t0, .int .i64 u0, .int .i64 s0] t') none
  refine h v' w' (by simpa [rodCells] using ho') ?_ ?_
  · exact grownBy_trans (row := wblk v) ⟨hga.os, hga.tape, hga.output, hga.size, fun k hk _ => hga.block k hk (fun e => by cases e)⟩ hg (fun x hx => .inl hx)
  · intro k hk'
    rcases hk k hk' with h | h
    · exact .inl h
    · right; simp at h; omega


def DrawnRoads (w : World) (hi rb p : Nat) (e : Ending) (w' : World) : Prop :=
  ∃ n : Int, ∃ v, ∃ rs : List Rod, ∃ p', e = .returned (.tuple #[.int .i64 n, v]) ∧ Rods w' w.heap.size v rs ∧ rs.length ≤ 24 ∧ (0 ≤ n ∧ n ≤ 9) ∧ p' ≤ p + 1000 ∧ RdB w' hi rb p' ∧ w.grownBy w' (some rb)

set_option maxHeartbeats 4000000 in
theorem anyRoads_B (w : World) (hi rb p : Nat) (hr : RdB w hi rb p) (hp : p ≤ 1000000) :
    Calls Try.prog 32 #[.pointer (some ⟨rb, 0, none⟩)] w (DrawnRoads w hi rb p) := by
  have hlt := hr.lt
  go_enter Try.func32, Try.ntmps32
  go_wp2_with fail
  go_at_call 35
  refine (one_L w hi rb p [4, 5, 6, 3, 2, 1, 8] _ 7 rfl hr (by omega) (by omega) (by omega)).mono ?_; rintro e w1 ⟨n, rfl, hx, hr1, hG1⟩
  have hx' := hx.out
  simp at hx'
  have hn : 1 ≤ n ∧ n ≤ 8 := by omega
  obtain ⟨hn1, hn2⟩ := hn
  have hlt1 := hr1.lt
  have hsz1 := hG1.size
  clear hx hx' hr
  have hO := Own.made w1 [] 39 w.heap.size 3 0 rfl hsz1 (by decide)
  have hr2 : ∀ o, RdB ((w1.alloc (.cells #[] 39)).alloc o) hi rb (p + 1) := fun o => (hr1.alloc _).alloc o
  have hG2 := grownBy_trans hG1 (World.grownBy_alloc w1 (.cells #[] 39) (some rb)) (fun x hx => .inl hx)
  have hv := Rd.made (w1.alloc (.cells #[] 39)) ([6, 9, 12, 3, 0, 24].map (Value.int .i64)) 3 0 1 6 rfl (by simp) (by decide)
  simp only [World.size_alloc] at hv
  go_wp2_with fail
  go_at_call 35
  refine (one_B _ hi rb _ _ [6, 9, 12, 3, 0, 24] (hr2 _) (by omega) hv (fun e => by simp [Value.ownBlock] at e; omega) (by simp) (by simp)).mono ?_; rintro e w3 ⟨x, rfl, hx, hr3, hg3⟩
  have hO3 := (hO.alloc (.cells #[.int .i64 6, .int .i64 9, .int .i64 12, .int .i64 3, .int .i64 0, .int .i64 24] 3)).grown hg3 (fun k hk => by cases hk; omega)
  have hG3 := grownBy_trans (grownBy_trans hG2 (World.grownBy_alloc _ _ (some rb)) (fun x hx => .inl hx)) hg3 (fun x hx => .inl hx)
  have hx' := hx.out
  simp at hx'
  obtain ⟨m0, hm0, hm0'⟩ : ∃ m : Nat, x = m ∧ m ≤ 24 := ⟨x.toNat, by omega, by omega⟩
  subst hm0
  clear hx hx' hr2 hO hv hg3 hG1 hG2 hr1
  go_wp2_with fail
  go_loopw [5, 6] (fun sv i wo => ∃ m : Nat, ∃ rs : List Rod, ∃ p', i = .int .i64 m ∧ rs.length + m ≤ 24 ∧ Own wo w.heap.size 39 3 sv rs.length (rs.flatMap rodCells) ∧ p' ≤ p + 2 + 3 * rs.length ∧ RdB wo hi rb p' ∧ w.grownBy wo (some rb))
    (fun _ i _ => (intOf i).toNat)
  case atStart => exact ⟨m0, [], p + 1 + 1, rfl, by simpa using hm0', hO3, by omega, hr3, hG3⟩
  case round =>
    clear hO3 hr3 hG3
    obtain ⟨m, rs, p', rfl, hm, hO, hp', hr, hG⟩ := hrel
    by_cases hgo : 0 < m ∧ 1 < n
    · obtain ⟨hm1, hn3⟩ := hgo
      go_wp2_with fail
      go_at_call 38
      refine (pick_P _ _ _ _ n hr (by omega) (by omega) (by omega)).mono ?_; rintro e w4 ⟨fr, rfl, ⟨hf0, hf1⟩, hr4, hg4⟩
      have hO4 := hO.grown hg4 (fun k hk => by cases hk; omega)
      have hG4 := grownBy_trans hG hg4 (fun x hx => .inl hx)
      have hnz : (n == 0) = false := beq_eq_false_iff_ne.mpr (by omega)
      have wr1 : IntKind.i64.wrap (fr + 1) = fr + 1 := IntWalk.i64_in _ (by omega)
      have wr2 : IntKind.i64.wrap (n - 1) = n - 1 := IntWalk.i64_in _ (by omega)
      clear hO hr hG hg4
      have hd : w4.grownBy w4.drew (some rb) := ⟨rfl, rfl, rfl, Nat.le_refl _, fun _ _ _ => rfl⟩
      have hr4d := hr4.grown (row := none) (w' := w4.drew) ⟨rfl, rfl, rfl, Nat.le_refl _, fun _ _ _ => rfl⟩ (fun _ e => by cases e)
      have hO4d := hO4.grown hd (fun k hk => by cases hk; omega)
      have hG4d := grownBy_trans hG4 hd (fun x hx => .inl hx)
      have hz4 := hG4d.size
      clear hr4 hO4 hG4 hd
      go_wp2_with fail
      go_region_held3 (fun w' => w.heap.size ≤ w'.heap.size)
        (first | exact hG4d.size | exact hG5.size | exact hG6.size | exact hG7.out.size | (simp only [World.size_alloc]; omega) | assumption)
        ((first
          | (go_at_call 38; (with_reducible refine (pick_P _ _ _ _ (n - 1) hr4d (by omega) (by omega) (by omega)).mono ?_); rintro e w5 ⟨y5, rfl, ⟨h50, h51⟩, hr5, hg5⟩; have hO5 := hO4d.grown hg5 (fun k hk => by cases hk; omega); have hG5 := grownBy_trans hG4d hg5 (fun x hx => .inl hx); have wr3 : IntKind.i64.wrap (fr + 1 + y5) = fr + 1 + y5 := IntWalk.i64_in _ (by omega); have hq0 : 0 ≤ fr + 1 + y5 := (by omega); have hq1 : (fr + 1 + y5).tmod n = (fr + 1 + y5) % n := Int.tmod_eq_emod_of_nonneg hq0; have hq2 := Int.emod_nonneg (fr + 1 + y5) (show n ≠ 0 by omega); have hq3 := Int.emod_lt_of_pos (fr + 1 + y5) (show 0 < n by omega); have wr4 : IntKind.i64.wrap ((fr + 1 + y5) % n) = (fr + 1 + y5) % n := IntWalk.i64_in _ (by omega); have hnn : ¬ n = 0 := (by omega))
          | (go_at_call 38; (with_reducible refine (pick_P _ _ _ _ 9 hr5 (by omega) (by omega) (by omega)).mono ?_); rintro e w6 ⟨y6, rfl, ⟨h60, h61⟩, hr6, hg6⟩; have hO6 := hO5.grown hg6 (fun k hk => by cases hk; omega); have hG6 := grownBy_trans hG5 hg6 (fun x hx => .inl hx); have hz6 := hG6.size)
          | (refine step_append_rod _ (by rfl) _ _ 25 (by rfl) 39 Try.underlying25 info_road w.heap.size u5 rs (by rfl) hO6 _ _ _ _ (by rfl) (by omega) (by omega) hz6 ?_; intro v7 w7 hO7 hg7 _; have hG7 := Lib.hid (grownBy_trans hG6 hg7 (fun x hx => .inr (hO6.wblk hx).1)))))
      go_wp2_with fail
      go_roundw
      case rel => exact ⟨m - 1, rs ++ [⟨_, _, _⟩], p' + 1 + 1 + 1, (by congr 1; omega), by simp; omega, hO7, by simp; omega, hr6.grown hg7 (fun k hk => by have := (hO6.wblk hk).1; omega), hG7.out⟩
      case measure => simp [intOf]; omega
    · have hdone : Hid (rs.length ≤ 24) := by unfold Hid; omega
      obtain ⟨ao, cap, rfl, hcap, hmm⟩ := hO.rd.form
      have tail : ∀ (n' : Int) (W : World) (q : Nat) (hn0 : 0 ≤ n' ∧ n' ≤ 9) (rs' : List Rod) (vv : Value), rs'.length ≤ 24 → Rods W w.heap.size vv rs' → q ≤ p + 1000 → RdB W hi rb q → w.grownBy W (some rb) →
          DrawnRoads w hi rb p (.returned (.tuple #[.int .i64 n', vv])) W := fun n' W q hn0 rs' vv h1 h2 h3 h4 h5 => ⟨n', vv, rs', q, rfl, h2, h1, hn0, h3, h4, h5⟩
      have TL := Lib.hid tail
      clear tail
      have ngo : (0 < m ∧ ¬ 1 < n) ∨ ¬ 0 < m := by
        by_cases h : 0 < m
        · exact .inl ⟨h, fun h2 => hgo ⟨h, h2⟩⟩
        · exact .inr h
      clear hgo
      rcases ngo with ⟨hm1, hn3⟩ | hm1
      all_goals
        by_cases hl0 : 0 < rs.length
        · go_wp2_with fail
          go_at_call 38
          refine (pick_P _ _ _ _ 20 hr (by omega) (by omega) (by omega)).mono ?_; rintro e w4 ⟨y4, rfl, _, hr4, hg4⟩
          have hO4 := hO.grown hg4 (fun k hk => by cases hk; omega)
          have hG4 := grownBy_trans hG hg4 (fun x hx => .inl hx)
          clear hO hr hG hg4
          by_cases hy4 : y4 = 0
          · have hy4' : (y4 == 0) = true := by simp [hy4]
            clear hy4
            go_wp2_with fail
            go_at_call 35
            refine (one_L w4 hi rb _ [0, -1, n] _ 3 rfl hr4 (by omega) (by omega) (by omega)).mono ?_; rintro e w5 ⟨z5, rfl, _, hr5, hg⟩
            have hO5 := hO4.grown hg (fun k hk => by cases hk; omega)
            have hG5 := grownBy_trans hG4 hg (fun x hx => .inl hx)
            clear hg hO4 hG4 hr4
            go_wp2_with fail
            go_at_call 35
            refine (one_L w5 hi rb _ [0, n, 1] _ 3 rfl hr5 (by omega) (by omega) (by omega)).mono ?_; rintro e w6 ⟨z6, rfl, _, hr6, hg⟩
            have hO6 := hO5.grown hg (fun k hk => by cases hk; omega)
            have hG6 := grownBy_trans hG5 hg (fun x hx => .inl hx)
            clear hg hO5 hG5 hr5
            go_wp2_with fail
            go_at_call 35
            refine (one_L w6 hi rb _ [0, 60, 61] _ 3 rfl hr6 (by omega) (by omega) (by omega)).mono ?_; rintro e w7 ⟨z7, rfl, _, hr7, hg⟩
            have hO7 := hO6.grown hg (fun k hk => by cases hk; omega)
            have hG7 := grownBy_trans hG6 hg (fun x hx => .inl hx)
            clear hg hO6 hG6 hr6
            have hlen := hO7.len
            obtain ⟨g, rfl, hgw, hg2, hcell, hfr, _⟩ := hO7.parts hl0
            have hd1 := hcell 0 (by omega)
            have hd2 := hcell 1 (by omega)
            have hd3 := hcell 2 (by omega)
            have hf1 := hfr 0
            have hf2 := hfr 1
            have hf3 := hfr 2
            clear hcell hfr
            obtain ⟨hS1, gS1⟩ := hO7.store hl0 0 (.int .i64 z5)
            obtain ⟨hS2, gS2⟩ := hS1.store hl0 1 (.int .i64 z6)
            obtain ⟨hS3, gS3⟩ := hS2.store hl0 2 (.int .i64 z7)
            have gS := grownBy_trans (grownBy_trans gS1 gS2 (fun x hx => .inl hx)) gS3 (fun x hx => .inl hx)
            have hr8 := hr7.grown gS (fun k hk => by cases hk; omega)
            have hG8 := grownBy_trans hG7 gS (fun k hk => by cases hk; exact .inr hgw)
            have hs := set_flatR ⟨z5, z6, z7⟩ rs 0
            simp only [Nat.zero_mul, Nat.zero_add] at hs
            rw [hs] at hS3
            have hl8 : (rs.set 0 ⟨z5, z6, z7⟩).length = rs.length := by simp
            have hR8 : Rods (((w7.setCell ⟨g, 0, none⟩ (.int .i64 z5)).setCell ⟨g, 1, none⟩ (.int .i64 z6)).setCell ⟨g, 2, none⟩ (.int .i64 z7)) w.heap.size (.slice (some ⟨g, 0, none⟩) rs.length cap) (rs.set 0 ⟨z5, z6, z7⟩) := by unfold Rods; rw [hl8]; exact hS3.rd
            have hl9 : (rs.set 0 ⟨z5, z6, z7⟩).length ≤ 24 := by rw [hl8]; exact hdone.out
            clear hS1 hS2 hS3 gS1 gS2 gS3 gS hs hO7 hr7 hG7 hl8
            go_wp2_with fail
            go_at_call 38
            refine (pick_P _ _ _ _ 40 hr8 (by omega) (by omega) (by omega)).mono ?_; rintro e wA ⟨yA, rfl, _, hrA, hgA⟩
            have hRA : Rods wA w.heap.size _ (rs.set 0 ⟨z5, z6, z7⟩) := Rd.grown hR8 hgA (fun k hk => .inl (by cases hk; omega)) (by decide)
            have hGA := grownBy_trans hG8 hgA (fun x hx => .inl hx)
            clear hgA hr8
            by_cases hy : yA = 0
            · have hy' : (yA == 0) = true := by simp [hy]
              clear hy
              go_wp2_with fail
              go_at_call 35
              refine (one_L wA hi rb _ [0, 9] _ 2 rfl hrA (by omega) (by omega) (by omega)).mono ?_; rintro e wB ⟨z, rfl, hz, hrB, hgB⟩
              have hz' := hz.out
              simp at hz'
              have hz2 : 0 ≤ z ∧ z ≤ 9 := by omega
              have hRB : Rods wB w.heap.size _ (rs.set 0 ⟨z5, z6, z7⟩) := Rd.grown hRA hgB (fun k hk => .inl (by cases hk; omega)) (by decide)
              have hGB := grownBy_trans hGA hgB (fun x hx => .inl hx)
              have HF := Lib.hid (TL.out z wB _ hz2 (rs.set 0 ⟨z5, z6, z7⟩) _ hl9 hRB (by omega) hrB hGB)
              clear hz hz' hz2 hRB hGB hrB hgB hRA hGA hrA
              go_wp2
              go_ret2
              exact HF.out
            · have hy' : (yA == 0) = false := by simp [hy]
              have HF := Lib.hid (TL.out n wA _ (by omega) (rs.set 0 ⟨z5, z6, z7⟩) _ hl9 hRA (by omega) hrA hGA)
              clear hy hRA hGA hrA
              go_wp2
              go_ret2
              exact HF.out
          · have hy4' : (y4 == 0) = false := by simp [hy4]
            clear hy4
            have hR4 : Rods w4 w.heap.size _ rs := hO4.rd
            go_wp2_with fail
            go_at_call 38
            refine (pick_P _ _ _ _ 40 hr4 (by omega) (by omega) (by omega)).mono ?_; rintro e wA ⟨yA, rfl, _, hrA, hgA⟩
            have hRA : Rods wA w.heap.size _ rs := Rd.grown hR4 hgA (fun k hk => .inl (by cases hk; omega)) (by decide)
            have hGA := grownBy_trans hG4 hgA (fun x hx => .inl hx)
            clear hgA hr4
            by_cases hy : yA = 0
            · have hy' : (yA == 0) = true := by simp [hy]
              clear hy
              go_wp2_with fail
              go_at_call 35
              refine (one_L wA hi rb _ [0, 9] _ 2 rfl hrA (by omega) (by omega) (by omega)).mono ?_; rintro e wB ⟨z, rfl, hz, hrB, hgB⟩
              have hz' := hz.out
              simp at hz'
              have hz2 : 0 ≤ z ∧ z ≤ 9 := by omega
              have hRB : Rods wB w.heap.size _ rs := Rd.grown hRA hgB (fun k hk => .inl (by cases hk; omega)) (by decide)
              have hGB := grownBy_trans hGA hgB (fun x hx => .inl hx)
              have HF := Lib.hid (TL.out z wB _ hz2 rs _ hdone.out hRB (by omega) hrB hGB)
              clear hz hz' hz2 hRB hGB hrB hgB hRA hGA hrA
              go_wp2
              go_ret2
              exact HF.out
            · have hy' : (yA == 0) = false := by simp [hy]
              have HF := Lib.hid (TL.out n wA _ (by omega) rs _ hdone.out hRA (by omega) hrA hGA)
              clear hy hRA hGA hrA
              go_wp2
              go_ret2
              exact HF.out
        · have hR4 : Rods wr w.heap.size _ rs := hO.rd
          go_wp2_with fail
          go_at_call 38
          refine (pick_P _ _ _ _ 40 hr (by omega) (by omega) (by omega)).mono ?_; rintro e wA ⟨yA, rfl, _, hrA, hgA⟩
          have hRA : Rods wA w.heap.size _ rs := Rd.grown hR4 hgA (fun k hk => .inl (by cases hk; omega)) (by decide)
          have hGA := grownBy_trans hG hgA (fun x hx => .inl hx)
          clear hgA hr
          by_cases hy : yA = 0
          · have hy' : (yA == 0) = true := by simp [hy]
            clear hy
            go_wp2_with fail
            go_at_call 35
            refine (one_L wA hi rb _ [0, 9] _ 2 rfl hrA (by omega) (by omega) (by omega)).mono ?_; rintro e wB ⟨z, rfl, hz, hrB, hgB⟩
            have hz' := hz.out
            simp at hz'
            have hz2 : 0 ≤ z ∧ z ≤ 9 := by omega
            have hRB : Rods wB w.heap.size _ rs := Rd.grown hRA hgB (fun k hk => .inl (by cases hk; omega)) (by decide)
            have hGB := grownBy_trans hGA hgB (fun x hx => .inl hx)
            have HF := Lib.hid (TL.out z wB _ hz2 rs _ hdone.out hRB (by omega) hrB hGB)
            clear hz hz' hz2 hRB hGB hrB hgB hRA hGA hrA
            go_wp2
            go_ret2
            exact HF.out
          · have hy' : (yA == 0) = false := by simp [hy]
            have HF := Lib.hid (TL.out n wA _ (by omega) rs _ hdone.out hRA (by omega) hrA hGA)
            clear hy hRA hGA hrA
            go_wp2
            go_ret2
            exact HF.out

def DrawRoads (w : World) (e : Ending) (w' : World) : Prop :=
  ∃ n : Int, ∃ v, ∃ rs : List Rod, e = .returned (.tuple #[.int .i64 n, v]) ∧ Rods w' 0 v rs ∧ rs.length ≤ 24 ∧ (0 ≤ n ∧ n ≤ 9) ∧ Below w.heap.size w w'

theorem bytes_blk {w : World} {v : Value} {bs : List UInt8} (hv : Bytes w 0 v bs) : bs ≠ [] → ∀ k, v.ownBlock = some k → k < w.heap.size := by
  intro hne k hk
  obtain ⟨_, ao, cap, rfl, _, _, _, hc⟩ := hv
  obtain ⟨b, off, rfl, _, hcell⟩ := hc (by cases bs <;> simp_all)
  cases hk
  exact World.block_lt_of_cell? w ⟨b, off + 0, none⟩ (hcell 0 (by cases bs <;> simp_all))

theorem drawValidRoads (w : World) (v : Value) (bs : List UInt8) (hv : Bytes w 0 v bs) : Calls Try.prog 16 #[v] w (DrawRoads w) := by
  go_enter Try.func16, Try.ntmps16
  go_wp2_with fail
  go_at_call 33
  refine (newReader_B w w.heap.size v bs hv (bytes_blk hv) (Nat.le_refl _)).mono ?_; rintro e w1 ⟨rfl, hr, hB1⟩
  go_wp2_with fail
  go_at_call 32
  refine (anyRoads_B _ _ _ 0 hr (by omega)).mono ?_; rintro e w2 ⟨n, v2, rs, p2, rfl, hI, hl, hn, hp2, hr2, hg2⟩
  have HF : Hid (Rods w2 0 v2 rs ∧ rs.length ≤ 24 ∧ (0 ≤ n ∧ n ≤ 9) ∧ Below w.heap.size w w2) := ⟨hI.mono (Nat.zero_le _), hl, hn, hB1.trans (below_of_grownBy hg2 (B := w.heap.size) hB1.size (fun k hk => by cases hk; omega))⟩
  clear hI hl hp2 hr2 hg2 hB1
  go_wp2
  go_ret2
  exact ⟨_, _, rs, rfl, HF.out⟩

def DrawTT (w : World) (e : Ending) (w' : World) : Prop :=
  ∃ n : Int, ∃ v, ∃ rs : List Rod, ∃ s : Int, e = .returned (.tuple #[.int .i64 n, v, .int .i64 s]) ∧ Rods w' w.heap.size v rs ∧ rs.length ≤ 24 ∧ (0 ≤ n ∧ n ≤ 9) ∧ (-1 ≤ s ∧ s ≤ 8) ∧ Below w.heap.size w w'

theorem drawTravelTimes (w : World) (v : Value) (bs : List UInt8) (hv : Bytes w 0 v bs) : Calls Try.prog 18 #[v] w (DrawTT w) := by
  go_enter Try.func18, Try.ntmps18
  go_wp2_with fail
  go_at_call 33
  refine (newReader_B w w.heap.size v bs hv (bytes_blk hv) (Nat.le_refl _)).mono ?_; rintro e w1 ⟨rfl, hr, hB1⟩
  go_wp2_with fail
  go_at_call 32
  refine (anyRoads_B _ _ _ 0 hr (by omega)).mono ?_; rintro e w2 ⟨n, v2, rs, p2, rfl, hI, hl, hn, hp2, hr2, hg2⟩
  have hlt := hr.lt
  have hz1 := hB1.size
  have hB2 := hB1.trans (below_of_grownBy hg2 (B := w.heap.size) hB1.size (fun k hk => by cases hk; omega))
  clear hr hB1 hg2
  go_wp2_with fail
  go_at_call 35
  refine (one_L w2 _ _ _ [0, 1, 2, -1, 8] _ 5 rfl hr2 (by omega) (by omega) (by omega)).mono ?_; rintro e w3 ⟨s, rfl, hs, hr3, hg3⟩
  have hs' := hs.out
  simp at hs'
  have HF : Hid (Rods w3 w.heap.size v2 rs ∧ rs.length ≤ 24 ∧ (0 ≤ n ∧ n ≤ 9) ∧ (-1 ≤ s ∧ s ≤ 8) ∧ Below w.heap.size w w3) :=
    ⟨Rd.mono (Rd.grown hI hg3 (fun k hk => .inl (by cases hk; omega)) (by decide)) hz1, hl, hn, by omega, hB2.trans (below_of_grownBy hg3 (B := w.heap.size) hB2.size (fun k hk => by cases hk; omega))⟩
  clear hI hl hp2 hr2 hg3 hB2 hr3 hs hs'
  go_wp2
  refine bodyPost_ret (v := .tuple #[.int .i64 n, v2, .int .i64 s]) (by simp [results, Try.results18, go_sem]) rfl ?_
  exact ⟨_, _, rs, _, rfl, HF.out⟩

def DrawRoute (w : World) (e : Ending) (w' : World) : Prop :=
  ∃ n : Int, ∃ v, ∃ rs : List Rod, ∃ s t : Int, e = .returned (.tuple #[.int .i64 n, v, .int .i64 s, .int .i64 t]) ∧ Rods w' 0 v rs ∧ rs.length ≤ 24 ∧ (0 ≤ n ∧ n ≤ 9) ∧ (-1 ≤ s ∧ s ≤ 8) ∧ (-1 ≤ t ∧ t ≤ 8) ∧ Below w.heap.size w w'

theorem drawRouteOf (w : World) (v : Value) (bs : List UInt8) (hv : Bytes w 0 v bs) : Calls Try.prog 25 #[v] w (DrawRoute w) := by
  go_enter Try.func25, Try.ntmps25
  go_wp2_with fail
  go_at_call 33
  refine (newReader_B w w.heap.size v bs hv (bytes_blk hv) (Nat.le_refl _)).mono ?_; rintro e w1 ⟨rfl, hr, hB1⟩
  have hv1 : Bytes w1 0 v bs := Rd.below hv hB1 (Nat.le_refl _) (by decide)
  go_wp2_with fail
  go_at_call 18
  refine (drawTravelTimes _ _ bs hv1).mono ?_; rintro e w2 ⟨n, v2, rs, s, rfl, hI, hl, hn, hs, hB2⟩
  have hlt := hr.lt
  have hr2 : RdB w2 w.heap.size w.heap.size 0 := by
    obtain ⟨v', bs', h1, h2, h3, h4, h5⟩ := hr
    refine ⟨v', bs', by rw [hB2.block _ (by omega)]; exact h1, Rd.below h2 hB2 (Nat.le_refl _) (by decide), h3, h4, h5⟩
  have hT2 := hB1.trans (hB2.mono hB1.size)
  have hI2 : Rods w2 (w.heap.size + 1) v2 rs := hI.mono (by omega)
  clear hv hv1 hr hB1 hB2 hI
  go_wp2_with fail
  go_at_call 35
  refine (one_L w2 _ _ _ [1, 2, 3, 0, 4, -1, 8] _ 7 rfl hr2 (by omega) (by omega) (by omega)).mono ?_; rintro e w3 ⟨t, rfl, ht, hr3, hg3⟩
  have ht' := ht.out
  simp at ht'
  have HF : Hid (Rods w3 0 v2 rs ∧ rs.length ≤ 24 ∧ (0 ≤ n ∧ n ≤ 9) ∧ (-1 ≤ s ∧ s ≤ 8) ∧ (-1 ≤ t ∧ t ≤ 8) ∧ Below w.heap.size w w3) :=
    ⟨Rd.mono (Rd.grown hI2 hg3 (fun k hk => .inl (by cases hk; omega)) (by decide)) (Nat.zero_le _), hl, hn, hs, by omega, hT2.trans (below_of_grownBy hg3 (B := w.heap.size) hT2.size (fun k hk => by cases hk; omega))⟩
  clear hI2 hl hr2 hg3 hT2 hr3 ht ht'
  go_wp2
  refine bodyPost_ret (v := .tuple #[.int .i64 n, v2, .int .i64 s, .int .i64 t]) (by simp [results, Try.results25, go_sem]) rfl ?_
  exact ⟨_, _, rs, _, _, rfl, HF.out⟩
end Go.Proofs.Ytfacedmdpbddcaa
