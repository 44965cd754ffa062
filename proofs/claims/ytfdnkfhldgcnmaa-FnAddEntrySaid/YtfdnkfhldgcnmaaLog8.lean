/- AddEntry: the model's and the program's. -/
import Derived.Test.YtfdnkfhldgcnmaaLog7
import Derived.ProofKit
import Derived.Deep.RegionHeld3
namespace Go.Proofs.Ytfdnkfhldgcnmaa
open Go.RowKit

theorem bA (w : World) (o : Obj) : Below w.heap.size w (w.alloc o).drew := ((Below.refl _ _).alloc (Nat.le_refl _) _).drew
theorem bB (w : World) (o o' : Obj) : Below w.heap.size w ((w.alloc o).drew.alloc o').drew := ((bA w o).alloc (bA w o).size _).drew
theorem bC (w : World) (o o' : Obj) : Below w.heap.size w ((w.alloc o).alloc o').drew := ((((Below.refl _ _).alloc (Nat.le_refl _) _).alloc ((Below.refl w.heap.size w).alloc (Nat.le_refl _) o).size _)).drew

theorem made2 (w1 : World) (o : Obj) (a b : Int) (c : Bool) (t : TypeId) : Rd ((w1.alloc o).alloc (.cells #[.int .i64 a, .int .i64 b, .bool c] t)).drew (w1.heap.size + 1) (.slice (some ⟨w1.heap.size + 1, 0, none⟩) 1 1) 3 1 [.int .i64 a, .int .i64 b, .bool c] := by
  have h := Rd.made (w1.alloc o) [.int .i64 a, .int .i64 b, .bool c] t (w1.heap.size + 1) 3 1 rfl (by simp) (by decide)
  simp only [World.size_alloc] at h
  exact Rd.below h (Below.drew (Below.refl _ _)) (Nat.le_refl _) (by decide)

theorem made3 (w1 : World) (o : Obj) (a b : Int) (c : Bool) (t : TypeId) : Rd ((w1.alloc (.cells #[.int .i64 a, .int .i64 b, .bool c] t)).alloc o).drew 0 (.slice (some ⟨w1.heap.size, 0, none⟩) 1 1) 3 1 [.int .i64 a, .int .i64 b, .bool c] := by
  have h := Rd.made w1 [.int .i64 a, .int .i64 b, .bool c] t 0 3 1 rfl (Nat.zero_le _) (by decide)
  exact Rd.below h (Below.drew ((Below.refl _ _).alloc (Nat.le_refl _) _)) (Nat.le_refl _) (by decide)

theorem step_append_from {P : Program} {w1 W : World} {b0 : Nat} {ops : Array Oper} {o : Oper} {a : Act} {K : Act → World → Prop} {Q : Exit → Act → World → Prop} {E : Prop} (hgd : o.guard = none) (s x : Operand) (t : TypeId)
    (ho : o.op = .call { callee := .builtin .append, args := #[s, x], argTypes := #[t, t] })
    (e : TypeId) (z : Value) (sz bytes : Nat) (ht : P.underlying t = some (.slice e)) (hi : (P.info? e).map (fun i => (i.zero, i.size, i.bytes)) = some (some z, sz, bytes))
    (hzs : z.cells.size = sz) (hsz : 0 < sz) (hs : a.eval s = .slice (some ⟨b0, 0, none⟩) 0 0)
    (xv : Value) (lo' m : Nat) (news : List Value) (hxe : a.eval x = xv) (hx : Rd w1 lo' xv sz m news) (h1 : ∀ u ∈ news, u.oneCell' = true)
    (h63 : m ≤ maxLen) (hbytes : m * bytes ≤ 140737488355328) (hb : Below w1.heap.size w1 W)
    (h : ∀ v' w', Own w' w1.heap.size e sz v' m news → W.grownBy w' none → Below w1.heap.size w1 w' → K (a.put o.dst v') w') :
    if Region.wanted o (yielded ops a.tmps) = true then Oper.wp P o a W K Q else E := by
  refine step_append_Own hgd s x t ho e z sz bytes ht hi hzs hsz w1.heap.size _ 0 [] hs (.inr ⟨rfl, rfl, _, rfl⟩) xv lo' m news hxe (Rd.below hx hb (Nat.le_refl _) hsz) h1 (by omega) (by simpa using hbytes) hb.size ?_
  intro v' w' hO hg _
  have hg' : W.grownBy w' none := by
    refine grownBy_trans (grownBy_refl _ _) hg (fun k hk => .inl ?_)
    simp [wblk] at hk
  refine h v' w' (by simpa using hO) hg' (hb.trans (below_of_grownBy hg' hb.size (fun k hk => by cases hk)))

def Added (w : World) (es : List Ent) (x : Ent) (e : Ending) (w' : World) : Prop :=
  ∃ v', e = .returned (.tuple #[v', .bool (addOk es x)]) ∧ Own w' w.heap.size 34 3 v' (addE es x).length ((addE es x).flatMap entCells) ∧ Below w.heap.size w w'

set_option maxHeartbeats 2000000 in
theorem spec_addEntry (w : World) (lo : Nat) (v : Value) (es : List Ent) (x : Ent) (hv : Ents w lo v es) :
    Calls Try.prog 20 #[v, .agg #[.int .i64 x.t, .int .i64 x.u, .bool x.s]] w (Added w es x) := by
  obtain ⟨ao, cap, rfl, hcap, hm⟩ := hv.form
  have hBx : Below w.heap.size w (w.alloc (.cells #[.int .i64 x.t, .int .i64 x.u, .bool x.s] 34)) := (Below.refl _ _).alloc (Nat.le_refl _) _
  have hvx : Ents _ lo _ es := Rd.below hv hBx (Nat.le_refl _) (by decide)
  by_cases hva : validL es = true
  · have h30 := (validL_iff.1 hva).1
    go_enter Try.func20, Try.ntmps20
    go_wp2_with fail
    go_at_call 31
    refine (spec_validLog0 _ _ _ es hvx).mono ?_; rintro e' w1 ⟨rfl, hB1⟩
    rw [hva]
    have hv1 : Ents w1 lo _ es := Rd.below hvx hB1 (Nat.le_refl _) (by decide)
    have hT1 := hBx.trans (hB1.mono hBx.size)
    have hc0 : w1.cell? ⟨w.heap.size, 0, none⟩ = some (.int .i64 x.t) := by rw [hB1.cell (by simp), cell_of_row _ w.heap.size 0 #[.int .i64 x.t, .int .i64 x.u, .bool x.s] 34 (0, 0) (heap_alloc_new w _)]; simp
    have hc1 : w1.cell? ⟨w.heap.size, 1, none⟩ = some (.int .i64 x.u) := by rw [hB1.cell (by simp), cell_of_row _ w.heap.size 1 #[.int .i64 x.t, .int .i64 x.u, .bool x.s] 34 (0, 0) (heap_alloc_new w _)]; simp
    have hc2 : w1.cell? ⟨w.heap.size, 2, none⟩ = some (.bool x.s) := by rw [hB1.cell (by simp), cell_of_row _ w.heap.size 2 #[.int .i64 x.t, .int .i64 x.u, .bool x.s] 34 (0, 0) (heap_alloc_new w _)]; simp
    have hlt : w.heap.size < w1.heap.size := by have := hB1.size; simp at this; omega
    clear hBx hvx hB1 hv
    go_wp2_with fail
    go_region_held3 (fun w' => w'.cell? ⟨w.heap.size, 0, none⟩ = some (.int .i64 x.t) ∧ w'.cell? ⟨w.heap.size, 1, none⟩ = some (.int .i64 x.u) ∧ w'.cell? ⟨w.heap.size, 2, none⟩ = some (.bool x.s))
      (first | go_keep | exact ⟨(hB5.cell (p := ⟨w.heap.size, 0, none⟩) hlt).trans hc0, (hB5.cell (p := ⟨w.heap.size, 1, none⟩) hlt).trans hc1, (hB5.cell (p := ⟨w.heap.size, 2, none⟩) hlt).trans hc2⟩ | exact ⟨(hB6.cell (p := ⟨w.heap.size, 0, none⟩) hlt).trans hc0, (hB6.cell (p := ⟨w.heap.size, 1, none⟩) hlt).trans hc1, (hB6.cell (p := ⟨w.heap.size, 2, none⟩) hlt).trans hc2⟩)
      ((first
        | (refine step_append_from (w1 := w1) (by rfl) _ _ _ (by rfl) 34 (.agg #[.int .i64 0, .int .i64 0, .bool false]) 3 24 Try.underlying25 info_entry rfl (by omega) (by rfl) _ lo es.length (es.flatMap entCells) (by rfl) hv1 (cells_one es) (by unfold maxLen; omega) (by omega) (bA w1 _) ?_
           intro v5 w5 hO5 hg5 hB5
           have hsz5 := hB5.size)
        | (refine step_append_from (w1 := w1) (by rfl) _ _ _ (by rfl) 34 (.agg #[.int .i64 0, .int .i64 0, .bool false]) 3 24 Try.underlying25 info_entry rfl (by omega) (by rfl) _ lo es.length (es.flatMap entCells) (by rfl) hv1 (cells_one es) (by unfold maxLen; omega) (by omega) (bB w1 _ _) ?_
           intro v5 w5 hO5 hg5 hB5
           have hsz5 := hB5.size)
        | (refine step_append_from (w1 := w1) (by rfl) _ _ _ (by rfl) 34 (.agg #[.int .i64 0, .int .i64 0, .bool false]) 3 24 Try.underlying25 info_entry rfl (by omega) (by rfl) _ lo es.length (es.flatMap entCells) (by rfl) hv1 (cells_one es) (by unfold maxLen; omega) (by omega) (bC w1 _ _) ?_
           intro v5 w5 hO5 hg5 hB5
           have hsz5 := hB5.size)
        | (refine step_append_Own (by rfl) _ _ _ (by rfl) 34 (.agg #[.int .i64 0, .int .i64 0, .bool false]) 3 24 Try.underlying25 info_entry rfl (by omega) w1.heap.size v5 es.length _ (by rfl) (hO5.alloc _) _ 0 1 [.int .i64 x.t, .int .i64 x.u, .bool x.s] (by rfl) (Rd.made w5 [.int .i64 x.t, .int .i64 x.u, .bool x.s] _ 0 3 1 rfl (Nat.zero_le _) (by decide)) (by intro u hu; simp at hu; rcases hu with rfl | rfl | rfl <;> rfl) (by unfold maxLen; omega) (by omega) (by simp; omega) ?_
           intro v6 w6 hO6 hg6 hk6
           have hB6 : Below w1.heap.size w1 w6 := hB5.trans (Below.trans ((Below.refl _ _).alloc hsz5 _) (below_of_grownBy hg6 (by simp; omega) (fun k hk => (hO5.wblk hk).1))))
        | (refine step_append_Own (by rfl) _ _ _ (by rfl) 34 (.agg #[.int .i64 0, .int .i64 0, .bool false]) 3 24 Try.underlying25 info_entry rfl (by omega) w1.heap.size v5 es.length _ (by rfl) (hO5.alloc _) _ 0 1 [.int .i64 x.t, .int .i64 x.u, .bool x.s] (by rfl) (Rd.made w5 [.int .i64 x.t, .int .i64 x.u, .bool x.s] _ 0 3 1 rfl (Nat.zero_le _) (by decide)) (by intro u hu; simp at hu; rcases hu with rfl | rfl | rfl <;> rfl) (by unfold maxLen; omega) (by omega) (by show _ ≤ (w5.alloc _).heap.size; simp; omega) ?_
           intro v6 w6 hO6 hg6 hk6
           have hB6 : Below w1.heap.size w1 w6 := hB5.trans (Below.trans (((Below.refl _ _).alloc hsz5 _).drew) (below_of_grownBy hg6 (by show _ ≤ (w5.alloc _).heap.size; simp; omega) (fun k hk => (hO5.wblk hk).1))))
        | (refine step_append_Own (by rfl) _ _ _ (by rfl) 34 (.agg #[.int .i64 0, .int .i64 0, .bool false]) 3 24 Try.underlying25 info_entry rfl (by omega) w1.heap.size v5 es.length _ (by rfl) hO5 _ 0 1 [.int .i64 x.t, .int .i64 x.u, .bool x.s] (by rfl) ((Rd.grown (made2 w1 _ x.t x.u x.s _) hg5 (fun k hk => by cases hk) (by decide)).mono (Nat.zero_le _)) (by intro u hu; simp at hu; rcases hu with rfl | rfl | rfl <;> rfl) (by unfold maxLen; omega) (by omega) (by omega) ?_
           intro v6 w6 hO6 hg6 hk6
           have hB6 : Below w1.heap.size w1 w6 := hB5.trans (below_of_grownBy hg6 (by omega) (fun k hk => (hO5.wblk hk).1)))
        | (refine step_append_Own (by rfl) _ _ _ (by rfl) 34 (.agg #[.int .i64 0, .int .i64 0, .bool false]) 3 24 Try.underlying25 info_entry rfl (by omega) w1.heap.size v5 es.length _ (by rfl) hO5 _ 0 1 [.int .i64 x.t, .int .i64 x.u, .bool x.s] (by rfl) (Rd.grown (made3 w1 _ x.t x.u x.s _) hg5 (fun k hk => by cases hk) (by decide)) (by intro u hu; simp at hu; rcases hu with rfl | rfl | rfl <;> rfl) (by unfold maxLen; omega) (by omega) (by omega) ?_
           intro v6 w6 hO6 hg6 hk6
           have hB6 : Below w1.heap.size w1 w6 := hB5.trans (below_of_grownBy hg6 (by omega) (fun k hk => (hO5.wblk hk).1)))))
    all_goals
      have hE6 : Ents w6 w1.heap.size v6 (es ++ [x]) := by have := hO6.rd; simpa [Ents, entCells] using this
      have hl1 : (es ++ [x]).length = es.length + 1 := by simp
      have hcs : es.flatMap entCells ++ [.int .i64 x.t, .int .i64 x.u, .bool x.s] = (es ++ [x]).flatMap entCells := by simp [entCells]
      rw [hcs] at hO6
      have hsz1 := hT1.size
      have hT6 := hT1.trans (hB6.mono hT1.size)
      clear hO5 hg5 hg6 hk6 hcs
      by_cases hvb : validL (es ++ [x]) = true
      · have hF : Hid (addOk es x = true ∧ addE es x = es ++ [x]) := by unfold Hid addOk addE; rw [hva, hvb]; simp
        go_wp2_with fail
        go_at_call 31
        refine (spec_validLog0 _ _ _ (es ++ [x]) hE6).mono ?_; rintro e' w7 ⟨rfl, hB7⟩
        rw [hvb]
        have hR : Hid (Own w7 w.heap.size 34 3 v6 (addE es x).length ((addE es x).flatMap entCells) ∧ Below w.heap.size w w7) := by
          unfold Hid; rw [hF.out.2, hl1]; exact ⟨(hO6.below hB7 (Nat.le_refl _)).mono hsz1, hT6.trans (hB7.mono hT6.size)⟩
        have hok := Lib.hid hF.out.1
        clear hF hE6 hO6 hB6 hT6 hB7
        go_wp2
        go_ret2
        exact ⟨_, by rw [hok.out]; rfl, hR.out⟩
      · have hvb' : validL (es ++ [x]) = false := by simpa using hvb
        have hF : Hid (addOk es x = false ∧ addE es x = es) := by unfold Hid addOk addE; rw [hva, hvb']; simp
        go_wp2_with fail
        go_at_call 31
        refine (spec_validLog0 _ _ _ (es ++ [x]) hE6).mono ?_; rintro e' w7 ⟨rfl, hB7⟩
        rw [hvb']
        have hT7 := hT6.trans (hB7.mono hT6.size)
        have hv7 : Ents w7 lo _ es := Rd.below hv1 (hB6.trans (hB7.mono hB6.size)) (Nat.le_refl _) (by decide)
        have hv8 : Rd (w7.alloc (.cells #[] 34)) lo _ 3 es.length (es.flatMap entCells) := Rd.below hv7 ((Below.refl _ _).alloc (Nat.le_refl _) _) (Nat.le_refl _) (by decide)
        clear hE6 hO6 hB6 hT6 hB7 hv7
        go_wp2_with (at_builtin; refine wpList_append_Own _ rfl _ _ 25 rfl 34 (.agg #[.int .i64 0, .int .i64 0, .bool false]) 3 24 Try.underlying25 info_entry rfl (by omega) w7.heap.size (.slice (some ⟨w7.heap.size, 0, none⟩) 0 0) 0 [] rfl (.inr ⟨rfl, rfl, _, rfl⟩) _ lo es.length _ rfl hv8 (cells_one es) (by unfold maxLen; omega) (by omega) (by simp) ?_; intro v9 w9 hO9 hg9 _)
        have hR : Hid (Own w9 w.heap.size 34 3 v9 (addE es x).length ((addE es x).flatMap entCells) ∧ Below w.heap.size w w9) := by
          unfold Hid; rw [hF.out.2]
          refine ⟨Own.mono (by simpa using hO9) hT7.size, (hT7.alloc hT7.size _).trans (below_of_grownBy hg9 (by have := hT7.size; simp; omega) (fun k hk => by simp [wblk] at hk))⟩
        have hok := Lib.hid hF.out.1
        clear hF
        go_ret2
        exact ⟨_, by rw [hok.out]; rfl, hR.out⟩
  · have hva : validL es = false := by simpa using hva
    have hF : Hid (addOk es x = false ∧ addE es x = []) := by unfold Hid addOk addE; rw [hva]; simp
    go_enter Try.func20, Try.ntmps20
    go_wp2_with fail
    go_at_call 31
    refine (spec_validLog0 _ _ _ es hvx).mono ?_; rintro e' w1 ⟨rfl, hB1⟩
    rw [hva]
    have hT1 := hBx.trans (hB1.mono hBx.size)
    have hR : Hid (Own w1 w.heap.size 34 3 (.slice none 0 0) (addE es x).length ((addE es x).flatMap entCells) ∧ Below w.heap.size w w1) := by
      unfold Hid; rw [hF.out.2]; exact ⟨Own.nil _ _ _ _, hT1⟩
    have hok := Lib.hid hF.out.1
    clear hF
    go_wp2
    go_ret2
    exact ⟨_, by rw [hok.out]; rfl, hR.out⟩
end Go.Proofs.Ytfdnkfhldgcnmaa
