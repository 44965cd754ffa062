/- AddEntry: the program's. -/
import Derived.Test.YtfdnkfhldgcnmaaLog8
import Derived.ProofKit
import Derived.Deep.RegionHeld3
namespace Go.Proofs.Ytfdnkfhldgcnmaa
open Go.RowKit

theorem clone_from {w1 W : World} (lo : Nat) (v : Value) (es : List Ent) (hb : Below w1.heap.size w1 W) (hv : Ents w1 lo v es) (hn : es.length ≤ 1048576) :
    Calls Try.prog 36 #[v] W fun e w' => ∃ v', e = .returned v' ∧ Own w' w1.heap.size 34 3 v' es.length (es.flatMap entCells) ∧ Below W.heap.size W w' ∧ Below w1.heap.size w1 w' := by
  refine (clone_any W lo v es (Rd.below hv hb (Nat.le_refl _) (by decide)) hn).mono ?_
  rintro e w' ⟨v', rfl, hO, hB⟩
  exact ⟨v', rfl, hO.mono hb.size, hB, hb.trans (hB.mono hb.size)⟩

theorem made4 (w1 : World) (a b : Int) (c : Bool) (t : TypeId) {w5 : World} (h5 : Below (w1.alloc (.cells #[.int .i64 a, .int .i64 b, .bool c] t)).drew.heap.size (w1.alloc (.cells #[.int .i64 a, .int .i64 b, .bool c] t)).drew w5) :
    Rd w5 0 (.slice (some ⟨w1.heap.size, 0, none⟩) 1 1) 3 1 [.int .i64 a, .int .i64 b, .bool c] := by
  have h := Rd.made w1 [.int .i64 a, .int .i64 b, .bool c] t 0 3 1 rfl (Nat.zero_le _) (by decide)
  exact Rd.below (Rd.below h (Below.drew (Below.refl _ _)) (Nat.le_refl _) (by decide)) h5 (Nat.le_refl _) (by decide)

set_option maxHeartbeats 2000000 in
theorem impl_addEntry (w : World) (lo : Nat) (v : Value) (es : List Ent) (x : Ent) (hv : Ents w lo v es) :
    Calls Try.prog 18 #[v, .agg #[.int .i64 x.t, .int .i64 x.u, .bool x.s]] w (Added w es x) := by
  obtain ⟨ao, cap, rfl, hcap, hm⟩ := hv.form
  have hBx : Below w.heap.size w (w.alloc (.cells #[.int .i64 x.t, .int .i64 x.u, .bool x.s] 34)) := (Below.refl _ _).alloc (Nat.le_refl _) _
  have hvx : Ents _ lo _ es := Rd.below hv hBx (Nat.le_refl _) (by decide)
  by_cases hva : validL es = true
  · have h30 := (validL_iff.1 hva).1
    go_enter Try.func18, Try.ntmps18
    go_wp2_with fail
    go_at_call 15
    refine (impl_validLog _ _ _ es hvx).mono ?_; rintro e' w1 ⟨rfl, hB1⟩
    rw [hva]
    have hv1 : Ents w1 lo _ es := Rd.below hvx hB1 (Nat.le_refl _) (by decide)
    have hT1 := hBx.trans (hB1.mono hBx.size)
    have hc0 : w1.cell? ⟨w.heap.size, 0, none⟩ = some (.int .i64 x.t) := by rw [hB1.cell (by simp), cell_of_row _ w.heap.size 0 #[.int .i64 x.t, .int .i64 x.u, .bool x.s] 34 (0, 0) (heap_alloc_new w _)]; simp
    have hc1 : w1.cell? ⟨w.heap.size, 1, none⟩ = some (.int .i64 x.u) := by rw [hB1.cell (by simp), cell_of_row _ w.heap.size 1 #[.int .i64 x.t, .int .i64 x.u, .bool x.s] 34 (0, 0) (heap_alloc_new w _)]; simp
    have hc2 : w1.cell? ⟨w.heap.size, 2, none⟩ = some (.bool x.s) := by rw [hB1.cell (by simp), cell_of_row _ w.heap.size 2 #[.int .i64 x.t, .int .i64 x.u, .bool x.s] 34 (0, 0) (heap_alloc_new w _)]; simp
    have hlt : w.heap.size < w1.heap.size := by have := hB1.size; simp at this; omega
    clear hBx hvx hB1 hv
    go_wp2_with fail
    go_region_held3 (fun w' => w'.cell? ⟨w.heap.size, 0, none⟩ = some (.int .i64 x.t) ∧ w'.cell? ⟨w.heap.size, 1, none⟩ = some (.int .i64 x.u) ∧ w'.cell? ⟨w.heap.size, 2, none⟩ = some (.bool x.s))
      (first | go_keep | exact ⟨(hB5.cell (p := ⟨w.heap.size, 0, none⟩) hlt).trans hc0, (hB5.cell (p := ⟨w.heap.size, 1, none⟩) hlt).trans hc1, (hB5.cell (p := ⟨w.heap.size, 2, none⟩) hlt).trans hc2⟩ | exact ⟨(hB6.cell (p := ⟨w.heap.size, 0, none⟩) hlt).trans hc0, (hB6.cell (p := ⟨w.heap.size, 1, none⟩) hlt).trans hc1, (hB6.cell (p := ⟨w.heap.size, 2, none⟩) hlt).trans hc2⟩)
      ((first
        | (go_at_call 36; refine (clone_from (w1 := w1) lo _ es ((Below.refl _ _).drew) hv1 (by omega)).mono ?_; rintro e' w5 ⟨v5, rfl, hO5, hW5, hB5⟩; have hsz5 := hB5.size)
        | (go_at_call 36; refine (clone_from (w1 := w1) lo _ es (Below.refl _ _) hv1 (by omega)).mono ?_; rintro e' w5 ⟨v5, rfl, hO5, hW5, hB5⟩; have hsz5 := hB5.size)
        | (go_at_call 36; refine (clone_from (w1 := w1) lo _ es (bA w1 _) hv1 (by omega)).mono ?_; rintro e' w5 ⟨v5, rfl, hO5, hW5, hB5⟩; have hsz5 := hB5.size)
        | (go_at_call 36; refine (clone_from (w1 := w1) lo _ es ((bA w1 _).drew) hv1 (by omega)).mono ?_; rintro e' w5 ⟨v5, rfl, hO5, hW5, hB5⟩; have hsz5 := hB5.size)
        | (go_at_call 36; refine (clone_from (w1 := w1) lo _ es ((Below.refl _ _).drew.drew) hv1 (by omega)).mono ?_; rintro e' w5 ⟨v5, rfl, hO5, hW5, hB5⟩; have hsz5 := hB5.size)
        | (refine step_append_Own (by rfl) _ _ _ (by rfl) 34 (.agg #[.int .i64 0, .int .i64 0, .bool false]) 3 24 Try.underlying25 info_entry rfl (by omega) w1.heap.size v5 es.length _ (by rfl) (hO5.alloc _) _ 0 1 [.int .i64 x.t, .int .i64 x.u, .bool x.s] (by rfl) (Rd.made w5 [.int .i64 x.t, .int .i64 x.u, .bool x.s] _ 0 3 1 rfl (Nat.zero_le _) (by decide)) (by intro u hu; simp at hu; rcases hu with rfl | rfl | rfl <;> rfl) (by unfold maxLen; omega) (by omega) (by simp; omega) ?_
           intro v6 w6 hO6 hg6 hk6
           have hB6 : Below w1.heap.size w1 w6 := hB5.trans (Below.trans ((Below.refl _ _).alloc hsz5 _) (below_of_grownBy hg6 (by simp; omega) (fun k hk => (hO5.wblk hk).1))))
        | (refine step_append_Own (by rfl) _ _ _ (by rfl) 34 (.agg #[.int .i64 0, .int .i64 0, .bool false]) 3 24 Try.underlying25 info_entry rfl (by omega) w1.heap.size v5 es.length _ (by rfl) (hO5.alloc _) _ 0 1 [.int .i64 x.t, .int .i64 x.u, .bool x.s] (by rfl) (Rd.made w5 [.int .i64 x.t, .int .i64 x.u, .bool x.s] _ 0 3 1 rfl (Nat.zero_le _) (by decide)) (by intro u hu; simp at hu; rcases hu with rfl | rfl | rfl <;> rfl) (by unfold maxLen; omega) (by omega) (by show _ ≤ (w5.alloc _).heap.size; simp; omega) ?_
           intro v6 w6 hO6 hg6 hk6
           have hB6 : Below w1.heap.size w1 w6 := hB5.trans (Below.trans (((Below.refl _ _).alloc hsz5 _).drew) (below_of_grownBy hg6 (by show _ ≤ (w5.alloc _).heap.size; simp; omega) (fun k hk => (hO5.wblk hk).1))))
        | (refine step_append_Own (by rfl) _ _ _ (by rfl) 34 (.agg #[.int .i64 0, .int .i64 0, .bool false]) 3 24 Try.underlying25 info_entry rfl (by omega) w1.heap.size v5 es.length _ (by rfl) hO5 _ 0 1 [.int .i64 x.t, .int .i64 x.u, .bool x.s] (by rfl) (made4 w1 _ _ _ _ hW5) (by intro u hu; simp at hu; rcases hu with rfl | rfl | rfl <;> rfl) (by unfold maxLen; omega) (by omega) (by omega) ?_
           intro v6 w6 hO6 hg6 hk6
           have hB6 : Below w1.heap.size w1 w6 := hB5.trans (below_of_grownBy hg6 (by omega) (fun k hk => (hO5.wblk hk).1)))))
    all_goals
      have hE6 : Ents w6 w1.heap.size v6 (es ++ [x]) := by have := hO6.rd; simpa [Ents, entCells] using this
      have hl1 : (es ++ [x]).length = es.length + 1 := by simp
      have hcs : es.flatMap entCells ++ [.int .i64 x.t, .int .i64 x.u, .bool x.s] = (es ++ [x]).flatMap entCells := by simp [entCells]
      rw [hcs] at hO6
      have hsz1 := hT1.size
      have hT6 := hT1.trans (hB6.mono hT1.size)
      clear hO5 hg6 hk6 hcs
      by_cases hvb : validL (es ++ [x]) = true
      · have hF : Hid (addOk es x = true ∧ addE es x = es ++ [x]) := by unfold Hid addOk addE; rw [hva, hvb]; simp
        go_wp2_with fail
        go_at_call 15
        refine (impl_validLog _ _ _ (es ++ [x]) hE6).mono ?_; rintro e' w7 ⟨rfl, hB7⟩
        rw [hvb]
        have hR : Hid (Own w7 w.heap.size 34 3 v6 (addE es x).length ((addE es x).flatMap entCells) ∧ Below w.heap.size w w7) := by
          unfold Hid; rw [hF.out.2, hl1]; exact ⟨(hO6.below hB7 (Nat.le_refl _)).mono hsz1, hT6.trans (hB7.mono hT6.size)⟩
        have hok := Lib.hid hF.out.1
        clear hF hE6 hO6 hB6 hT6 hB7
        go_wp2
        go_ret2
        exact ⟨_, by rw [hok.out]; rfl, hR.out⟩
      · have hvb' : validL (es ++ [x]) = false := by simpa using hvb
        have hF : Hid (addOk es x = false ∧ addE es x = es) := by unfold Hid addOk addE; rw [hva, hvb']; simp
        go_wp2_with fail
        go_at_call 15
        refine (impl_validLog _ _ _ (es ++ [x]) hE6).mono ?_; rintro e' w7 ⟨rfl, hB7⟩
        rw [hvb']
        have hT7 := hT6.trans (hB7.mono hT6.size)
        have hv7 : Ents w7 lo _ es := Rd.below hv1 (hB6.trans (hB7.mono hB6.size)) (Nat.le_refl _) (by decide)
        clear hE6 hO6 hB6 hT6 hB7
        go_wp2_with fail
        go_at_call 36
        refine (clone_any _ lo _ es hv7 (by omega)).mono ?_; rintro e' w9 ⟨v9, rfl, hO9, hB9⟩
        have hR : Hid (Own w9 w.heap.size 34 3 v9 (addE es x).length ((addE es x).flatMap entCells) ∧ Below w.heap.size w w9) := by
          unfold Hid; rw [hF.out.2]
          exact ⟨hO9.mono hT7.size, hT7.trans (hB9.mono hT7.size)⟩
        have hok := Lib.hid hF.out.1
        clear hF hO9 hB9 hv7
        go_wp2
        go_ret2
        exact ⟨_, by rw [hok.out]; rfl, hR.out⟩
  · have hva : validL es = false := by simpa using hva
    have hF : Hid (addOk es x = false ∧ addE es x = []) := by unfold Hid addOk addE; rw [hva]; simp
    go_enter Try.func18, Try.ntmps18
    go_wp2_with fail
    go_at_call 15
    refine (impl_validLog _ _ _ es hvx).mono ?_; rintro e' w1 ⟨rfl, hB1⟩
    rw [hva]
    have hT1 := hBx.trans (hB1.mono hBx.size)
    have hR : Hid (Own w1 w.heap.size 34 3 (.slice none 0 0) (addE es x).length ((addE es x).flatMap entCells) ∧ Below w.heap.size w w1) := by
      unfold Hid; rw [hF.out.2]; exact ⟨Own.nil _ _ _ _, hT1⟩
    have hok := Lib.hid hF.out.1
    clear hF
    go_wp2
    go_ret2
    exact ⟨_, by rw [hok.out]; rfl, hR.out⟩
end Go.Proofs.Ytfdnkfhldgcnmaa
