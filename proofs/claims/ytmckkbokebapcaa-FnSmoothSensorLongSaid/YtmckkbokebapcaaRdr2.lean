/- Reader functions on lists: one, anyLength, randomBools. -/
import Derived.Test.YtmckkbokebapcaaRdr
namespace Go.Proofs.Ytmckkbokebapcaa
open Go.RowKit

theorem one_any (w : World) (rb p : Nat) (v : Value) (xs : List Int) (hr : Rdr w rb p) (hp : p ≤ 1000000000) (hv : Ints w (rb + 1) v xs) (hne : 0 < xs.length) (hne' : xs.length ≤ 1000) :
    Calls Try.prog 38 #[.pointer (some ⟨rb, 0, none⟩), v] w fun e w' => ∃ x : Int, e = .returned (.int .i64 x) ∧ Hid (x ∈ xs) ∧ Rdr w' rb (p + 1) ∧ w.grownBy w' (some rb) := by
  obtain ⟨ao, cap, rfl, hcap, hm⟩ := hv.form
  have hc' := hv.cell
  obtain ⟨_, _, _, _, hc'⟩ := hc'
  have hc'' := hc' hne
  clear hc'
  obtain ⟨b, off, rfl, hb, hb2, hc⟩ := hc''
  clear hv
  go_enter Try.func38, Try.ntmps38
  go_wp2_with (go_at_call 41; refine (pick_any _ _ _ _ hr hp (by omega)).mono ?_; rintro e w' ⟨x, rfl, ⟨hx0, hx1, hx2⟩, hr', hg⟩; have hx3 := hx1 (by omega); clear hx1; have hcx : w'.cell? ⟨b, off + x.toNat, none⟩ = some (.int .i64 (xs.getD x.toNat 0)) := by (rw [← show w.cell? ⟨b, off + x.toNat, none⟩ = some (.int .i64 (xs.getD x.toNat 0)) by (rw [hc x.toNat (by simp; omega)]; simp [show x.toNat < xs.length by omega])]; exact World.cell?_of_block (hg.block b hb2 (by simp; omega))))
  go_ret
  exact ⟨_, rfl, (List.getElem_mem _ : _ ∈ xs), hr', hg⟩

theorem info_bool : (Try.prog.info? 4).map (fun i => (i.zero, i.size, i.bytes)) = some (some (.bool false), 1, 1) := by kernel_rfl
theorem info_int : (Try.prog.info? 3).map (fun i => (i.zero, i.size, i.bytes)) = some (some (.int .i64 0), 1, 8) := by kernel_rfl

theorem anyLength_any (w : World) (rb p : Nat) (m : Int) (hr : Rdr w rb p) (hp : p ≤ 1000000000) (hm : 0 ≤ m) (hm' : m ≤ 900) :
    Calls Try.prog 37 #[.pointer (some ⟨rb, 0, none⟩), .int .i64 m] w fun e w' => ∃ x : Int, e = .returned (.int .i64 x) ∧ (0 ≤ x ∧ x ≤ 1000) ∧ Rdr w' rb (p + 1) ∧ w.grownBy w' (some rb) := by
  have hlt := hr.lt
  have hr2 : ∀ o, Rdr (w.alloc o) rb p := fun o => hr.grown (World.grownBy_alloc w o none) (fun k hk => by cases hk)
  have hv := Rd.made w ([10, 20, 6, 30, 1, 0, m, m + 1].map (Value.int .i64)) 3 (rb + 1) 1 8 rfl (by omega) (by decide)
  go_enter Try.func37, Try.ntmps37
  go_wp2_with (go_at_call 38; refine (one_any _ rb p _ [10, 20, 6, 30, 1, 0, m, m + 1] (hr2 _) hp hv (by simp) (by simp)).mono ?_; rintro e w' ⟨x, rfl, hx, hr', hg⟩)
  go_ret
  refine ⟨_, rfl, ?_, hr', grownBy_trans (World.grownBy_alloc w _ _) hg (fun x h => .inl h)⟩
  have := hx.out
  simp at this
  omega

theorem randomBools_any (w : World) (rb p n : Nat) (hr : Rdr w rb p) (hp : p ≤ 1000000) (hn : n ≤ 100000) :
    Calls Try.prog 36 #[.pointer (some ⟨rb, 0, none⟩), .int .i64 n] w fun e w' => ∃ v, ∃ xs : List Bool, ∃ p', e = .returned v ∧ Own w' w.heap.size 4 1 v n (xs.map .bool) ∧ xs.length = n ∧ p' ≤ p + n + 1 ∧ Rdr w' rb p' ∧ w.grownBy w' (some rb) := by
  have hlt := hr.lt
  have hr2 : ∀ o, Rdr (w.alloc o) rb p := fun o => hr.grown (World.grownBy_alloc w o none) (fun k hk => by cases hk)
  go_enter Try.func36, Try.ntmps36
  go_wp2_with (go_at_call 41; refine (pick_any _ _ _ _ (hr2 _) (by omega) (by omega)).mono ?_; rintro e w' ⟨x, rfl, ⟨hx0, hx1, hx2⟩, hr', hg⟩)
  have hG : w.grownBy w' (some rb) := grownBy_trans (World.grownBy_alloc w _ _) hg (fun x h => .inl h)
  have hO : Own w' w.heap.size 4 1 (.slice (some ⟨w.heap.size, 0, none⟩) 0 0) 0 [] := (Own.made w [] 4 w.heap.size 1 0 rfl (Nat.le_refl _) (by decide)).grown hg (fun k hk => by cases hk; omega)
  clear hg hr2
  go_loopw [5, 6, 7] (fun v st i wr => ∃ k : Nat, ∃ xs : List Bool, ∃ p' s, k ≤ n ∧ i = .int .i64 k ∧ st = .bool s ∧ Own wr w.heap.size 4 1 v k (xs.map .bool) ∧ xs.length = k ∧ p' ≤ p + 1 + k ∧ Rdr wr rb p' ∧ w.grownBy wr (some rb))
    (fun _ _ i _ => n - (intOf i).toNat)
  case atStart => exact ⟨0, [], p + 1, _, Nat.zero_le _, rfl, rfl, hO, rfl, by omega, hr', hG⟩
  case round =>
    clear hr' hG hO
    obtain ⟨k, xs, p', s, hk, rfl, rfl, hO, hxs, hp', hr', hG⟩ := hrel
    have hsz := hG.size
    by_cases hkn : k < n
    · have hlen := hO.len
      go_wp2_with (first
        | (go_at_call 41; refine (pick_any _ _ _ _ hr' (by omega) (by omega)).mono ?_; rintro e w1 ⟨x, rfl, ⟨hx0, hx1, hx2⟩, hr1, hg1⟩; have hO1 := hO.grown hg1 (fun k hk => by cases hk; omega); have hs1 := hg1.size)
        | (at_builtin; refine wpList_append_one _ rfl _ _ 22 rfl 4 (.bool false) 1 Try.underlying22 info_bool rfl w.heap.size _ _ _ rfl hO1 _ _ rfl rfl (by omega) (by omega) (by omega) ?_; intro v' w2 hO2 hg2 _))
      all_goals
        go_roundw
        case rel => exact ⟨k + 1, xs ++ [_], p' + 1, _, by omega, by go_num, rfl, by simpa using hO2, by simp [hxs], by omega, hr1.grown hg2 (fun x hx => by have := hO.wblk hx; omega), grownBy_trans (grownBy_trans hG hg1 (fun x hx => .inl hx)) hg2 (fun x hx => .inr (hO.wblk hx).1)⟩
        case measure => simp [intOf]; omega
    · go_wp2
      go_ret
      exact ⟨_, xs, p', rfl, by rw [show n = k by omega]; exact hO, by omega, by omega, hr', hG⟩
end Go.Proofs.Ytmckkbokebapcaa
