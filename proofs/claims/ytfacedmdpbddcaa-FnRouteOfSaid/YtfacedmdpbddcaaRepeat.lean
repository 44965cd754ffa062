/- slices.Repeat of one number, at most eight times. -/
import Derived.Test.YtfacedmdpbddcaaProg
import Derived.Test.YtfacedmdpbddcaaKit
import Derived.Laws.CopyOwn
import Derived.Outline
import Derived.Deep.RegionHeld3
import Derived.IntWalk
namespace Go.Proofs.Ytfacedmdpbddcaa
open Go.RowKit
set_option linter.unusedVariables false
set_option linter.unusedSimpArgs false

theorem mul_any (n : Nat) (w : World) (h1 : 1 ≤ n) (h8 : n ≤ 8) :
    Calls Try.prog 39 #[.int .u64 1, .int .u64 n] w fun e w' => e = .returned (.tuple #[.int .u64 0, .int .u64 n]) ∧ w = w' := by
  have h : n = 1 ∨ n = 2 ∨ n = 3 ∨ n = 4 ∨ n = 5 ∨ n = 6 ∨ n = 7 ∨ n = 8 := by omega
  rcases h with rfl | rfl | rfl | rfl | rfl | rfl | rfl | rfl
  all_goals
    go_enter Try.func39, Try.ntmps39
    go_wp2
    go_ret2
    exact ⟨rfl, rfl⟩

theorem splice_rep {cur : List Value} {m k : Nat} {u : Value} (h : cur.take m = List.replicate m u) (hm : m ≤ cur.length) : (splice cur m (List.replicate k u)).take (m + k) = List.replicate (m + k) u := by
  unfold splice
  rw [h, ← List.append_assoc, List.replicate_append_replicate, List.take_append_of_le_length (by simp)]
  exact List.take_of_length_le (by simp)

theorem addr_add0 (b off i : Nat) : (⟨b, off, none⟩ : Addr).add i = ⟨b, off + i, none⟩ := by unfold Addr.add; split <;> simp_all
theorem made_row {w : World} {lo e g n : Nat} {cs : List Value} (h : w.ownsRow lo e 1 (.slice (some ⟨g, 0, none⟩) n n) n cs) : ∃ cur : List Value, cur.length = n ∧ w.heap[g]? = some (.cells cur.toArray e (0, 0)) := by
  rcases h.2 with ⟨h1, _⟩ | ⟨g', cap', cur, hv, hb, hg, hnc, hcm, hcs, htake⟩
  · cases h1
  · cases hv
    exact ⟨cur.toList, by simpa using hcs, by simpa using hg⟩
theorem rep_get {n j : Nat} {u v : Value} (h : (List.replicate n u)[j]? = some v) : j < n ∧ v = u := by
  rw [List.getElem?_replicate] at h
  split at h
  · exact ⟨by assumption, by simpa using h.symm⟩
  · cases h
theorem take_get {cur : List Value} {m j : Nat} {u : Value} (h : cur.take m = List.replicate m u) (hj : j < m) : cur[j]? = some u := by
  have := congrArg (fun l => l[j]?) h
  simp only [List.getElem?_take_of_lt hj, List.getElem?_replicate, if_pos hj] at this
  exact this

set_option maxHeartbeats 2000000 in
theorem repeat_any (w : World) (v : Value) (n : Nat) (hv : Ints w 0 v [-1]) (h1 : 1 ≤ n) (h8 : n ≤ 8) :
    Calls Try.prog 34 #[v, .int .i64 n] w fun e w' => ∃ v', e = .returned v' ∧ Own w' w.heap.size 3 1 v' n ((List.replicate n (-1)).map (Value.int .i64)) ∧ Below w.heap.size w w' := by
  obtain ⟨ao, cap, rfl, hcap, hm⟩ := hv.form
  obtain ⟨i0, hi, hz0, hz1, hz2⟩ := info_parts (show (Try.prog.info? 3).map (fun i => (i.zero, i.size, i.bytes)) = some (some (.int .i64 0), 1, 8) by kernel_rfl)
  obtain ⟨b, off, rfl, _, hb, hc⟩ := hv.spot 0 (by simp)
  have hc0 : w.cell? ⟨b, off, none⟩ = some (.int .i64 (-1)) := by have := hc 0 (by simp); simpa using this
  have HV := Lib.hid hv
  clear hv hc
  have e1 : ((([-1] : List Int).length : Nat) : Int) = 1 := rfl
  go_enter Try.func34, Try.ntmps34
  go_wp2_with (first
    | (go_at_call 39; refine (mul_any n _ h1 h8).mono ?_; rintro e w' ⟨rfl, rfl⟩)
    | (at_make; refine wpList_make_full _ rfl _ _ 32 rfl w.heap.size 3 i0 (.int .i64 0) 1 Try.underlying32 hi hz0 hz1 .i64 .i64 n n n rfl rfl rfl rfl (by rw [hz2]; omega) (by unfold maxLen; omega) (Nat.le_refl _) ?_; intro w1 hown hg1; have hB1 := below_of_grownBy hg1 (Nat.le_refl _) (fun k hk => by cases hk); obtain ⟨cur, hcl, hcg⟩ := made_row hown; clear hown hg1; have hc1 := (hB1.cell (p := ⟨b, off, none⟩) hb).trans hc0)
    | ((with_reducible refine wpList_copy_splice rfl (.tmp 31) (.tmp 32) 32 32 rfl 3 Try.underlying32 (by kernel_rfl) (some ⟨w.heap.size, 0, none⟩) (some ⟨b, off, none⟩) n n 1 cap rfl rfl w.heap.size 0 cur 3 hcg [.int .i64 (-1)] (by simp [Nat.min_eq_left, h1]) (fun _ => ⟨rfl, _, rfl, fun j v hj => by
        cases j with
        | zero => simp at hj; subst hj; rw [addr_add0, Nat.add_zero]; exact hc1
        | succ j => simp at hj⟩) (by simp; omega) (by simp [Value.oneCell']) w.heap.size w hB1 (Nat.le_refl _) ?_); intro w2 HG2 hB2))
  have hst : (splice cur 0 [.int .i64 (-1)]).take 1 = List.replicate 1 (.int .i64 (-1)) := by simp [splice]
  have hsl : (splice cur 0 [Value.int .i64 (-1)]).length = n := by rw [length_splice _ _ _ (by simp; omega)]; exact hcl
  obtain ⟨c1, hc1'⟩ : ∃ c1, c1 = splice cur 0 [Value.int .i64 (-1)] := ⟨_, rfl⟩
  rw [← hc1'] at hst hsl HG2
  clear hc1' hcl hcg hc1 hB1 hc0
  go_loopw [8] (fun i wo => ∃ m : Nat, ∃ cur : List Value, 1 ≤ m ∧ m ≤ n ∧ i = .int .i64 m ∧ cur.length = n ∧ cur.take m = List.replicate m (.int .i64 (-1)) ∧ Hid (wo.heap[w.heap.size]? = some (.cells cur.toArray 3 (0, 0))) ∧ Below w.heap.size w wo)
    (fun i _ => n - (intOf i).toNat)
  case atStart => exact ⟨1, c1, by omega, h1, rfl, hsl, hst, HG2, hB2⟩
  case round =>
    clear hst hsl HG2 hB2
    obtain ⟨m, cu, hm1, hmn, rfl, hcl, hct, HG, hB⟩ := hrel
    by_cases hlt : m < n
    · have hg := HG.out
      have hcell : ∀ j, j < m → wr.cell? ⟨w.heap.size, j, none⟩ = some (.int .i64 (-1)) := fun j hj => by
        rw [cell_of_row _ w.heap.size j cu.toArray 3 (0, 0) hg]
        simpa using take_get hct hj
      obtain ⟨k, hk⟩ : ∃ k, k = Nat.min m (n - m) := ⟨_, rfl⟩
      have hk1 : k ≤ m := by rw [hk]; exact Nat.min_le_left _ _
      have hk2 : k ≤ n - m := by rw [hk]; exact Nat.min_le_right _ _
      have hk3 : 1 ≤ k := by rw [hk]; exact Nat.le_min.2 ⟨hm1, by omega⟩
      have HC := Lib.hid hcell
      have HK := Lib.hid hk
      have HT := Lib.hid hct
      have HL := Lib.hid hcl
      clear hcell hk hct hcl hg
      have hm0 : (0 : Int) ≤ (m : Int) := by omega
      have hmi : (m : Int) ≤ (n : Int) := by omega
      go_wp2_with fail
      have hne : ¬ n = m := by omega
      have hmn' : m + k ≤ n := by omega
      have hcl' : m + k ≤ cu.length := by rw [HL.out]; exact hmn'
      go_region_held3 (fun w' => Below w.heap.size w w')
        (first | go_keep | exact Below.drew hB | exact hB4)
        ((refine step_copy_splice (by rfl) (.tmp 41) (.tmp 44) 32 32 (by rfl) 3 Try.underlying32 (by kernel_rfl) (some ⟨w.heap.size, m, none⟩) (some ⟨w.heap.size, 0, none⟩) (n - m) (n - m) m n (by rfl) (by rfl) w.heap.size m cu 3 HG.out (List.replicate k (.int .i64 (-1))) (by rw [List.length_replicate]; exact HK.out) (fun _ => ⟨rfl, _, rfl, fun j v hj => by
          obtain ⟨h1, rfl⟩ := rep_get hj
          rw [addr_add0, Nat.zero_add]
          exact HC.out j (by omega)⟩) (by rw [List.length_replicate]; exact hcl') (by intro v hv; obtain ⟨_, rfl⟩ := List.mem_replicate.1 hv; rfl) w.heap.size w (Below.drew hB) (Nat.le_refl _) ?_; intro w4 HG4 hB4))
      have wr1 : IntKind.i64.wrap ((m : Int) + (k : Int)) = (m : Int) + (k : Int) := IntWalk.i64_in _ (by omega)
      simp only [List.length_replicate, wr1]
      clear wr1
      have hnx := splice_rep (k := k) HT.out (by rw [HL.out]; exact hmn)
      have hln : (splice cu m (List.replicate k (Value.int .i64 (-1)))).length = n := by rw [length_splice _ _ _ (by rw [List.length_replicate]; exact hcl')]; exact HL.out
      obtain ⟨c4, hc4⟩ : ∃ c4, c4 = splice cu m (List.replicate k (Value.int .i64 (-1))) := ⟨_, rfl⟩
      rw [← hc4] at hnx hln HG4
      clear hc4 hne
      go_wp2_with fail
      go_roundw
      case rel => exact ⟨m + k, c4, by omega, hmn', by go_num, hln, hnx, HG4, hB4⟩
      case measure => simp [intOf]; omega
    · obtain rfl : m = n := by omega
      have HO : Hid (Own wr w.heap.size 3 1 (.slice (some ⟨w.heap.size, 0, none⟩) m m) m ((List.replicate m (-1)).map (Value.int .i64))) := by
        rw [List.map_replicate]
        have e : cu = List.replicate m (.int .i64 (-1)) := by rw [← hct, List.take_of_length_le (by omega)]
        refine .inl ⟨by simp, .inr ⟨w.heap.size, m, cu.toArray, rfl, Nat.le_refl _, HG.out, Nat.le_refl _, by unfold maxLen; omega, by simp [hcl], by rw [e]; simp⟩⟩
      clear hcl hct HG
      go_wp2_with fail
      go_ret
      exact ⟨_, rfl, HO.out, hB⟩
end Go.Proofs.Ytfacedmdpbddcaa
