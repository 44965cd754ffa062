/- Copies, comparisons and marks of []bool: toBoolS, eqBoolS, equalBools, markBoolS, heldBoolS, each proved once. -/
import Derived.Test.YtmckkbokebapcaaProg
import Derived.Test.YtmckkbokebapcaaKit
import Derived.Outline
import Derived.Deep.QuietTactic
import Derived.BigQuiet
namespace Go.Proofs.Ytmckkbokebapcaa
open Go.RowKit

theorem toBoolS_any (w : World) (v : Value) (xs : List Bool) (hv : Bools w 0 v xs) (hn : xs.length ≤ 2097152) :
    Calls Try.prog 14 #[v] w fun e w' => ∃ v', e = .returned v' ∧ Own w' w.heap.size 4 1 v' xs.length (xs.map .bool) ∧ Below w.heap.size w w' := by
  obtain ⟨ao, cap, rfl, hcap, hm⟩ := hv.form
  obtain ⟨i0, hi, hz0, hz1, hz2⟩ := info_parts (show (Try.prog.info? 4).map (fun i => (i.zero, i.size, i.bytes)) = some (some (.bool false), 1, 1) by kernel_rfl)
  obtain ⟨_, hl, _, _, hc⟩ := hv.cell
  clear hv
  go_enter Try.func14, Try.ntmps14
  go_wp2_with (at_make; refine wpList_make_full _ rfl _ _ 22 rfl w.heap.size 4 i0 (.bool false) 1 Try.underlying22 hi hz0 hz1 .i64 .i64 xs.length xs.length xs.length rfl rfl rfl rfl (by rw [hz2]; omega) (by unfold maxLen; omega) (Nat.le_refl _) ?_; intro w1 hown hg1)
  have hO : Own w1 w.heap.size 4 1 (.slice (some ⟨w.heap.size, 0, none⟩) xs.length xs.length) xs.length (madeCells (Value.bool false).cells (xs.length * 1)).toList := .inl hown
  have hB := below_of_grownBy hg1 (Nat.le_refl _) (fun k hk => by cases hk)
  clear hown hg1
  go_loopw [4] (fun i wr => ∃ k : Nat, ∃ cs, k ≤ xs.length ∧ i = .int .i64 k ∧ Own wr w.heap.size 4 1 (.slice (some ⟨w.heap.size, 0, none⟩) xs.length xs.length) xs.length cs ∧ (∀ i, i < k → cs[i]? = (xs.map Value.bool)[i]?) ∧ Below w.heap.size w wr)
    (fun i _ => xs.length - (intOf i).toNat)
  case atStart => exact ⟨0, _, Nat.zero_le _, rfl, hO, fun i hi => by omega, hB⟩
  case round =>
    clear hO hB
    obtain ⟨k, cs, hk, rfl, hO, hcs, hB⟩ := hrel
    have hlen := hO.len
    by_cases hlt : k < xs.length
    · have hc2 := hc (by omega)
      clear hc
      obtain ⟨b, off, rfl, _, hb, hc⟩ := hc2
      have hs := hc k (by omega)
      rw [← hB.cell (p := ⟨b, off + k, none⟩) hb] at hs
      obtain ⟨g, hg, _, hg2, hcell, hfr, hset⟩ := hO.parts (by omega)
      cases hg
      have hd := hcell k (by omega)
      have hf := hfr k
      have hS := hset k (.bool xs[k])
      simp only [List.getElem_map] at hs
      clear hcell hfr hset hc
      have HC : Hid _ := hcs
      clear hcs
      go_wp2
      go_roundw
      case rel => exact ⟨k + 1, _, by omega, by go_num, hS.1, fun i hi => by
        have hcs := HC.out
        by_cases h : i = k
        · subst h; rw [List.getElem?_set_self (by omega)]; simp [hlt]
        · rw [List.getElem?_set_ne (by omega)]; exact hcs i (by omega), hB.setCell (Nat.le_refl _) _⟩
      case measure => simp [intOf]; omega
    · clear hc
      go_wp2
      go_ret
      refine ⟨_, rfl, ?_, hB⟩
      rw [← list_eq_of (cs := cs) (ds := xs.map Value.bool) (n := xs.length) (by omega) (by simp) (fun i hi => hcs i (by omega))]
      exact hO

theorem eqBoolS_same (w : World) (va vb : Value) (xs : List Bool) (ha : Bools w 0 va xs) (hb : Bools w 0 vb xs) :
    Calls Try.prog 16 #[va, vb] w fun e w' => e = .returned (.bool true) ∧ Below w.heap.size w w' := by
  obtain ⟨ao, cap, rfl, hcap, hm⟩ := ha.form
  obtain ⟨ao', cap', rfl, hcap', hm'⟩ := hb.form
  obtain ⟨_, hl, _, _, hc⟩ := ha.cell
  obtain ⟨_, hl', _, _, hc'⟩ := hb.cell
  clear ha hb
  go_enter Try.func16, Try.ntmps16
  go_wp2
  go_loopw [5] (fun i wr => ∃ k : Nat, k ≤ xs.length ∧ i = .int .i64 k ∧ Below w.heap.size w wr) (fun i _ => xs.length - (intOf i).toNat)
  case atStart => exact ⟨0, Nat.zero_le _, rfl, Below.refl _ _⟩
  case round =>
    obtain ⟨k, hk, rfl, hB⟩ := hrel
    by_cases hlt : k < xs.length
    · have hc2 := hc (by omega)
      have hc2' := hc' (by omega)
      clear hc hc'
      obtain ⟨b, off, rfl, _, hb, hc⟩ := hc2
      obtain ⟨b', off', rfl, _, hb', hc'⟩ := hc2'
      have hs := hc k (by omega)
      have hs' := hc' k (by omega)
      rw [← hB.cell (p := ⟨b, off + k, none⟩) hb] at hs
      rw [← hB.cell (p := ⟨b', off' + k, none⟩) hb'] at hs'
      simp only [List.getElem_map] at hs hs'
      have hne : (!(xs[k] == xs[k])) = false := by simp
      clear hc hc'
      go_wp2
      go_quiet (fail)
      go_wp2
      go_roundw
      case rel => exact ⟨k + 1, by omega, by go_num, below_drewN hB _⟩
      case measure => simp [intOf]; omega
    · clear hc hc'
      go_wp2
      go_ret
      exact ⟨rfl, hB⟩

theorem equalBools_same (w : World) (va vb : Value) (xs : List Bool) (ha : Bools w 0 va xs) (hb : Bools w 0 vb xs) :
    Calls Try.prog 30 #[va, vb] w fun e w' => e = .returned (.bool true) ∧ Below w.heap.size w w' := by
  obtain ⟨ao, cap, rfl, hcap, hm⟩ := ha.form
  obtain ⟨ao', cap', rfl, hcap', hm'⟩ := hb.form
  obtain ⟨_, hl, _, _, hc⟩ := ha.cell
  obtain ⟨_, hl', _, _, hc'⟩ := hb.cell
  clear ha hb
  go_enter Try.func30, Try.ntmps30
  go_wp2
  go_loopw [5] (fun i wr => ∃ k : Nat, k ≤ xs.length ∧ i = .int .i64 k ∧ Below w.heap.size w wr) (fun i _ => xs.length - (intOf i).toNat)
  case atStart => exact ⟨0, Nat.zero_le _, rfl, Below.refl _ _⟩
  case round =>
    obtain ⟨k, hk, rfl, hB⟩ := hrel
    by_cases hlt : k < xs.length
    · have hc2 := hc (by omega)
      have hc2' := hc' (by omega)
      clear hc hc'
      obtain ⟨b, off, rfl, _, hb, hc⟩ := hc2
      obtain ⟨b', off', rfl, _, hb', hc'⟩ := hc2'
      have hs := hc k (by omega)
      have hs' := hc' k (by omega)
      rw [← hB.cell (p := ⟨b, off + k, none⟩) hb] at hs
      rw [← hB.cell (p := ⟨b', off' + k, none⟩) hb'] at hs'
      simp only [List.getElem_map] at hs hs'
      have hne : (!(xs[k] == xs[k])) = false := by simp
      clear hc hc'
      go_wp2
      go_quiet (fail)
      go_wp2
      go_roundw
      case rel => exact ⟨k + 1, by omega, by go_num, below_drewN hB _⟩
      case measure => simp [intOf]; omega
    · clear hc hc'
      go_wp2
      go_ret
      exact ⟨rfl, hB⟩

/-- What markBoolS leaves. -/
def marksB (k n : Nat) : List Value := (List.range n).map fun (i : Nat) => .bool (((k : Int) + (i : Int)) % 3 == 0)

theorem markBoolS_any (w : World) (lo : Nat) (v : Value) (n k : Nat) (cs : List Value) (hv : Own w lo 4 1 v n cs) (hk : k + n ≤ 1000000000000) :
    Calls Try.prog 27 #[v, .int .i64 k] w fun e w' => e = .returned (.int .i64 ((k : Int) + n)) ∧ Own w' lo 4 1 v n (marksB k n) ∧ w.grownBy w' (wblk v) := by
  obtain ⟨ao, cap, rfl, hcap, hm⟩ := hv.form
  go_enter Try.func27, Try.ntmps27
  go_wp2
  go_loopw [1, 5] (fun kk i wo => ∃ j : Nat, ∃ cs, j ≤ n ∧ i = .int .i64 j ∧ kk = .int .i64 ((k : Int) + j) ∧ Own wo lo 4 1 (.slice ao n cap) n cs ∧ (∀ i, i < j → cs[i]? = (marksB k n)[i]?) ∧ w.grownBy wo (wblk (.slice ao n cap)))
    (fun _ i _ => n - (intOf i).toNat)
  case atStart => exact ⟨0, cs, Nat.zero_le _, rfl, by simp, hv, fun i hi => by omega, grownBy_refl _ _⟩
  case round =>
    clear hv
    obtain ⟨j, cs, hj, rfl, rfl, hO, hcs, hG⟩ := hrel
    have hlen := hO.len
    by_cases hlt : j < n
    · obtain ⟨g, rfl, _, hg2, hcell, hfr, hset⟩ := hO.parts (by omega)
      have hd := hcell j (by omega)
      have hf := hfr j
      have hS := hset j (.bool (((k : Int) + (j : Int)) % 3 == 0))
      clear hcell hfr hset
      have HC : Hid _ := hcs
      have HO : Hid _ := hO
      clear hcs hO
      go_wp2
      go_roundw
      case rel => exact ⟨j + 1, _, by omega, by go_num, by go_num, hS.1, fun i hi => by
        have hcs := HC.out
        by_cases h : i = j
        · subst h; rw [List.getElem?_set_self (by omega)]; simp [marksB, hlt]
        · rw [List.getElem?_set_ne (by omega)]; exact hcs i (by omega), grownBy_trans hG (hS.2) (fun x hx => .inl (by cases hx; simp [wblk]; omega))⟩
      case measure => simp [intOf]; omega
    · go_wp2
      go_ret
      obtain rfl : j = n := by omega
      refine ⟨rfl, ?_, hG⟩
      rw [← list_eq_of (cs := cs) (ds := marksB k j) (n := j) (by omega) (by simp [marksB]) (fun i hi => hcs i (by omega))]
      exact hO

theorem heldBoolS_any (w : World) (lo : Nat) (v : Value) (n k : Nat) (hv : Rd w lo v 1 n (marksB k n)) (hk : k + n ≤ 1000000000000) :
    Calls Try.prog 28 #[v, .int .i64 k] w fun e w' => e = .returned (.int .i64 ((k : Int) + n)) ∧ w = w' := by
  obtain ⟨ao, cap, rfl, hcap, hm⟩ := hv.form
  obtain ⟨_, hl, _, _, hc⟩ := hv.cell
  clear hv
  go_enter Try.func28, Try.ntmps28
  go_wp2
  go_loop [1, 5] (fun kk i => ∃ j : Nat, j ≤ n ∧ i = .int .i64 j ∧ kk = .int .i64 ((k : Int) + j)) (fun _ i => n - (intOf i).toNat)
  case atStart => exact ⟨0, Nat.zero_le _, rfl, by simp⟩
  case round =>
    obtain ⟨j, hj, rfl, rfl⟩ := hrel
    by_cases hlt : j < n
    · have hc2 := hc (by omega)
      clear hc
      obtain ⟨b, off, rfl, _, hb, hc⟩ := hc2
      have hs := hc j (by omega)
      simp only [marksB, List.getElem_map, List.getElem_range] at hs
      have hne : (!((((k : Int) + (j : Int)) % 3 == 0) == (((k : Int) + (j : Int)) % 3 == 0))) = false := by simp
      clear hc
      go_wp2
      go_round
      case rel => exact ⟨j + 1, by omega, by go_num, by go_num⟩
      case measure => simp [intOf]; omega
    · clear hc
      go_wp2
      go_ret
      obtain rfl : j = n := by omega
      exact ⟨rfl, rfl⟩

end Go.Proofs.Ytmckkbokebapcaa
