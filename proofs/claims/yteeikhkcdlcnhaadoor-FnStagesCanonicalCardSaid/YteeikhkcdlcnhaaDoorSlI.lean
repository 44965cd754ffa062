/- Copies and comparisons of []int: toIntS, eqIntS, each proved once. -/
import Derived.Test.YteeikhkcdlcnhaaDoorProg
import Derived.Test.YteeikhkcdlcnhaaDoorKit
import Derived.Outline
import Derived.Deep.QuietTactic
import Derived.BigQuiet
namespace Go.Proofs.YteeikhkcdlcnhaaDoor
open Go.RowKit

theorem toIntS_any (w : World) (v : Value) (xs : List Int) (hv : Ints w 0 v xs) (hn : xs.length ≤ 2097152) :
    Calls Tryd.prog 46 #[v] w fun e w' => ∃ v', e = .returned v' ∧ Own w' w.heap.size 3 1 v' xs.length (xs.map (.int .i64)) ∧ Below w.heap.size w w' := by
  obtain ⟨ao, cap, rfl, hcap, hm⟩ := hv.form
  obtain ⟨i0, hi, hz0, hz1, hz2⟩ := info_parts (show (Tryd.prog.info? 3).map (fun i => (i.zero, i.size, i.bytes)) = some (some (.int .i64 0), 1, 8) by kernel_rfl)
  obtain ⟨_, hl, _, _, hc⟩ := hv.cell
  clear hv
  go_enter Tryd.func46, Tryd.ntmps46
  go_wp2_with (at_make; refine wpList_make_full _ rfl _ _ 38 rfl w.heap.size 3 i0 (.int .i64 0) 1 Tryd.underlying38 hi hz0 hz1 .i64 .i64 xs.length xs.length xs.length rfl rfl rfl rfl (by rw [hz2]; omega) (by unfold maxLen; omega) (Nat.le_refl _) ?_; intro w1 hown hg1)
  have hO : Own w1 w.heap.size 3 1 (.slice (some ⟨w.heap.size, 0, none⟩) xs.length xs.length) xs.length (madeCells (Value.int .i64 0).cells (xs.length * 1)).toList := .inl hown
  have hB := below_of_grownBy hg1 (Nat.le_refl _) (fun k hk => by cases hk)
  clear hown hg1
  go_loopw [4] (fun i wr => ∃ k : Nat, ∃ cs, k ≤ xs.length ∧ i = .int .i64 k ∧ Own wr w.heap.size 3 1 (.slice (some ⟨w.heap.size, 0, none⟩) xs.length xs.length) xs.length cs ∧ (∀ i, i < k → cs[i]? = (xs.map (Value.int .i64))[i]?) ∧ Below w.heap.size w wr)
    (fun i _ => xs.length - (intOf i).toNat)
  case atStart => exact ⟨0, _, Nat.zero_le _, rfl, hO, fun i hi => by omega, hB⟩
  case round =>
    clear hO hB
    obtain ⟨k, cs, hk, rfl, hO, hcs, hB⟩ := hrel
    have hlen := hO.len
    by_cases hlt : k < xs.length
    · have hc2 := hc (by omega)
      clear hc
      obtain ⟨b, off, rfl, _, hb, hc⟩ := hc2
      have hs := hc k (by omega)
      rw [← hB.cell (p := ⟨b, off + k, none⟩) hb] at hs
      obtain ⟨g, hg, _, hg2, hcell, hfr, hset⟩ := hO.parts (by omega)
      cases hg
      have hd := hcell k (by omega)
      have hf := hfr k
      have hS := hset k (.int .i64 xs[k])
      simp only [List.getElem_map] at hs
      clear hcell hfr hset hc
      have HC : Hid _ := hcs
      clear hcs
      go_wp2
      go_roundw
      case rel => exact ⟨k + 1, _, by omega, by go_num, hS.1, fun i hi => by
        have hcs := HC.out
        by_cases h : i = k
        · subst h; rw [List.getElem?_set_self (by omega)]; simp [hlt]
        · rw [List.getElem?_set_ne (by omega)]; exact hcs i (by omega), hB.setCell (Nat.le_refl _) _⟩
      case measure => simp [intOf]; omega
    · clear hc
      go_wp2
      go_ret
      refine ⟨_, rfl, ?_, hB⟩
      rw [← list_eq_of (cs := cs) (ds := xs.map (Value.int .i64)) (n := xs.length) (by omega) (by simp) (fun i hi => hcs i (by omega))]
      exact hO

theorem eqIntS_same (w : World) (va vb : Value) (xs : List Int) (ha : Ints w 0 va xs) (hb : Ints w 0 vb xs) :
    Calls Tryd.prog 50 #[va, vb] w fun e w' => e = .returned (.bool true) ∧ Below w.heap.size w w' := by
  obtain ⟨ao, cap, rfl, hcap, hm⟩ := ha.form
  obtain ⟨ao', cap', rfl, hcap', hm'⟩ := hb.form
  obtain ⟨_, hl, _, _, hc⟩ := ha.cell
  obtain ⟨_, hl', _, _, hc'⟩ := hb.cell
  clear ha hb
  go_enter Tryd.func50, Tryd.ntmps50
  go_wp2
  go_loopw [5] (fun i wr => ∃ k : Nat, k ≤ xs.length ∧ i = .int .i64 k ∧ Below w.heap.size w wr) (fun i _ => xs.length - (intOf i).toNat)
  case atStart => exact ⟨0, Nat.zero_le _, rfl, Below.refl _ _⟩
  case round =>
    obtain ⟨k, hk, rfl, hB⟩ := hrel
    by_cases hlt : k < xs.length
    · have hc2 := hc (by omega)
      have hc2' := hc' (by omega)
      clear hc hc'
      obtain ⟨b, off, rfl, _, hb, hc⟩ := hc2
      obtain ⟨b', off', rfl, _, hb', hc'⟩ := hc2'
      have hs := hc k (by omega)
      have hs' := hc' k (by omega)
      rw [← hB.cell (p := ⟨b, off + k, none⟩) hb] at hs
      rw [← hB.cell (p := ⟨b', off' + k, none⟩) hb'] at hs'
      simp only [List.getElem_map] at hs hs'
      have hne : (!(xs[k] == xs[k])) = false := by simp
      clear hc hc'
      go_wp2
      go_quiet (fail)
      go_wp2
      go_roundw
      case rel => exact ⟨k + 1, by omega, by go_num, below_drewN hB _⟩
      case measure => simp [intOf]; omega
    · clear hc hc'
      go_wp2
      go_ret
      exact ⟨rfl, hB⟩

end Go.Proofs.YteeikhkcdlcnhaaDoor
