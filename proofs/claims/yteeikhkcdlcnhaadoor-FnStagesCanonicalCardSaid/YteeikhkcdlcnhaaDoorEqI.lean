/- equalInts, proved once. -/
import Derived.Test.YteeikhkcdlcnhaaDoorProg
import Derived.Test.YteeikhkcdlcnhaaDoorKit
import Derived.Outline
import Derived.Deep.QuietTactic
import Derived.BigQuiet
namespace Go.Proofs.YteeikhkcdlcnhaaDoor
open Go.RowKit

theorem equalInts_same (w : World) (va vb : Value) (xs : List Int) (ha : Ints w 0 va xs) (hb : Ints w 0 vb xs) :
    Calls Tryd.prog 38 #[va, vb] w fun e w' => e = .returned (.bool true) ∧ Below w.heap.size w w' := by
  obtain ⟨ao, cap, rfl, hcap, hm⟩ := ha.form
  obtain ⟨ao', cap', rfl, hcap', hm'⟩ := hb.form
  obtain ⟨_, hl, _, _, hc⟩ := ha.cell
  obtain ⟨_, hl', _, _, hc'⟩ := hb.cell
  clear ha hb
  go_enter Tryd.func38, Tryd.ntmps38
  go_wp2
  go_loopw [5] (fun i wr => ∃ k : Nat, k ≤ xs.length ∧ i = .int .i64 k ∧ Below w.heap.size w wr) (fun i _ => xs.length - (intOf i).toNat)
  case atStart => exact ⟨0, Nat.zero_le _, rfl, Below.refl _ _⟩
  case round =>
    obtain ⟨k, hk, rfl, hB⟩ := hrel
    by_cases hlt : k < xs.length
    · have hc2 := hc (by omega)
      have hc2' := hc' (by omega)
      clear hc hc'
      obtain ⟨b, off, rfl, _, hb, hc⟩ := hc2
      obtain ⟨b', off', rfl, _, hb', hc'⟩ := hc2'
      have hs := hc k (by omega)
      have hs' := hc' k (by omega)
      rw [← hB.cell (p := ⟨b, off + k, none⟩) hb] at hs
      rw [← hB.cell (p := ⟨b', off' + k, none⟩) hb'] at hs'
      simp only [List.getElem_map] at hs hs'
      have hne : (!(xs[k] == xs[k])) = false := by simp
      clear hc hc'
      go_wp2
      go_quiet (fail)
      go_wp2
      go_roundw
      case rel => exact ⟨k + 1, by omega, by go_num, below_drewN hB _⟩
      case measure => simp [intOf]; omega
    · clear hc hc'
      go_wp2
      go_ret
      exact ⟨rfl, hB⟩

end Go.Proofs.YteeikhkcdlcnhaaDoor
