/- markIntS, heldIntS, each proved once. -/
import Derived.Test.YteeikhkcdlcnhaaDoorProg
import Derived.Test.YteeikhkcdlcnhaaDoorKit
import Derived.Outline
import Derived.Deep.QuietTactic
import Derived.BigQuiet
namespace Go.Proofs.YteeikhkcdlcnhaaDoor
open Go.RowKit

/-- What markIntS leaves. -/
def marksI (k n : Nat) : List Value := (List.range n).map fun (i : Nat) => .int .i64 ((k : Int) + (i : Int))

theorem markIntS_any (w : World) (lo : Nat) (v : Value) (n k : Nat) (cs : List Value) (hv : Own w lo 3 1 v n cs) (hk : k + n ≤ 1000000000000000) :
    Calls Tryd.prog 34 #[v, .int .i64 k] w fun e w' => e = .returned (.int .i64 ((k : Int) + n)) ∧ Own w' lo 3 1 v n (marksI k n) ∧ w.grownBy w' (wblk v) := by
  obtain ⟨ao, cap, rfl, hcap, hm⟩ := hv.form
  go_enter Tryd.func34, Tryd.ntmps34
  go_wp2
  go_loopw [1, 5] (fun kk i wo => ∃ j : Nat, ∃ cs, j ≤ n ∧ i = .int .i64 j ∧ kk = .int .i64 ((k : Int) + j) ∧ Own wo lo 3 1 (.slice ao n cap) n cs ∧ (∀ i, i < j → cs[i]? = (marksI k n)[i]?) ∧ w.grownBy wo (wblk (.slice ao n cap)))
    (fun _ i _ => n - (intOf i).toNat)
  case atStart => exact ⟨0, cs, Nat.zero_le _, rfl, by simp, hv, fun i hi => by omega, grownBy_refl _ _⟩
  case round =>
    clear hv
    obtain ⟨j, cs, hj, rfl, rfl, hO, hcs, hG⟩ := hrel
    have hlen := hO.len
    by_cases hlt : j < n
    · obtain ⟨g, rfl, _, hg2, hcell, hfr, hset⟩ := hO.parts (by omega)
      have hd := hcell j (by omega)
      have hf := hfr j
      have hS := hset j (.int .i64 ((k : Int) + (j : Int)))
      clear hcell hfr hset
      have HC : Hid _ := hcs
      have HO : Hid _ := hO
      clear hcs hO
      go_wp2
      go_roundw
      case rel => exact ⟨j + 1, _, by omega, by go_num, by go_num, hS.1, fun i hi => by
        have hcs := HC.out
        by_cases h : i = j
        · subst h; rw [List.getElem?_set_self (by omega)]; simp [marksI, hlt]
        · rw [List.getElem?_set_ne (by omega)]; exact hcs i (by omega), grownBy_trans hG (hS.2) (fun x hx => .inl (by cases hx; simp [wblk]; omega))⟩
      case measure => simp [intOf]; omega
    · go_wp2
      go_ret
      obtain rfl : j = n := by omega
      refine ⟨rfl, ?_, hG⟩
      rw [← list_eq_of (cs := cs) (ds := marksI k j) (n := j) (by omega) (by simp [marksI]) (fun i hi => hcs i (by omega))]
      exact hO

theorem heldIntS_any (w : World) (lo : Nat) (v : Value) (n k : Nat) (hv : Rd w lo v 1 n (marksI k n)) (hk : k + n ≤ 1000000000000000) :
    Calls Tryd.prog 35 #[v, .int .i64 k] w fun e w' => e = .returned (.int .i64 ((k : Int) + n)) ∧ w = w' := by
  obtain ⟨ao, cap, rfl, hcap, hm⟩ := hv.form
  obtain ⟨_, hl, _, _, hc⟩ := hv.cell
  clear hv
  go_enter Tryd.func35, Tryd.ntmps35
  go_wp2
  go_loop [1, 5] (fun kk i => ∃ j : Nat, j ≤ n ∧ i = .int .i64 j ∧ kk = .int .i64 ((k : Int) + j)) (fun _ i => n - (intOf i).toNat)
  case atStart => exact ⟨0, Nat.zero_le _, rfl, by simp⟩
  case round =>
    obtain ⟨j, hj, rfl, rfl⟩ := hrel
    by_cases hlt : j < n
    · have hc2 := hc (by omega)
      clear hc
      obtain ⟨b, off, rfl, _, hb, hc⟩ := hc2
      have hs := hc j (by omega)
      simp only [marksI, List.getElem_map, List.getElem_range] at hs
      have hne : (!((k : Int) + (j : Int) == (k : Int) + (j : Int))) = false := by simp
      clear hc
      go_wp2
      go_round
      case rel => exact ⟨j + 1, by omega, by go_num, by go_num⟩
      case measure => simp [intOf]; omega
    · clear hc
      go_wp2
      go_ret
      obtain rfl : j = n := by omega
      exact ⟨rfl, rfl⟩

end Go.Proofs.YteeikhkcdlcnhaaDoor
