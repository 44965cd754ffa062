/- appendReversed, TwoWayBand: the program's. -/
import Derived.Test.YtbojkhmlfflakaaBo7
import Derived.Test.YtbojkhmlfflakaaRdr
import Derived.Deep.RegionHeld3
namespace Go.Proofs.Ytbojkhmlfflakaa
open Go.RowKit
set_option linter.unusedVariables false
set_option linter.unusedSimpArgs false

theorem rev_drop (xs : List Int) {k : Nat} (hk : k < xs.length) : (xs.drop k).reverse = (xs.drop (k + 1)).reverse ++ [xs.getD k 0] := by
  rw [List.drop_eq_getElem_cons hk, List.reverse_cons, List.getD_eq_getElem?_getD, List.getElem?_eq_getElem hk]; rfl
def RevRet (w : World) (xs : List Int) (e : Ending) (w' : World) : Prop :=
  ∃ v', e = .returned v' ∧ Own w' w.heap.size 3 1 v' xs.length (xs.reverse.map (Value.int .i64)) ∧ Below w.heap.size w w'

set_option maxHeartbeats 4000000 in
theorem appendReversed_any (w : World) (lo : Nat) (v : Value) (xs : List Int) (hv : Ints w lo v xs) (hn : xs.length ≤ 1000000) :
    Calls Try.prog 19 #[.slice none 0 0, v] w (RevRet w xs) := by
  obtain ⟨ao, cap, rfl, hcap, hm⟩ := Rd.form hv
  have HX : Hid (0 < xs.length → ∃ b o, ao = some ⟨b, o, none⟩ ∧ b < w.heap.size ∧ ∀ i, i < xs.length → w.cell? ⟨b, o + i, none⟩ = some (.int .i64 (xs.getD i 0))) := fun h => by
    obtain ⟨b, o, e, _, hb, hx⟩ := Rd.spot 0 hv h
    exact ⟨b, o, e, hb, hx⟩
  have wr1 : IntKind.i64.wrap ((xs.length : Int) - 1) = (xs.length : Int) - 1 := IntWalk.i64_in _ (by omega)
  clear hv
  go_enter Try.func19, Try.ntmps19
  go_wp2_with fail
  go_loopw [0, 5] (fun rv i wo => ∃ k : Nat, k ≤ xs.length ∧ i = .int .i64 ((k : Int) - 1) ∧ Own wo w.heap.size 3 1 rv (xs.length - k) ((xs.drop k).reverse.map (Value.int .i64)) ∧ Below w.heap.size w wo) (fun rv i _ => (intOf i + 1).toNat)
  case atStart => exact ⟨xs.length, Nat.le_refl _, rfl, by rw [Nat.sub_self, List.drop_length]; exact Own.nil _ _ _ _, Below.refl _ _⟩
  case round =>
    obtain ⟨k, hk, rfl, hO, hB⟩ := hrel
    by_cases hk0 : 0 < k
    · obtain ⟨b, o, rfl, hb, hx⟩ := HX.out (by omega)
      obtain ⟨j, rfl⟩ : ∃ j, k = j + 1 := ⟨k - 1, by omega⟩
      have hj : j < xs.length := by omega
      have hcj := (hB.cell (p := ⟨b, o + j, none⟩) hb).trans (hx j hj)
      have hrd := rev_drop xs hj
      have e1 : ((j + 1 : Nat) : Int) - 1 = (j : Int) := by omega
      have wr2 : IntKind.i64.wrap ((j : Int) - 1) = (j : Int) - 1 := IntWalk.i64_in _ (by omega)
      have hsz := hB.size
      obtain ⟨y, hy⟩ : ∃ y, y = xs.getD j 0 := ⟨_, rfl⟩
      rw [← hy] at hcj hrd
      have HRD := Lib.hid hrd
      rw [e1]
      have hj0 : (0 : Int) ≤ (j : Int) := by omega
      clear hx hrd hy
      go_wp2_with (at_builtin; refine wpList_append_one _ rfl _ _ 23 rfl 3 (.int .i64 0) 8 Try.underlying23 info_int rfl w.heap.size _ _ _ rfl hO _ _ rfl rfl (by omega) (by omega) hsz ?_; intro v' w8 hO8 hg8 _)
      have hB8 := hB.trans (below_of_grownBy hg8 hsz (fun q hq => (hO.wblk hq).1))
      have hO9 : Own w8 w.heap.size 3 1 v' (xs.length - j) ((xs.drop j).reverse.map (Value.int .i64)) := by
        rw [HRD.out, show xs.length - j = xs.length - (j + 1) + 1 by omega, List.map_append]; exact hO8
      clear hO hg8 hB hO8
      go_roundw
      case rel => exact ⟨j, Nat.le_of_lt hj, rfl, hO9, hB8⟩
      case measure => simp [intOf]
    · obtain rfl : k = 0 := by omega
      go_wp2_with fail
      go_ret
      exact ⟨_, rfl, by simpa using hO, hB⟩
end Go.Proofs.Ytbojkhmlfflakaa
