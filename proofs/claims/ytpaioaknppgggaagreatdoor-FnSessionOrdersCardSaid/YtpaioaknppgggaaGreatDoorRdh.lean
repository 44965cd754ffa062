/- The reader with a bound below which its bytes lie; the bound first, so that one may go on as with Rdr. And spoil with it. -/
import Derived.Test.YtpaioaknppgggaaGreatDoorRdB
namespace Go.Proofs.YtpaioaknppgggaaGreatDoor
open Go.RowKit
set_option linter.unusedVariables false
set_option linter.unusedSimpArgs false

def Rdh (hi : Nat) (w : World) (rb p : Nat) : Prop := RdB w hi rb p
theorem Rdh.lt {hi : Nat} {w : World} {rb p : Nat} (h : Rdh hi w rb p) : rb < w.heap.size := (RdB.lt h).2
theorem Rdh.hi {hi : Nat} {w : World} {rb p : Nat} (h : Rdh hi w rb p) : hi ≤ rb := (RdB.lt h).1
theorem Rdh.grown {hi : Nat} {w w' : World} {rb p : Nat} {row : Option Nat} (h : Rdh hi w rb p) (hg : w.grownBy w' row) (hr : ∀ k, row = some k → rb < k) : Rdh hi w' rb p :=
  RdB.grown h hg (fun k hk => ⟨by have := h.hi; have := hr k hk; omega, by have := hr k hk; omega⟩)
/-- Other blocks from the bound on may be written too. -/
theorem Rdh.grownW {hi : Nat} {w w' : World} {rb p : Nat} {row : Option Nat} (h : Rdh hi w rb p) (hg : w.grownBy w' row) (hr : ∀ k, row = some k → hi ≤ k ∧ k ≠ rb) : Rdh hi w' rb p := RdB.grown h hg hr
theorem Rdh.below {hi : Nat} {w w' : World} {rb p B : Nat} (h : Rdh hi w rb p) (hb : Below B w w') (hB : rb < B) : Rdh hi w' rb p := by
  obtain ⟨v, bs, h1, h2, h3, h4, h5⟩ := h
  refine ⟨v, bs, ?_, ?_, h3, h4, h5⟩
  · rw [hb.block rb hB]; exact h1
  · obtain ⟨a, ao, cap, b, c, d, e, f⟩ := h2
    refine ⟨a, ao, cap, b, c, d, e, fun hn => ?_⟩
    obtain ⟨bb, off, rfl, hbb, hc⟩ := f hn
    have hlt : bb < hi := h4 (by intro h; subst h; simp at hn) bb (by subst b; rfl)
    refine ⟨bb, off, rfl, hbb, fun i hi' => ?_⟩
    rw [← hc i hi']
    exact World.cell?_of_block (hb.block bb (by omega))
theorem pick_h {hi : Nat} (w : World) (rb p : Nat) (n : Int) (hr : Rdh hi w rb p) (hp : p ≤ 1000000000) (hn' : n ≤ 1000000000) :
    Calls Tryz.prog 18 #[.pointer (some ⟨rb, 0, none⟩), .int .i64 n] w fun e w' => ∃ x : Int, e = .returned (.int .i64 x) ∧ (0 ≤ x ∧ (1 ≤ n → x < n) ∧ x ≤ 1000000000) ∧ Rdh hi w' rb (p + 1) ∧ w.grownBy w' (some rb) :=
  pick_B w hi rb p n hr hp hn'
theorem one_h {hi : Nat} (w : World) (rb p : Nat) (v : Value) (xs : List Int) (hr : Rdh hi w rb p) (hp : p ≤ 1000000000) (hv : Ints w (rb + 1) v xs) (hne : 0 < xs.length) (hne' : xs.length ≤ 1000) :
    Calls Tryz.prog 16 #[.pointer (some ⟨rb, 0, none⟩), v] w fun e w' => ∃ x : Int, e = .returned (.int .i64 x) ∧ Hid (x ∈ xs) ∧ Rdh hi w' rb (p + 1) ∧ w.grownBy w' (some rb) :=
  one_B w hi rb p v xs hr hp (hv.mono (Nat.zero_le _)) (fun e => by
    obtain ⟨_, ao, cap, rfl, _, _, _, h⟩ := hv
    obtain ⟨b, off, rfl, hb, _⟩ := h hne
    simp [Value.ownBlock] at e; omega) hne hne'
theorem one_LR {hi : Nat} (w : World) (rb p : Nat) (xs : List Int) (t : TypeId) (n : Nat) (hn : xs.length = n) (hr : Rdh hi w rb p) (hp : p ≤ 1000000000) (hne : 0 < n) (hne' : n ≤ 1000) :
    Calls Tryz.prog 16 #[.pointer (some ⟨rb, 0, none⟩), .slice (some ⟨w.heap.size, 0, none⟩) n n] (w.alloc (.cells (xs.map (Value.int .i64)).toArray t))
      fun e w' => ∃ x : Int, e = .returned (.int .i64 x) ∧ Hid (x ∈ xs) ∧ Rdh hi w' rb (p + 1) ∧ w.grownBy w' (some rb) :=
  one_L w hi rb p xs t n hn hr hp hne hne'

end Go.Proofs.YtpaioaknppgggaaGreatDoor
