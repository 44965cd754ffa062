/- The draws of waits. -/
import Derived.Test.YtiiaccigoilddaaSpoil
namespace Go.Proofs.Ytiiaccigoilddaa
open Go.RowKit

def DrawnInts (w : World) (rb p : Nat) (e : Ending) (w' : World) : Prop :=
  ∃ v, ∃ ys : List Int, ∃ p', e = .returned v ∧ Ints w' w.heap.size v ys ∧ ys.length ≤ 100 ∧ tame ys ∧ p' ≤ p + 1000 ∧ Rdr w' rb p' ∧ w.grownBy w' (some rb)

theorem anyWaits_any (w : World) (rb p : Nat) (hr : Rdr w rb p) (hp : p ≤ 1000000) :
    Calls Try.prog 30 #[.pointer (some ⟨rb, 0, none⟩)] w (DrawnInts w rb p) := by
  have hlt := hr.lt
  have hb1 := World.grownBy_alloc w (.cells #[] 3) (some rb)
  have hr1 : Rdr (w.alloc (.cells #[] 3)) rb p := hr.grown (World.grownBy_alloc w _ none) (fun k hk => by cases hk)
  have hr2 : ∀ o, Rdr ((w.alloc (.cells #[] 3)).alloc o) rb p := fun o => hr1.grown (World.grownBy_alloc _ o none) (fun k hk => by cases hk)
  have hO := Own.made w [] 3 w.heap.size 1 0 rfl (Nat.le_refl _) (by decide)
  have hv := Rd.made (w.alloc (.cells #[] 3)) ([5, 8, 3, 1, 0, 12, 60, 61].map (Value.int .i64)) 3 (rb + 1) 1 8 rfl (by simp; omega) (by decide)
  simp only [World.size_alloc] at hv
  go_enter Try.func30, Try.ntmps30
  go_wp2_with fail
  go_at_call 33
  refine (one_any _ rb p _ [5, 8, 3, 1, 0, 12, 60, 61] (hr2 _) (by omega) hv (by simp) (by simp)).mono ?_; rintro e w1 ⟨x, rfl, hx, hr3, hg3⟩
  have hO3 := (hO.alloc (.cells #[.int .i64 5, .int .i64 8, .int .i64 3, .int .i64 1, .int .i64 0, .int .i64 12, .int .i64 60, .int .i64 61] 3)).grown hg3 (fun k hk => by cases hk; omega)
  have hG3 := grownBy_trans (grownBy_trans hb1 (World.grownBy_alloc _ _ (some rb)) (fun x hx => .inl hx)) hg3 (fun x hx => .inl hx)
  have hx' := hx.out
  simp at hx'
  obtain ⟨m0, hm0, hm0'⟩ : ∃ m : Nat, x = m ∧ m ≤ 61 := ⟨x.toNat, by omega, by omega⟩
  subst hm0
  clear hx hx' hr1 hr2 hO hv hg3 hb1
  go_wp2_with fail
  go_loopw [3, 4] (fun v i wo => ∃ m : Nat, ∃ ys : List Int, ∃ p', i = .int .i64 m ∧ ys.length + m ≤ 61 ∧ Own wo w.heap.size 3 1 v ys.length (ys.map (.int .i64)) ∧ tame ys ∧ p' ≤ p + 1 + 2 * ys.length ∧ Rdr wo rb p' ∧ w.grownBy wo (some rb))
    (fun _ i _ => (intOf i).toNat)
  case atStart => exact ⟨m0, [], p + 1, rfl, by simpa using hm0', hO3, (fun y hy => by simp at hy), by omega, hr3, hG3⟩
  case round =>
    clear hO3 hr3 hG3
    obtain ⟨m, ys, p', rfl, hm, hO, ht, hp', hr, hG⟩ := hrel
    have HT := Lib.hid ht
    clear ht
    by_cases hm1 : 0 < m
    · go_wp2_with fail
      go_at_call 42
      refine (pick_any _ _ _ 50 hr (by omega) (by omega)).mono ?_; rintro e w1 ⟨y, rfl, ⟨hy0, hy1, hy2⟩, hr1, hg1⟩
      have hy3 := hy1 (by omega)
      clear hy1
      have hO1 := hO.grown hg1 (fun k hk => by cases hk; omega)
      have hG1 := grownBy_trans hG hg1 (fun x hx => .inl hx)
      have hsz1 := hG1.size
      have hlt1 := hr1.lt
      have hr1' : ∀ o, Rdr (w1.alloc o) rb (p' + 1) := fun o => hr1.grown (World.grownBy_alloc w1 o none) (fun k hk => by cases hk)
      have hv4 := Rd.made w1 ([0, 3, 7, 10, 25, 60, 100, 999, y].map (Value.int .i64)) 3 (rb + 1) 1 9 rfl (by omega) (by decide)
      go_wp2_with fail
      go_at_call 33
      refine (one_any _ _ _ _ [0, 3, 7, 10, 25, 60, 100, 999, y] (hr1' _) (by omega) hv4 (by simp) (by simp)).mono ?_; rintro e w4 ⟨z, rfl, hz, hr4, hg4⟩
      have hO4 := (hO1.alloc (.cells #[.int .i64 0, .int .i64 3, .int .i64 7, .int .i64 10, .int .i64 25, .int .i64 60, .int .i64 100, .int .i64 999, .int .i64 y] 3)).grown hg4 (fun k hk => by cases hk; omega)
      have hG4 := grownBy_trans (grownBy_trans hG1 (World.grownBy_alloc w1 _ _) (fun x hx => .inl hx)) hg4 (fun x hx => .inl hx)
      have hsz4 := hG4.size
      go_wp2_with (at_builtin; refine wpList_append_one _ rfl _ _ 22 rfl 3 (.int .i64 0) 8 Try.underlying22 info_int rfl w.heap.size _ _ _ rfl hO4 _ _ rfl rfl (by omega) (by omega) (by omega) ?_; intro v' w5 hO5 hg5 _)
      have hz' := hz.out
      simp at hz'
      have htz := tame_app HT.out (x := z) (by omega) (by omega)
      go_roundw
      case rel => exact ⟨m - 1, ys ++ [z], p' + 1 + 1, by (congr 1; omega), by simp; omega, by simpa using hO5, htz, by simp; omega, hr4.grown hg5 (fun k hk => by have := (hO4.wblk hk).1; omega), grownBy_trans hG4 hg5 (fun k hk => .inr (hO4.wblk hk).1)⟩
      case measure => simp [intOf]; omega
    · go_wp2_with fail
      go_at_call 43
      refine (spoil_any _ _ _ _ ys 1000 hr (by omega) (hO.rd.mono (Nat.zero_le _)) (by omega) HT.out (by omega)).mono ?_; rintro e w6 ⟨v6, zs, p6, rfl, hI, hl6, ht6, hp6, hr6, hg6⟩
      have HF : Hid (Ints w6 w.heap.size v6 zs ∧ zs.length ≤ 100 ∧ tame zs ∧ p6 ≤ p + 1000 ∧ Rdr w6 rb p6 ∧ w.grownBy w6 (some rb)) := ⟨hI.mono hG.size, by omega, ht6, by omega, hr6, grownBy_trans hG hg6 (fun x hx => .inl hx)⟩
      clear hI hl6 ht6 hp6 hr6 hg6
      go_wp2
      go_ret
      exact ⟨_, zs, p6, rfl, HF.out⟩

def DrawInts (w : World) (e : Ending) (w' : World) : Prop :=
  ∃ v, ∃ ys : List Int, e = .returned v ∧ Ints w' 0 v ys ∧ ys.length ≤ 100 ∧ tame ys ∧ Below w.heap.size w w'
def DrawIntsAnd (w : World) (e : Ending) (w' : World) : Prop :=
  ∃ v, ∃ ys : List Int, ∃ n : Int, e = .returned (.tuple #[v, .int .i64 n]) ∧ Ints w' 0 v ys ∧ ys.length ≤ 100 ∧ tame ys ∧ (-1000000 ≤ n ∧ n ≤ 1000000) ∧ Below w.heap.size w w'

theorem drawLongest (w : World) (v : Value) (bs : List UInt8) (hv : Bytes w 0 v bs) : Calls Try.prog 17 #[v] w (DrawInts w) := by
  go_enter Try.func17, Try.ntmps17
  go_wp2_with fail
  go_at_call 31
  refine (newReader_any w v bs hv).mono ?_; rintro e w1 ⟨rfl, hr, hB1⟩
  go_wp2_with fail
  go_at_call 30
  refine (anyWaits_any _ _ 0 hr (by omega)).mono ?_; rintro e w2 ⟨v2, ys, p2, rfl, hI, hl, ht, hp2, hr2, hg2⟩
  have HF : Hid (Ints w2 0 v2 ys ∧ ys.length ≤ 100 ∧ tame ys ∧ Below w.heap.size w w2) := ⟨hI.mono (Nat.zero_le _), hl, ht, hB1.trans (below_of_grownBy hg2 (B := w.heap.size) hB1.size (fun k hk => by cases hk; omega))⟩
  clear hI hl ht hp2 hr2 hg2 hB1
  go_wp2
  go_ret
  exact ⟨_, ys, rfl, HF.out⟩

theorem drawUnfair (w : World) (v : Value) (bs : List UInt8) (hv : Bytes w 0 v bs) : Calls Try.prog 27 #[v] w (DrawInts w) := by
  go_enter Try.func27, Try.ntmps27
  go_wp2_with fail
  go_at_call 31
  refine (newReader_any w v bs hv).mono ?_; rintro e w1 ⟨rfl, hr, hB1⟩
  go_wp2_with fail
  go_at_call 30
  refine (anyWaits_any _ _ 0 hr (by omega)).mono ?_; rintro e w2 ⟨v2, ys, p2, rfl, hI, hl, ht, hp2, hr2, hg2⟩
  have HF : Hid (Ints w2 0 v2 ys ∧ ys.length ≤ 100 ∧ tame ys ∧ Below w.heap.size w w2) := ⟨hI.mono (Nat.zero_le _), hl, ht, hB1.trans (below_of_grownBy hg2 (B := w.heap.size) hB1.size (fun k hk => by cases hk; omega))⟩
  clear hI hl ht hp2 hr2 hg2 hB1
  go_wp2
  go_ret
  exact ⟨_, ys, rfl, HF.out⟩

theorem drawShare (w : World) (v : Value) (bs : List UInt8) (hv : Bytes w 0 v bs) : Calls Try.prog 21 #[v] w (DrawIntsAnd w) := by
  go_enter Try.func21, Try.ntmps21
  go_wp2_with fail
  go_at_call 31
  refine (newReader_any w v bs hv).mono ?_; rintro e w1 ⟨rfl, hr, hB1⟩
  go_wp2_with fail
  go_at_call 30
  refine (anyWaits_any _ _ 0 hr (by omega)).mono ?_; rintro e w2 ⟨v2, ys, p2, rfl, hI, hl, ht, hp2, hr2, hg2⟩
  have hB2 := hB1.trans (below_of_grownBy hg2 (B := w.heap.size) hB1.size (fun k hk => by cases hk; omega))
  have hlt2 := hr2.lt
  have hlt1 := hr.lt
  have hr2' : ∀ o, Rdr (w2.alloc o) w.heap.size p2 := fun o => hr2.grown (World.grownBy_alloc w2 o none) (fun k hk => by cases hk)
  have hv4 := Rd.made w2 ([10, 0, 30, 60, 999, -1, 2000].map (Value.int .i64)) 3 (w.heap.size + 1) 1 7 rfl (by omega) (by decide)
  have HT := Lib.hid ht
  clear ht
  go_wp2_with fail
  go_at_call 33
  refine (one_any _ _ _ _ [10, 0, 30, 60, 999, -1, 2000] (hr2' _) (by omega) hv4 (by simp) (by simp)).mono ?_; rintro e w4 ⟨z, rfl, hz, hr4, hg4⟩
  have hI4 : Ints w4 0 v2 ys := by
    refine Rd.mono (Rd.grown (lo := w.heap.size + 1) (row := some w.heap.size) (w := w2.alloc (.cells #[.int .i64 10, .int .i64 0, .int .i64 30, .int .i64 60, .int .i64 999, .int .i64 (-1), .int .i64 2000] 3)) ?_ hg4 (fun k hk => by cases hk; omega) (by decide)) (Nat.zero_le _)
    exact (Rd.grown (row := none) hI (World.grownBy_alloc w2 _ none) (fun k hk => by cases hk) (by decide)).mono (by omega)
  have hB4 : Below w.heap.size w w4 := (hB2.trans ((Below.refl _ _).alloc (by omega) _)).trans (below_of_grownBy hg4 (by simp; omega) (fun k hk => by cases hk; omega))
  have hz' := hz.out
  simp at hz'
  have HF : Hid (Ints w4 0 v2 ys ∧ ys.length ≤ 100 ∧ tame ys ∧ (-1000000 ≤ z ∧ z ≤ 1000000) ∧ Below w.heap.size w w4) := ⟨hI4, hl, HT.out, by omega, hB4⟩
  clear hI hl hp2 hr2 hg2 hB1 hB2 hI4 hB4 hz hz' hr4 hg4
  go_wp2
  go_ret2
  exact ⟨_, ys, _, rfl, HF.out⟩

theorem drawRank (w : World) (v : Value) (bs : List UInt8) (hv : Bytes w 0 v bs) : Calls Try.prog 24 #[v] w (DrawIntsAnd w) := by
  go_enter Try.func24, Try.ntmps24
  go_wp2_with fail
  go_at_call 31
  refine (newReader_any w v bs hv).mono ?_; rintro e w1 ⟨rfl, hr, hB1⟩
  go_wp2_with fail
  go_at_call 30
  refine (anyWaits_any _ _ 0 hr (by omega)).mono ?_; rintro e w2 ⟨v2, ys, p2, rfl, hI, hl, ht, hp2, hr2, hg2⟩
  have hB2 := hB1.trans (below_of_grownBy hg2 (B := w.heap.size) hB1.size (fun k hk => by cases hk; omega))
  have hlt2 := hr2.lt
  have hlt1 := hr.lt
  have hr2' : ∀ o, Rdr (w2.alloc o) w.heap.size p2 := fun o => hr2.grown (World.grownBy_alloc w2 o none) (fun k hk => by cases hk)
  have hv4 := Rd.made w2 ([500, 900, 950, 1000, 0, 1001, -1].map (Value.int .i64)) 3 (w.heap.size + 1) 1 7 rfl (by omega) (by decide)
  have HT := Lib.hid ht
  clear ht
  go_wp2_with fail
  go_at_call 33
  refine (one_any _ _ _ _ [500, 900, 950, 1000, 0, 1001, -1] (hr2' _) (by omega) hv4 (by simp) (by simp)).mono ?_; rintro e w4 ⟨z, rfl, hz, hr4, hg4⟩
  have hI4 : Ints w4 0 v2 ys := by
    refine Rd.mono (Rd.grown (lo := w.heap.size + 1) (row := some w.heap.size) (w := w2.alloc (.cells #[.int .i64 500, .int .i64 900, .int .i64 950, .int .i64 1000, .int .i64 0, .int .i64 1001, .int .i64 (-1)] 3)) ?_ hg4 (fun k hk => by cases hk; omega) (by decide)) (Nat.zero_le _)
    exact (Rd.grown (row := none) hI (World.grownBy_alloc w2 _ none) (fun k hk => by cases hk) (by decide)).mono (by omega)
  have hB4 : Below w.heap.size w w4 := (hB2.trans ((Below.refl _ _).alloc (by omega) _)).trans (below_of_grownBy hg4 (by simp; omega) (fun k hk => by cases hk; omega))
  have hz' := hz.out
  simp at hz'
  have HF : Hid (Ints w4 0 v2 ys ∧ ys.length ≤ 100 ∧ tame ys ∧ (-1000000 ≤ z ∧ z ≤ 1000000) ∧ Below w.heap.size w w4) := ⟨hI4, hl, HT.out, by omega, hB4⟩
  clear hI hl hp2 hr2 hg2 hB1 hB2 hI4 hB4 hz hz' hr4 hg4
  go_wp2
  go_ret2
  exact ⟨_, ys, _, rfl, HF.out⟩

end Go.Proofs.Ytiiaccigoilddaa
