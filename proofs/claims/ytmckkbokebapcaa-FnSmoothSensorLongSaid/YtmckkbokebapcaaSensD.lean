/- The draws of the sensors' arguments. -/
import Derived.Test.YtmckkbokebapcaaRdr2
namespace Go.Proofs.Ytmckkbokebapcaa
open Go.RowKit

theorem newReader_bools {w w1 w2 w3 : World} {rb : Nat} {v : Value} {xs : List Bool} (hrb : rb = w.heap.size) (hB : Below w.heap.size w w1) (hg2 : w1.grownBy w2 (some rb)) (hg3 : w2.grownBy w3 (some rb)) (hs : w.heap.size < w1.heap.size)
    (hO : Own w3 w2.heap.size 4 1 v xs.length (xs.map .bool)) : Own w3 (w.heap.size + 1) 4 1 v xs.length (xs.map .bool) ∧ Below w.heap.size w w3 := by
  subst hrb
  have b2 := below_of_grownBy hg2 (B := w.heap.size) hB.size (fun k hk => by cases hk; omega)
  have b3 := below_of_grownBy hg3 (B := w.heap.size) (by have := hg2.size; have := hB.size; omega) (fun k hk => by cases hk; omega)
  exact ⟨hO.mono (by have := hg2.size; omega), (hB.trans b2).trans b3⟩

theorem drawBools (w : World) (v : Value) (bs : List UInt8) (hv : Bytes w 0 v bs) :
    Calls Try.prog 23 #[v] w fun e w' => ∃ v', ∃ xs : List Bool, e = .returned v' ∧ Own w' (w.heap.size + 1) 4 1 v' xs.length (xs.map .bool) ∧ xs.length ≤ 1000 ∧ Below w.heap.size w w' := by
  go_enter Try.func23, Try.ntmps23
  go_wp2_with fail
  go_at_call 35
  refine (newReader_any w v bs hv).mono ?_; rintro e w1 ⟨rfl, hr, hB1⟩
  have hlt := hr.lt
  go_wp2_with fail
  go_at_call 37
  refine (anyLength_any _ _ 0 150 hr (by omega) (by omega) (by omega)).mono ?_; rintro e w2 ⟨x, rfl, hx, hr2, hg2⟩
  obtain ⟨n, rfl⟩ : ∃ n : Nat, x = n := ⟨x.toNat, by omega⟩
  go_wp2_with fail
  go_at_call 36
  refine (randomBools_any _ _ _ n hr2 (by omega) (by omega)).mono ?_; rintro e w3 ⟨v3, xs, p3, rfl, hO, hxs, hp3, hr3, hg3⟩
  subst hxs
  obtain ⟨hO', hB'⟩ := newReader_bools rfl hB1 hg2 hg3 hlt hO
  go_wp2
  go_ret
  exact ⟨_, xs, rfl, hO', by omega, hB'⟩

theorem drawBusy (w : World) (v : Value) (bs : List UInt8) (hv : Bytes w 0 v bs) :
    Calls Try.prog 22 #[v] w fun e w' => ∃ v', ∃ xs : List Bool, e = .returned v' ∧ Own w' (w.heap.size + 1) 4 1 v' xs.length (xs.map .bool) ∧ xs.length ≤ 1000 ∧ Below w.heap.size w w' := by
  go_enter Try.func22, Try.ntmps22
  go_wp2_with fail
  go_at_call 23
  refine (drawBools w v bs hv).mono ?_; rintro e w1 ⟨v1, xs, rfl, hO, hn, hB⟩
  go_wp2
  go_ret
  exact ⟨_, xs, rfl, hO, hn, hB⟩

theorem drawStuck (w : World) (v : Value) (bs : List UInt8) (hv : Bytes w 0 v bs) :
    Calls Try.prog 21 #[v] w fun e w' => ∃ v', ∃ xs : List Bool, ∃ n : Int, e = .returned (.tuple #[v', .int .i64 n]) ∧ Own w' (w.heap.size + 1) 4 1 v' xs.length (xs.map .bool) ∧ xs.length ≤ 1000 ∧ (-1000 ≤ n ∧ n ≤ 1000) ∧ Below w.heap.size w w' := by
  go_enter Try.func21, Try.ntmps21
  go_wp2_with fail
  go_at_call 35
  refine (newReader_any w v bs hv).mono ?_; rintro e w1 ⟨rfl, hr, hB1⟩
  have hlt := hr.lt
  go_wp2_with fail
  go_at_call 37
  refine (anyLength_any _ _ 0 150 hr (by omega) (by omega) (by omega)).mono ?_; rintro e w2 ⟨x, rfl, hx, hr2, hg2⟩
  obtain ⟨n, rfl⟩ : ∃ n : Nat, x = n := ⟨x.toNat, by omega⟩
  go_wp2_with fail
  go_at_call 36
  refine (randomBools_any _ _ _ n hr2 (by omega) (by omega)).mono ?_; rintro e w3 ⟨v3, xs, p3, rfl, hO, hxs, hp3, hr3, hg3⟩
  subst hxs
  obtain ⟨hO', hB'⟩ := newReader_bools rfl hB1 hg2 hg3 hlt hO
  have hr4 : ∀ o, Rdr (w3.alloc o) w.heap.size p3 := fun o => hr3.grown (World.grownBy_alloc w3 o none) (fun k hk => by cases hk)
  have hlt3 := hr3.lt
  have hv4 := Rd.made w3 ([1, 2, 4, 8, 150, 151, 0].map (Value.int .i64)) 3 (w.heap.size + 1) 1 7 rfl (by omega) (by decide)
  go_wp2_with fail
  go_at_call 38
  refine (one_any _ _ _ _ [1, 2, 4, 8, 150, 151, 0] (hr4 _) (by omega) hv4 (by simp) (by simp)).mono ?_; rintro e w4 ⟨y, rfl, hy, hr5, hg5⟩
  have hO5 := (hO'.alloc (.cells #[.int .i64 1, .int .i64 2, .int .i64 4, .int .i64 8, .int .i64 150, .int .i64 151, .int .i64 0] 3)).grown hg5 (fun k hk => by cases hk; omega)
  have hb4 : Below w.heap.size w3 (w3.alloc (.cells #[.int .i64 1, .int .i64 2, .int .i64 4, .int .i64 8, .int .i64 150, .int .i64 151, .int .i64 0] 3)) := (Below.refl _ _).alloc (by omega) _
  have hb5 := below_of_grownBy hg5 (B := w.heap.size) (by simp; omega) (fun k hk => by cases hk; omega)
  go_wp2
  go_ret2
  refine ⟨_, xs, _, rfl, hO5, by omega, ?_, (hB'.trans hb4).trans hb5⟩
  have := hy.out
  simp at this
  omega

theorem drawSmooth (w : World) (v : Value) (bs : List UInt8) (hv : Bytes w 0 v bs) :
    Calls Try.prog 29 #[v] w fun e w' => ∃ v', ∃ xs : List Bool, ∃ n : Int, e = .returned (.tuple #[v', .int .i64 n]) ∧ Own w' (w.heap.size + 1) 4 1 v' xs.length (xs.map .bool) ∧ xs.length ≤ 1000 ∧ (-1000 ≤ n ∧ n ≤ 1000) ∧ Below w.heap.size w w' := by
  go_enter Try.func29, Try.ntmps29
  go_wp2_with fail
  go_at_call 35
  refine (newReader_any w v bs hv).mono ?_; rintro e w1 ⟨rfl, hr, hB1⟩
  have hlt := hr.lt
  go_wp2_with fail
  go_at_call 37
  refine (anyLength_any _ _ 0 150 hr (by omega) (by omega) (by omega)).mono ?_; rintro e w2 ⟨x, rfl, hx, hr2, hg2⟩
  obtain ⟨n, rfl⟩ : ∃ n : Nat, x = n := ⟨x.toNat, by omega⟩
  go_wp2_with fail
  go_at_call 36
  refine (randomBools_any _ _ _ n hr2 (by omega) (by omega)).mono ?_; rintro e w3 ⟨v3, xs, p3, rfl, hO, hxs, hp3, hr3, hg3⟩
  subst hxs
  obtain ⟨hO', hB'⟩ := newReader_bools rfl hB1 hg2 hg3 hlt hO
  have hr4 : ∀ o, Rdr (w3.alloc o) w.heap.size p3 := fun o => hr3.grown (World.grownBy_alloc w3 o none) (fun k hk => by cases hk)
  have hlt3 := hr3.lt
  have hv4 := Rd.made w3 ([1, 2, 3, 5, 9, 10, 0].map (Value.int .i64)) 3 (w.heap.size + 1) 1 7 rfl (by omega) (by decide)
  go_wp2_with fail
  go_at_call 38
  refine (one_any _ _ _ _ [1, 2, 3, 5, 9, 10, 0] (hr4 _) (by omega) hv4 (by simp) (by simp)).mono ?_; rintro e w4 ⟨y, rfl, hy, hr5, hg5⟩
  have hO5 := (hO'.alloc (.cells #[.int .i64 1, .int .i64 2, .int .i64 3, .int .i64 5, .int .i64 9, .int .i64 10, .int .i64 0] 3)).grown hg5 (fun k hk => by cases hk; omega)
  have hb4 : Below w.heap.size w3 (w3.alloc (.cells #[.int .i64 1, .int .i64 2, .int .i64 3, .int .i64 5, .int .i64 9, .int .i64 10, .int .i64 0] 3)) := (Below.refl _ _).alloc (by omega) _
  have hb5 := below_of_grownBy hg5 (B := w.heap.size) (by simp; omega) (fun k hk => by cases hk; omega)
  go_wp2
  go_ret2
  refine ⟨_, xs, _, rfl, hO5, by omega, ?_, (hB'.trans hb4).trans hb5⟩
  have := hy.out
  simp at this
  omega

end Go.Proofs.Ytmckkbokebapcaa
