/- copyInts and spoil, each proved once. -/
import Derived.Test.YtbojkhmlfflakaaRdr
namespace Go.Proofs.Ytbojkhmlfflakaa
open Go.RowKit

def tame (xs : List Int) : Prop := ∀ x ∈ xs, -1000000 ≤ x ∧ x ≤ 1000000
theorem tame_app {xs : List Int} {x : Int} (h : tame xs) (h1 : -1000000 ≤ x) (h2 : x ≤ 1000000) : tame (xs ++ [x]) := by
  intro y hy
  rcases List.mem_append.1 hy with h' | h'
  · exact h y h'
  · simp at h'; subst h'; exact ⟨h1, h2⟩

theorem copyInts_any (w : World) (v : Value) (xs : List Int) (hv : Ints w 0 v xs) (hn : xs.length ≤ 1000000) :
    Calls Try.prog 32 #[v] w fun e w' => ∃ v', e = .returned v' ∧ Own w' w.heap.size 3 1 v' xs.length (xs.map (.int .i64)) ∧ Below w.heap.size w w' := by
  obtain ⟨ao, cap, rfl, hcap, hm⟩ := hv.form
  have hO := Own.made w [] 3 w.heap.size 1 0 rfl (Nat.le_refl _) (by decide)
  have hB : Below w.heap.size w (w.alloc (.cells #[] 3)) := (Below.refl _ _).alloc (Nat.le_refl _) _
  have hv1 := Rd.below hv hB (Nat.le_refl _) (by decide)
  have hsz := hB.size
  go_enter Try.func32, Try.ntmps32
  go_wp2_with (at_builtin; refine wpList_append_Own _ rfl _ _ 23 rfl 3 (.int .i64 0) 1 8 Try.underlying23 info_int rfl (by omega) w.heap.size _ _ _ rfl hO _ 0 xs.length _ rfl hv1 (by simp; intros; rfl) (by unfold maxLen; omega) (by omega) hsz ?_; intro v' w2 hO2 hg2 _)
  go_ret
  refine ⟨_, rfl, by simpa using hO2, hB.trans (below_of_grownBy hg2 hsz (fun k hk => (hO.wblk hk).1))⟩


def SpoilPost (w : World) (rb p n : Nat) (e : Ending) (w' : World) : Prop :=
  ∃ v, ∃ ys : List Int, ∃ p', e = .returned v ∧ Ints w' w.heap.size v ys ∧ ys.length ≤ n + 1 ∧ tame ys ∧ p' ≤ p + 3 ∧ Rdr w' rb p' ∧ w.grownBy w' (some rb)

theorem spoil_any (w : World) (rb p : Nat) (v : Value) (xs : List Int) (n : Int) (hr : Rdr w rb p) (hp : p ≤ 900000000) (hv : Ints w 0 v xs) (hl : xs.length ≤ 100000) (hx : tame xs) (hn : -1000000 ≤ n ∧ n ≤ 1000000) :
    Calls Try.prog 23 #[.pointer (some ⟨rb, 0, none⟩), v, .int .i64 n] w (SpoilPost w rb p xs.length) := by
  have hlt := hr.lt
  obtain ⟨ao, cap, rfl, hcap, hm⟩ := hv.form
  have HX := Lib.hid hx
  clear hx
  go_enter Try.func23, Try.ntmps23
  go_wp2_with fail
  go_at_call 32
  refine (copyInts_any _ _ xs hv (by omega)).mono ?_; rintro e w1 ⟨v1, rfl, hO, hB⟩
  have hr1 := hr.below hB hlt
  have hsz1 := hB.size
  go_wp2_with fail
  go_at_call 22
  refine (pick_any _ _ _ 20 hr1 (by omega) (by omega)).mono ?_; rintro e w2 ⟨x, rfl, hx, hr2, hg2⟩
  have hO2 := hO.grown hg2 (fun k hk => by cases hk; omega)
  have hG2 : w.grownBy w2 (some rb) := grownBy_trans (grownBy_of_below hB (Nat.le_refl _) (some rb)) hg2 (fun x hx => .inl hx)
  have hsz2 := hG2.size
  clear hO hr1 hg2 hB hv
  obtain ⟨ao1, cap1, rfl, hcap1, hm1⟩ := hO2.form
  have hfin : ∀ w', w'= w2 → SpoilPost w rb p xs.length (.returned (.slice ao1 xs.length cap1)) w' := fun w' h => by
    subst h
    exact ⟨_, xs, p + 1, rfl, hO2.rd, by omega, HX.out, by omega, hr2, hG2⟩
  have HF := Lib.hid hfin
  clear hfin
  by_cases h0 : x = 0
  · have t0 : (x == 0) = true := by rw [h0]; rfl
    clear h0
    go_wp2_with (at_builtin; refine wpList_append_one _ rfl _ _ 23 rfl 3 (.int .i64 0) 8 Try.underlying23 info_int rfl w.heap.size _ _ _ rfl hO2 _ _ rfl rfl (by omega) (by omega) (by omega) ?_; intro v' w3 hO3 hg3 _)
    go_ret
    refine ⟨_, xs ++ [n], p + 1, rfl, ?_, by simp, tame_app HX.out hn.1 hn.2, by omega, hr2.grown hg3 (fun k hk => by have := (hO2.wblk hk).1; omega), grownBy_trans hG2 hg3 (fun k hk => .inr (hO2.wblk hk).1)⟩
    have := hO3.rd
    unfold Ints
    simpa using this
  · have t0 : (x == 0) = false := beq_eq_false_iff_ne.mpr h0
    by_cases h1 : x = 1
    · have t1 : (x == 1) = true := by rw [h1]; rfl
      clear h0 h1
      by_cases hl0 : 0 < xs.length
      · obtain ⟨g, rfl, hg, _, _, _, _⟩ := hO2.parts hl0
        obtain ⟨y, ys, rfl⟩ : ∃ y ys, xs = y :: ys := by cases xs with | nil => simp at hl0 | cons y ys => exact ⟨y, ys, rfl⟩
        have ht : tame ys := fun z hz => HX.out z (List.mem_cons_of_mem _ hz)
        have HT := Lib.hid ht
        clear ht
        by_cases hc1 : cap1 = 1
        · have hd := Rd.drop (k := 1) hO2.rd (by simp) (a := some ⟨g, 0, none⟩) (fun h => by simp at h hcap1; omega) (by simp)
          subst hc1
          go_wp2
          go_ret
          refine ⟨_, ys, p + 1, rfl, ?_, by simp; omega, HT.out, by omega, hr2, hG2⟩
          unfold Ints; simpa using hd
        · have hd := Rd.drop (k := 1) hO2.rd (by simp) (a := some ⟨g, 0 + 1, none⟩) (fun h => rfl) (by simp)
          go_wp2
          go_ret
          refine ⟨_, ys, p + 1, rfl, ?_, by simp; omega, HT.out, by omega, hr2, hG2⟩
          unfold Ints; simpa using hd
      · go_wp2
        go_ret
        exact HF.out _ rfl
    · have t1 : (x == 1) = false := beq_eq_false_iff_ne.mpr h1
      by_cases h2 : x = 2
      · have t2 : (x == 2) = true := by rw [h2]; rfl
        clear h0 h1 h2
        by_cases hl0 : 0 < xs.length
        · obtain ⟨g, rfl, hg, hg2, hcell, hfr, hset⟩ := hO2.parts hl0
          have HC := Lib.hid hcell; have HFR := Lib.hid hfr; have HS := Lib.hid hset
          clear hcell hfr hset
          go_wp2_with fail
          go_at_call 22
          refine (pick_any _ _ _ xs.length hr2 (by omega) (by omega)).mono ?_; rintro e w3 ⟨y, rfl, ⟨hy0, hy1, hy2⟩, hr3, hg3⟩
          have hy3 := hy1 (by omega)
          clear hy1
          have hO3 := hO2.grown hg3 (fun k hk => by cases hk; omega)
          have hG3 : w.grownBy w3 (some rb) := grownBy_trans hG2 hg3 (fun x hx => .inl hx)
          have hsz3 := hG3.size
          have hlt3 := hr3.lt
          have hr3' : ∀ o, Rdr (w3.alloc o) rb (p + 1 + 1) := fun o => hr3.grown (World.grownBy_alloc w3 o none) (fun k hk => by cases hk)
          have hv4 := Rd.made w3 ([-1, n, 0, 1].map (Value.int .i64)) 3 (rb + 1) 1 4 rfl (by omega) (by decide)
          go_wp2_with fail
          go_at_call 21
          refine (one_any _ _ _ _ [-1, n, 0, 1] (hr3' _) (by omega) hv4 (by simp) (by simp)).mono ?_; rintro e w4 ⟨z, rfl, hz, hr4, hg4⟩
          have hO4 := (hO3.alloc (.cells #[.int .i64 (-1), .int .i64 n, .int .i64 0, .int .i64 1] 3)).grown hg4 (fun k hk => by cases hk; omega)
          have hG4 : w.grownBy w4 (some rb) := grownBy_trans (grownBy_trans hG3 (World.grownBy_alloc w3 _ _) (fun x hx => .inl hx)) hg4 (fun x hx => .inl hx)
          obtain ⟨g', hgg, _, hgl, hcell, hfr, hset⟩ := hO4.parts hl0
          cases hgg
          obtain ⟨m, rfl⟩ : ∃ m : Nat, y = m := ⟨y.toNat, by omega⟩
          have hd := hcell m (by simp; omega)
          have hf := hfr m
          have hS := hset m (.int .i64 z)
          clear hcell hfr hset HC HFR HS
          have HS := Lib.hid hS
          clear hS
          go_wp2
          go_ret
          have hz' := hz.out
          simp at hz'
          refine ⟨_, xs.set m z, p + 1 + 1 + 1, rfl, ?_, by simp, ?_, by omega, hr4.grown HS.out.2 (fun k hk => by cases hk; omega), grownBy_trans hG4 HS.out.2 (fun k hk => by cases hk; right; omega)⟩
          · have := HS.out.1.rd
            unfold Ints
            rw [List.map_set]
            simpa using this
          · intro q hq
            rcases List.mem_or_eq_of_mem_set hq with h | h
            · exact HX.out q h
            · subst h; omega
        · go_wp2
          go_ret
          exact HF.out _ rfl
      · have t2 : (x == 2) = false := beq_eq_false_iff_ne.mpr h2
        clear h0 h1 h2
        go_wp2
        go_ret
        exact HF.out _ rfl
end Go.Proofs.Ytbojkhmlfflakaa
