/- The reader with a bound below which its bytes lie; the bound first, so that one may go on as with Rdr. And spoil with it. -/
import Derived.Test.YtbojkhmlfflakaaRdB
import Derived.Test.YtbojkhmlfflakaaSpoil
namespace Go.Proofs.Ytbojkhmlfflakaa
open Go.RowKit
set_option linter.unusedVariables false
set_option linter.unusedSimpArgs false

def Rdh (hi : Nat) (w : World) (rb p : Nat) : Prop := RdB w hi rb p
theorem Rdh.lt {hi : Nat} {w : World} {rb p : Nat} (h : Rdh hi w rb p) : rb < w.heap.size := (RdB.lt h).2
theorem Rdh.hi {hi : Nat} {w : World} {rb p : Nat} (h : Rdh hi w rb p) : hi ≤ rb := (RdB.lt h).1
theorem Rdh.grown {hi : Nat} {w w' : World} {rb p : Nat} {row : Option Nat} (h : Rdh hi w rb p) (hg : w.grownBy w' row) (hr : ∀ k, row = some k → rb < k) : Rdh hi w' rb p :=
  RdB.grown h hg (fun k hk => ⟨by have := h.hi; have := hr k hk; omega, by have := hr k hk; omega⟩)
/-- Other blocks from the bound on may be written too. -/
theorem Rdh.grownW {hi : Nat} {w w' : World} {rb p : Nat} {row : Option Nat} (h : Rdh hi w rb p) (hg : w.grownBy w' row) (hr : ∀ k, row = some k → hi ≤ k ∧ k ≠ rb) : Rdh hi w' rb p := RdB.grown h hg hr
theorem Rdh.below {hi : Nat} {w w' : World} {rb p B : Nat} (h : Rdh hi w rb p) (hb : Below B w w') (hB : rb < B) : Rdh hi w' rb p := by
  obtain ⟨v, bs, h1, h2, h3, h4, h5⟩ := h
  refine ⟨v, bs, ?_, ?_, h3, h4, h5⟩
  · rw [hb.block rb hB]; exact h1
  · obtain ⟨a, ao, cap, b, c, d, e, f⟩ := h2
    refine ⟨a, ao, cap, b, c, d, e, fun hn => ?_⟩
    obtain ⟨bb, off, rfl, hbb, hc⟩ := f hn
    have hlt : bb < hi := h4 (by intro h; subst h; simp at hn) bb (by subst b; rfl)
    refine ⟨bb, off, rfl, hbb, fun i hi' => ?_⟩
    rw [← hc i hi']
    exact World.cell?_of_block (hb.block bb (by omega))
theorem pick_h {hi : Nat} (w : World) (rb p : Nat) (n : Int) (hr : Rdh hi w rb p) (hp : p ≤ 1000000000) (hn' : n ≤ 1000000000) :
    Calls Try.prog 22 #[.pointer (some ⟨rb, 0, none⟩), .int .i64 n] w fun e w' => ∃ x : Int, e = .returned (.int .i64 x) ∧ (0 ≤ x ∧ (1 ≤ n → x < n) ∧ x ≤ 1000000000) ∧ Rdh hi w' rb (p + 1) ∧ w.grownBy w' (some rb) :=
  pick_B w hi rb p n hr hp hn'
theorem one_h {hi : Nat} (w : World) (rb p : Nat) (v : Value) (xs : List Int) (hr : Rdh hi w rb p) (hp : p ≤ 1000000000) (hv : Ints w (rb + 1) v xs) (hne : 0 < xs.length) (hne' : xs.length ≤ 1000) :
    Calls Try.prog 21 #[.pointer (some ⟨rb, 0, none⟩), v] w fun e w' => ∃ x : Int, e = .returned (.int .i64 x) ∧ Hid (x ∈ xs) ∧ Rdh hi w' rb (p + 1) ∧ w.grownBy w' (some rb) :=
  one_B w hi rb p v xs hr hp (hv.mono (Nat.zero_le _)) (fun e => by
    obtain ⟨_, ao, cap, rfl, _, _, _, h⟩ := hv
    obtain ⟨b, off, rfl, hb, _⟩ := h hne
    simp [Value.ownBlock] at e; omega) hne hne'
theorem one_LR {hi : Nat} (w : World) (rb p : Nat) (xs : List Int) (t : TypeId) (n : Nat) (hn : xs.length = n) (hr : Rdh hi w rb p) (hp : p ≤ 1000000000) (hne : 0 < n) (hne' : n ≤ 1000) :
    Calls Try.prog 21 #[.pointer (some ⟨rb, 0, none⟩), .slice (some ⟨w.heap.size, 0, none⟩) n n] (w.alloc (.cells (xs.map (Value.int .i64)).toArray t))
      fun e w' => ∃ x : Int, e = .returned (.int .i64 x) ∧ Hid (x ∈ xs) ∧ Rdh hi w' rb (p + 1) ∧ w.grownBy w' (some rb) :=
  one_L w hi rb p xs t n hn hr hp hne hne'

def SpoilPosth (hi : Nat) (w : World) (rb p n : Nat) (e : Ending) (w' : World) : Prop :=
  ∃ v, ∃ ys : List Int, ∃ p', e = .returned v ∧ Ints w' w.heap.size v ys ∧ ys.length ≤ n + 1 ∧ tame ys ∧ p' ≤ p + 3 ∧ Rdh hi w' rb p' ∧ w.grownBy w' (some rb)

set_option maxHeartbeats 1000000 in
theorem spoil_h {hi : Nat} (w : World) (rb p : Nat) (v : Value) (xs : List Int) (n : Int) (hr : Rdh hi w rb p) (hp : p ≤ 900000000) (hv : Ints w 0 v xs) (hl : xs.length ≤ 100000) (hx : tame xs) (hn : -1000000 ≤ n ∧ n ≤ 1000000) :
    Calls Try.prog 23 #[.pointer (some ⟨rb, 0, none⟩), v, .int .i64 n] w (SpoilPosth hi w rb p xs.length) := by
  have hlt := hr.lt
  obtain ⟨ao, cap, rfl, hcap, hm⟩ := hv.form
  have HX := Lib.hid hx
  clear hx
  go_enter Try.func23, Try.ntmps23
  go_wp2_with fail
  go_at_call 32
  refine (copyInts_any _ _ xs hv (by omega)).mono ?_; rintro e w1 ⟨v1, rfl, hO, hB⟩
  have hr1 := hr.below hB hlt
  have hsz1 := hB.size
  go_wp2_with fail
  go_at_call 22
  refine (pick_h _ _ _ 20 hr1 (by omega) (by omega)).mono ?_; rintro e w2 ⟨x, rfl, hx, hr2, hg2⟩
  have hO2 := hO.grown hg2 (fun k hk => by cases hk; omega)
  have hG2 : w.grownBy w2 (some rb) := grownBy_trans (grownBy_of_below hB (Nat.le_refl _) (some rb)) hg2 (fun x hx => .inl hx)
  have hsz2 := hG2.size
  clear hO hr1 hg2 hB hv
  obtain ⟨ao1, cap1, rfl, hcap1, hm1⟩ := hO2.form
  have hfin : ∀ w', w'= w2 → SpoilPosth hi w rb p xs.length (.returned (.slice ao1 xs.length cap1)) w' := fun w' h => by
    subst h
    exact ⟨_, xs, p + 1, rfl, hO2.rd, by omega, HX.out, by omega, hr2, hG2⟩
  have HF := Lib.hid hfin
  clear hfin
  by_cases h0 : x = 0
  · have t0 : (x == 0) = true := by rw [h0]; rfl
    clear h0
    go_wp2_with (at_builtin; refine wpList_append_one _ rfl _ _ 23 rfl 3 (.int .i64 0) 8 Try.underlying23 info_int rfl w.heap.size _ _ _ rfl hO2 _ _ rfl rfl (by omega) (by omega) (by omega) ?_; intro v' w3 hO3 hg3 _)
    go_ret
    refine ⟨_, xs ++ [n], p + 1, rfl, ?_, by simp, tame_app HX.out hn.1 hn.2, by omega, hr2.grown hg3 (fun k hk => by have := (hO2.wblk hk).1; omega), grownBy_trans hG2 hg3 (fun k hk => .inr (hO2.wblk hk).1)⟩
    have := hO3.rd
    unfold Ints
    simpa using this
  · have t0 : (x == 0) = false := beq_eq_false_iff_ne.mpr h0
    by_cases h1 : x = 1
    · have t1 : (x == 1) = true := by rw [h1]; rfl
      clear h0 h1
      by_cases hl0 : 0 < xs.length
      · obtain ⟨g, rfl, hg, _, _, _, _⟩ := hO2.parts hl0
        obtain ⟨y, ys, rfl⟩ : ∃ y ys, xs = y :: ys := by cases xs with | nil => simp at hl0 | cons y ys => exact ⟨y, ys, rfl⟩
        have ht : tame ys := fun z hz => HX.out z (List.mem_cons_of_mem _ hz)
        have HT := Lib.hid ht
        clear ht
        by_cases hc1 : cap1 = 1
        · have hd := Rd.drop (k := 1) hO2.rd (by simp) (a := some ⟨g, 0, none⟩) (fun h => by simp at h hcap1; omega) (by simp)
          subst hc1
          go_wp2
          go_ret
          refine ⟨_, ys, p + 1, rfl, ?_, by simp; omega, HT.out, by omega, hr2, hG2⟩
          unfold Ints; simpa using hd
        · have hd := Rd.drop (k := 1) hO2.rd (by simp) (a := some ⟨g, 0 + 1, none⟩) (fun h => rfl) (by simp)
          go_wp2
          go_ret
          refine ⟨_, ys, p + 1, rfl, ?_, by simp; omega, HT.out, by omega, hr2, hG2⟩
          unfold Ints; simpa using hd
      · go_wp2
        go_ret
        exact HF.out _ rfl
    · have t1 : (x == 1) = false := beq_eq_false_iff_ne.mpr h1
      by_cases h2 : x = 2
      · have t2 : (x == 2) = true := by rw [h2]; rfl
        clear h0 h1 h2
        by_cases hl0 : 0 < xs.length
        · obtain ⟨g, rfl, hg, hg2, hcell, hfr, hset⟩ := hO2.parts hl0
          have HC := Lib.hid hcell; have HFR := Lib.hid hfr; have HS := Lib.hid hset
          clear hcell hfr hset
          go_wp2_with fail
          go_at_call 22
          refine (pick_h _ _ _ xs.length hr2 (by omega) (by omega)).mono ?_; rintro e w3 ⟨y, rfl, ⟨hy0, hy1, hy2⟩, hr3, hg3⟩
          have hy3 := hy1 (by omega)
          clear hy1
          have hO3 := hO2.grown hg3 (fun k hk => by cases hk; omega)
          have hG3 : w.grownBy w3 (some rb) := grownBy_trans hG2 hg3 (fun x hx => .inl hx)
          have hsz3 := hG3.size
          have hlt3 := hr3.lt
          have hr3' : ∀ o, Rdh hi (w3.alloc o) rb (p + 1 + 1) := fun o => hr3.grown (World.grownBy_alloc w3 o none) (fun k hk => by cases hk)
          have hv4 := Rd.made w3 ([-1, n, 0, 1].map (Value.int .i64)) 3 (rb + 1) 1 4 rfl (by omega) (by decide)
          go_wp2_with fail
          go_at_call 21
          refine (one_h _ _ _ _ [-1, n, 0, 1] (hr3' _) (by omega) hv4 (by simp) (by simp)).mono ?_; rintro e w4 ⟨z, rfl, hz, hr4, hg4⟩
          have hO4 := (hO3.alloc (.cells #[.int .i64 (-1), .int .i64 n, .int .i64 0, .int .i64 1] 3)).grown hg4 (fun k hk => by cases hk; omega)
          have hG4 : w.grownBy w4 (some rb) := grownBy_trans (grownBy_trans hG3 (World.grownBy_alloc w3 _ _) (fun x hx => .inl hx)) hg4 (fun x hx => .inl hx)
          obtain ⟨g', hgg, _, hgl, hcell, hfr, hset⟩ := hO4.parts hl0
          cases hgg
          obtain ⟨m, rfl⟩ : ∃ m : Nat, y = m := ⟨y.toNat, by omega⟩
          have hd := hcell m (by simp; omega)
          have hf := hfr m
          have hS := hset m (.int .i64 z)
          clear hcell hfr hset HC HFR HS
          have HS := Lib.hid hS
          clear hS
          go_wp2
          go_ret
          have hz' := hz.out
          simp at hz'
          refine ⟨_, xs.set m z, p + 1 + 1 + 1, rfl, ?_, by simp, ?_, by omega, hr4.grown HS.out.2 (fun k hk => by cases hk; omega), grownBy_trans hG4 HS.out.2 (fun k hk => by cases hk; right; omega)⟩
          · have := HS.out.1.rd
            unfold Ints
            rw [List.map_set]
            simpa using this
          · intro q hq
            rcases List.mem_or_eq_of_mem_set hq with h | h
            · exact HX.out q h
            · subst h; omega
        · go_wp2
          go_ret
          exact HF.out _ rfl
      · have t2 : (x == 2) = false := beq_eq_false_iff_ne.mpr h2
        clear h0 h1 h2
        go_wp2
        go_ret
        exact HF.out _ rfl
end Go.Proofs.Ytbojkhmlfflakaa
