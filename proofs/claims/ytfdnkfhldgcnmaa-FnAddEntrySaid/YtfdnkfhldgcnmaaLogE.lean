/- DrawAddEntry. -/
import Derived.Test.YtfdnkfhldgcnmaaLogD
import Derived.Test.YtfdnkfhldgcnmaaRdB
import Derived.ProofKit
namespace Go.Proofs.Ytfdnkfhldgcnmaa
open Go.RowKit
set_option linter.unusedVariables false
set_option linter.unusedSimpArgs false

def DrawnLogB (w : World) (hi rb p : Nat) (e : Ending) (w' : World) : Prop :=
  ∃ v, ∃ es : List Ent, ∃ p', e = .returned v ∧ Ents w' w.heap.size v es ∧ es.length ≤ 31 ∧ p' ≤ p + 1000 ∧ RdB w' hi rb p' ∧ w.grownBy w' (some rb)

set_option maxHeartbeats 2000000 in
theorem anyLog_B (w : World) (hi rb p : Nat) (hr : RdB w hi rb p) (hp : p ≤ 1000000) :
    Calls Try.prog 34 #[.pointer (some ⟨rb, 0, none⟩)] w (DrawnLogB w hi rb p) := by
  have hlt := hr.lt
  have hb1 := World.grownBy_alloc w (.cells #[] 34) (some rb)
  have hr1 : RdB (w.alloc (.cells #[] 34)) hi rb p := hr.grown (World.grownBy_alloc w _ none) (fun k hk => by cases hk)
  have hr2 : ∀ o, RdB ((w.alloc (.cells #[] 34)).alloc o) hi rb p := fun o => hr1.grown (World.grownBy_alloc _ o none) (fun k hk => by cases hk)
  have hO := Own.made w [] 34 w.heap.size 3 0 rfl (Nat.le_refl _) (by decide)
  have hv := Rd.made (w.alloc (.cells #[] 34)) ([4, 8, 12, 2, 0, 30, 31].map (Value.int .i64)) 3 (rb + 1) 1 7 rfl (by simp; omega) (by decide)
  simp only [World.size_alloc] at hv
  go_enter Try.func34, Try.ntmps34
  go_wp2_with fail
  go_at_call 38
  refine (one_B _ hi rb p _ [4, 8, 12, 2, 0, 30, 31] (hr2 _) (by omega) (hv.mono (Nat.zero_le _)) (fun e => by simp [Value.ownBlock] at e; omega) (by simp) (by simp)).mono ?_; rintro e w1 ⟨x, rfl, hx, hr3, hg3⟩
  have hO3 := (hO.alloc (.cells #[.int .i64 4, .int .i64 8, .int .i64 12, .int .i64 2, .int .i64 0, .int .i64 30, .int .i64 31] 3)).grown hg3 (fun k hk => by cases hk; omega)
  have hG3 := grownBy_trans (grownBy_trans hb1 (World.grownBy_alloc _ _ (some rb)) (fun x hx => .inl hx)) hg3 (fun x hx => .inl hx)
  have hx' := hx.out
  simp at hx'
  obtain ⟨m0, hm0, hm0'⟩ : ∃ m : Nat, x = m ∧ m ≤ 31 := ⟨x.toNat, by omega, by omega⟩
  subst hm0
  clear hx hx' hr1 hr2 hO hv hg3 hb1
  go_wp2_with fail
  go_loopw [3, 4, 5] (fun v a i wo => ∃ m : Nat, ∃ es : List Ent, ∃ at' : Int, ∃ p', i = .int .i64 m ∧ a = .int .i64 at' ∧ (0 ≤ at' ∧ at' ≤ 9 * (es.length : Int)) ∧ es.length + m ≤ 31 ∧ Own wo w.heap.size 34 3 v es.length (es.flatMap entCells) ∧ p' ≤ p + 1 + 3 * es.length ∧ RdB wo hi rb p' ∧ w.grownBy wo (some rb))
    (fun _ _ i _ => (intOf i).toNat)
  case atStart => exact ⟨m0, [], 0, p + 1, rfl, rfl, by simp, by simpa using hm0', hO3, by omega, hr3, hG3⟩
  case round =>
    clear hO3 hr3 hG3
    obtain ⟨m, es, at', p', rfl, rfl, hat, hm, hO, hp', hr, hG⟩ := hrel
    by_cases hm1 : 0 < m
    · go_wp2_with fail
      go_at_call 37
      refine (pick_B _ _ _ _ 9 hr (by omega) (by omega)).mono ?_; rintro e w1 ⟨y, rfl, ⟨hy0, hy1, hy2⟩, hr1, hg1⟩
      have hy3 := hy1 (by omega)
      have hO1 := hO.grown hg1 (fun k hk => by cases hk; omega)
      have hG1 := grownBy_trans hG hg1 (fun x hx => .inl hx)
      clear hy1 hO hr hG hg1
      have wr1 : IntKind.i64.wrap (at' + y) = at' + y := IntWalk.i64_in _ (by omega)
      go_wp2_with fail
      go_at_call 37
      refine (pick_B _ _ _ _ 3 hr1 (by omega) (by omega)).mono ?_; rintro e w2 ⟨y2, rfl, _, hr2, hg2⟩
      have hO2 := hO1.grown hg2 (fun k hk => by cases hk; omega)
      have hG2 := grownBy_trans hG1 hg2 (fun x hx => .inl hx)
      clear hO1 hr1 hG1 hg2
      go_wp2_with fail
      go_at_call 37
      refine (pick_B _ _ _ _ 2 hr2 (by omega) (by omega)).mono ?_; rintro e w3 ⟨y4, rfl, _, hr3, hg3⟩
      have hO3 := hO2.grown hg3 (fun k hk => by cases hk; omega)
      have hG3 := grownBy_trans hG2 hg3 (fun x hx => .inl hx)
      have hsz3 := hG3.size
      clear hO2 hr2 hG2 hg3
      go_wp2_with (at_builtin; refine wpList_append_ent _ rfl _ _ 25 rfl 34 Try.underlying25 info_entry w.heap.size _ es rfl hO3 _ _ _ _ rfl (by omega) (by omega) (by omega) ?_; intro v' w5 hO5 hg5 _)
      go_roundw
      case rel => exact ⟨m - 1, es ++ [⟨at' + y, y2, y4 == 0⟩], at' + y, p' + 1 + 1 + 1, (by congr 1; omega), (by go_num), (by simp; omega), by simp; omega, hO5, by simp; omega, hr3.grown hg5 (fun k hk => by have := (hO3.wblk hk).1; omega), grownBy_trans hG3 hg5 (fun k hk => .inr (hO3.wblk hk).1)⟩
      case measure => simp [intOf]; omega
    · obtain ⟨ao, cap, rfl, hcap, hmm⟩ := hO.rd.form
      by_cases hn : 0 < es.length
      · go_wp2_with fail
        go_at_call 37
        refine (pick_B _ _ _ _ 16 hr (by omega) (by omega)).mono ?_; rintro e w1 ⟨y, rfl, _, hr1, hg1⟩
        have hO1 := hO.grown hg1 (fun k hk => by cases hk; omega)
        have hG1 := grownBy_trans hG hg1 (fun x hx => .inl hx)
        clear hO hr hG hg1
        by_cases hy : y = 0
        · have hy' : (y == 0) = true := by simp [hy]
          go_wp2_with fail
          go_at_call 37
          refine (pick_B _ _ _ _ es.length hr1 (by omega) (by omega)).mono ?_; rintro e w2 ⟨x, rfl, ⟨hx0, hx1, hx2⟩, hr2, hg2⟩
          have hx3 := hx1 (by omega)
          obtain ⟨j, rfl⟩ := Int.eq_ofNat_of_zero_le hx0
          have hO2 := hO1.grown hg2 (fun k hk => by cases hk; omega)
          have hG2 := grownBy_trans hG1 hg2 (fun x hx => .inl hx)
          have hlt2 := hr2.lt
          have hsz2 := hG2.size
          clear hO1 hr1 hG1 hg2 hx1 hy
          have hr2' : ∀ o, RdB (w2.alloc o) hi rb (p' + 1 + 1) := fun o => hr2.grown (World.grownBy_alloc w2 o none) (fun k hk => by cases hk)
          have hv4 := Rd.made w2 ([-1, 0, 9999, 10000].map (Value.int .i64)) 3 (rb + 1) 1 4 rfl (by omega) (by decide)
          go_wp2_with fail
          go_at_call 38
          refine (one_B _ _ _ _ _ [-1, 0, 9999, 10000] (hr2' _) (by omega) (hv4.mono (Nat.zero_le _)) (fun e => by simp [Value.ownBlock] at e; omega) (by simp) (by simp)).mono ?_; rintro e w4 ⟨z, rfl, _, hr4, hg4⟩
          have hO4 := (hO2.alloc (.cells #[.int .i64 (-1), .int .i64 0, .int .i64 9999, .int .i64 10000] 3)).grown hg4 (fun k hk => by cases hk; omega)
          have hG4 := grownBy_trans (grownBy_trans hG2 (World.grownBy_alloc w2 _ _) (fun x hx => .inl hx)) hg4 (fun x hx => .inl hx)
          have hlt4 := hr4.lt
          clear hO2 hr2 hr2' hG2 hg4 hv4
          have hr4' : ∀ o, RdB (w4.alloc o) hi rb (p' + 1 + 1 + 1) := fun o => hr4.grown (World.grownBy_alloc w4 o none) (fun k hk => by cases hk)
          have hv5 := Rd.made w4 ([-1, 7, 8, 0].map (Value.int .i64)) 3 (rb + 1) 1 4 rfl (by omega) (by decide)
          go_wp2_with fail
          go_at_call 38
          refine (one_B _ _ _ _ _ [-1, 7, 8, 0] (hr4' _) (by omega) (hv5.mono (Nat.zero_le _)) (fun e => by simp [Value.ownBlock] at e; omega) (by simp) (by simp)).mono ?_; rintro e w5 ⟨z5, rfl, _, hr5, hg5⟩
          have hO5 := (hO4.alloc (.cells #[.int .i64 (-1), .int .i64 7, .int .i64 8, .int .i64 0] 3)).grown hg5 (fun k hk => by cases hk; omega)
          have hG5 := grownBy_trans (grownBy_trans hG4 (World.grownBy_alloc w4 _ _) (fun x hx => .inl hx)) hg5 (fun x hx => .inl hx)
          clear hO4 hr4 hr4' hG4 hg5 hv5
          have hlen := hO5.len
          obtain ⟨g, rfl, hg1, hg2, hcell, hfr, _⟩ := hO5.parts hn
          have hj : j < es.length := by omega
          have hd1 := hcell (j * 3) (by omega)
          have hd2 := hcell (j * 3 + 1) (by omega)
          have hd3 := hcell (j * 3 + 2) (by omega)
          have hf1 := hfr (j * 3)
          have hf2 := hfr (j * 3 + 1)
          have hf3 := hfr (j * 3 + 2)
          clear hcell hfr
          obtain ⟨hS1, gS1⟩ := hO5.store hn (j * 3) (.int .i64 z)
          obtain ⟨hS2, gS2⟩ := hS1.store hn (j * 3 + 1) (.int .i64 z5)
          obtain ⟨hS3, gS3⟩ := hS2.store hn (j * 3 + 2) (.bool false)
          have gS := grownBy_trans (grownBy_trans gS1 gS2 (fun x hx => .inl hx)) gS3 (fun x hx => .inl hx)
          have hr6 := hr5.grown gS (fun k hk => by cases hk; omega)
          have hG6 := grownBy_trans hG5 gS (fun k hk => by cases hk; exact .inr hg1)
          have hs := set_flat ⟨z, z5, false⟩ es j
          simp only at hs
          rw [hs] at hS3
          have hl : (es.set j ⟨z, z5, false⟩).length = es.length := by simp
          have HF : Hid (Ents _ w.heap.size _ (es.set j ⟨z, z5, false⟩) ∧ (es.set j ⟨z, z5, false⟩).length ≤ 31 ∧ p' + 1 + 1 + 1 + 1 ≤ p + 1000 ∧ RdB _ hi rb (p' + 1 + 1 + 1 + 1) ∧ w.grownBy _ (some rb)) :=
            ⟨by unfold Ents; rw [hl]; exact hS3.rd, by omega, by omega, hr6, hG6⟩
          clear hS1 hS2 hS3 gS1 gS2 gS3 gS hs hr6 hG6 hO5 hr5 hG5
          go_wp2
          go_ret
          exact ⟨_, _, _, rfl, HF.out⟩
        · have hy' : (y == 0) = false := by simp [hy]
          have HF : Hid (Ents _ w.heap.size _ es ∧ es.length ≤ 31 ∧ p' + 1 ≤ p + 1000 ∧ RdB _ hi rb (p' + 1) ∧ w.grownBy _ (some rb)) := ⟨hO1.rd, by omega, by omega, hr1, hG1⟩
          clear hO1 hr1 hG1
          go_wp2
          go_ret
          exact ⟨_, _, _, rfl, HF.out⟩
      · have HF : Hid (Ents _ w.heap.size _ es ∧ es.length ≤ 31 ∧ p' ≤ p + 1000 ∧ RdB _ hi rb p' ∧ w.grownBy _ (some rb)) := ⟨hO.rd, by omega, by omega, hr, hG⟩
        clear hO hr hG
        go_wp2
        go_ret
        exact ⟨_, _, _, rfl, HF.out⟩


theorem Rd.below_blk {w : World} {lo sz n : Nat} {v : Value} {cs : List Value} (h : Rd w lo v sz n cs) (hsz : 0 < sz) : 0 < n → ∀ k, v.ownBlock = some k → k < w.heap.size := by
  intro hn k hk
  obtain ⟨h1, ao, cap, rfl, h3, h4, h5, h6⟩ := h
  obtain ⟨b, off, rfl, hb, hc⟩ := h6 hn
  have h0 : 0 < cs.length := by rw [h1]; exact Nat.mul_pos hn hsz
  have e : b = k := by simpa [Value.ownBlock] using hk
  subst e
  exact World.block_lt_of_cell? w ⟨b, off + 0, none⟩ (hc 0 h0)
theorem Rd.apart {w w' : World} {lo sz n : Nat} {v : Value} {cs : List Value} {row : Option Nat} (h : Rd w lo v sz n cs) (hg : w.grownBy w' row) (hsz : 0 < sz)
    (hr : ∀ k, row = some k → 0 < n → v.ownBlock ≠ some k) : Rd w' lo v sz n cs := by
  by_cases hn : 0 < n
  · exact h.grown hg (fun k hk => .inr (hr k hk hn)) hsz
  · obtain ⟨h1, ao, cap, rfl, h3, h4, h5, h6⟩ := h
    exact ⟨h1, ao, cap, rfl, h3, h4, h5, fun h => absurd h hn⟩

def DrawLogEnt (w : World) (e : Ending) (w' : World) : Prop :=
  ∃ v, ∃ es : List Ent, ∃ x : Ent, e = .returned (.tuple #[v, .agg #[.int .i64 x.t, .int .i64 x.u, .bool x.s]]) ∧ Ents w' 0 v es ∧ es.length ≤ 31 ∧ Below w.heap.size w w'

set_option maxHeartbeats 1000000 in
theorem drawAddEntry (w : World) (v : Value) (bs : List UInt8) (hv : Bytes w 0 v bs) : Calls Try.prog 24 #[v] w (DrawLogEnt w) := by
  have hbl : bs ≠ [] → ∀ k, v.ownBlock = some k → k < w.heap.size := by
    intro hne k hk
    obtain ⟨_, ao, cap, rfl, _, _, _, hc⟩ := hv
    obtain ⟨b, off, rfl, _, hcell⟩ := hc (by cases bs <;> simp_all)
    cases hk
    exact World.block_lt_of_cell? w ⟨b, off + 0, none⟩ (hcell 0 (by cases bs <;> simp_all))
  have hO0 := Own.made w [.int .i64 0, .int .i64 0, .bool false] 34 w.heap.size 3 1 rfl (Nat.le_refl _) (by decide)
  have hB0 : Below w.heap.size w (w.alloc (.cells #[.int .i64 0, .int .i64 0, .bool false] 34)) := (Below.refl _ _).alloc (Nat.le_refl _) _
  have hv0 : Bytes (w.alloc (.cells #[.int .i64 0, .int .i64 0, .bool false] 34)) 0 v bs := Rd.below hv hB0 (Nat.le_refl _) (by decide)
  have hz0 : (w.alloc (.cells #[.int .i64 0, .int .i64 0, .bool false] 34)).heap.size = w.heap.size + 1 := by simp
  go_enter Try.func24, Try.ntmps24
  go_wp2_with fail
  obtain ⟨w0, hw0⟩ : ∃ w0, w0 = w.alloc (.cells #[.int .i64 0, .int .i64 0, .bool false] 34) := ⟨_, rfl⟩
  rw [← hw0] at hO0 hB0 hv0 hz0 ⊢
  clear hw0
  go_at_call 35
  refine (newReader_B w0 w.heap.size v bs hv0 hbl (by omega)).mono ?_; rintro e w1 ⟨rfl, hr, hB1⟩
  have hO1 := hO0.below hB1 (Nat.le_refl _)
  have hB1 : Below w.heap.size w w1 := hB0.trans (hB1.mono (by omega))
  obtain ⟨rb, hrb⟩ : ∃ rb, rb = w0.heap.size := ⟨_, rfl⟩
  rw [← hrb] at hr hz0 ⊢
  have hz1 : w.heap.size < rb := by omega
  have hz2 : rb < w.heap.size + 2 := by omega
  clear hO0 hB0 hv0 hz0 hrb
  go_wp2_with fail
  go_at_call 34
  refine (anyLog_B _ _ _ 0 hr (by omega)).mono ?_; rintro e w2 ⟨v2, es, p2, rfl, hI, hl, hp2, hr2, hg2⟩
  have hlt1 := hr.lt
  have hB2 := hB1.trans (below_of_grownBy hg2 (B := w.heap.size) hB1.size (fun k hk => by cases hk; omega))
  have hI2 : Ents w2 (w.heap.size + 2) v2 es := hI.mono (by omega)
  have hO2 := hO1.grown hg2 (fun k hk => .inr (by cases hk; simp [Value.ownBlock]; omega))
  clear hI hg2 hB1 hr hv hO1
  go_wp2_with fail
  go_at_call 37
  refine (pick_P _ _ _ _ 200 hr2 (by omega) (by omega) (by omega)).mono ?_; rintro e w3 ⟨y3, rfl, ⟨ha3, hb3⟩, hr3, hg⟩
  have hI3 : Ents w3 (w.heap.size + 2) v2 es := Rd.grown hI2 hg (fun k hk => by cases hk; omega) (by decide)
  have hB3 := hB2.trans (below_of_grownBy hg (B := w.heap.size) hB2.size (fun k hk => by cases hk; omega))
  have hO3 := hO2.grown hg (fun k hk => .inr (by cases hk; simp [Value.ownBlock]; omega))
  clear hI2 hg hB2 hr2 hO2
  have wr1 : IntKind.i64.wrap (100 + y3) = 100 + y3 := IntWalk.i64_in _ (by omega)
  go_wp2_with fail
  go_at_call 37
  refine (pick_P _ _ _ _ 3 hr3 (by omega) (by omega) (by omega)).mono ?_; rintro e w4 ⟨y4, rfl, ⟨ha4, hb4⟩, hr4, hg⟩
  have hI4 : Ents w4 (w.heap.size + 2) v2 es := Rd.grown hI3 hg (fun k hk => by cases hk; omega) (by decide)
  have hB4 := hB3.trans (below_of_grownBy hg (B := w.heap.size) hB3.size (fun k hk => by cases hk; omega))
  have hO4 := hO3.grown hg (fun k hk => .inr (by cases hk; simp [Value.ownBlock]; omega))
  clear hI3 hg hB3 hr3 hO3
  go_wp2_with fail
  go_at_call 37
  refine (pick_P _ _ _ _ 2 hr4 (by omega) (by omega) (by omega)).mono ?_; rintro e w5 ⟨y5, rfl, ⟨ha5, hb5⟩, hr5, hg⟩
  have hI5 : Ents w5 (w.heap.size + 2) v2 es := Rd.grown hI4 hg (fun k hk => by cases hk; omega) (by decide)
  have hB5 := hB4.trans (below_of_grownBy hg (B := w.heap.size) hB4.size (fun k hk => by cases hk; omega))
  have hO5 := hO4.grown hg (fun k hk => .inr (by cases hk; simp [Value.ownBlock]; omega))
  clear hI4 hg hB4 hr4 hO4
  have hO6 := hO5.alloc (.cells #[.int .i64 (100 + y3), .int .i64 y4, .bool (y5 == 0)] 34)
  have hX6 := Own.made w5 [.int .i64 (100 + y3), .int .i64 y4, .bool (y5 == 0)] 34 w5.heap.size 3 1 rfl (Nat.le_refl _) (by decide)
  have hr6 := hr5.alloc (.cells #[.int .i64 (100 + y3), .int .i64 y4, .bool (y5 == 0)] 34)
  have hI6 : Ents (w5.alloc (.cells #[.int .i64 (100 + y3), .int .i64 y4, .bool (y5 == 0)] 34)) (w.heap.size + 2) v2 es := Rd.grown (row := none) hI5 (World.grownBy_alloc w5 _ none) (fun k hk => by cases hk) (by decide)
  have hB6 : Below w.heap.size w (w5.alloc (.cells #[.int .i64 (100 + y3), .int .i64 y4, .bool (y5 == 0)] 34)) := hB5.alloc hB5.size _
  obtain ⟨xb, hxb⟩ : ∃ xb, xb = w5.heap.size := ⟨_, rfl⟩
  have hlt5 := hr5.lt
  have hvb := Rd.below_blk hI5 (by decide)
  rw [← hxb] at hX6 hlt5 hvb
  clear hO5 hr5 hI5 hB5
  go_wp2_with fail
  obtain ⟨w6, hw6⟩ : ∃ w6, w6 = w5.alloc (.cells #[.int .i64 (100 + y3), .int .i64 y4, .bool (y5 == 0)] 34) := ⟨_, rfl⟩
  rw [← hw6] at hO6 hX6 hr6 hI6 hB6 ⊢
  rw [← hxb]
  clear hw6 hxb
  go_at_call 37
  refine (pick_P _ _ _ _ 6 hr6 (by omega) (by omega) (by omega)).mono ?_; rintro e w7 ⟨y7, rfl, ⟨ha7, hb7⟩, hr7, hg⟩
  have hI7 : Ents w7 (w.heap.size + 2) v2 es := Rd.grown hI6 hg (fun k hk => by cases hk; omega) (by decide)
  have hB7 := hB6.trans (below_of_grownBy hg (B := w.heap.size) hB6.size (fun k hk => by cases hk; omega))
  have hO7 := hO6.grown hg (fun k hk => .inr (by cases hk; simp [Value.ownBlock]; omega))
  have hX7 := hX6.grown hg (fun k hk => .inr (by cases hk; simp [Value.ownBlock]; omega))
  clear hI6 hg hB6 hr6 hO6 hX6
  by_cases hy : y7 = 0
  · have hy' : (y7 == 0) = true := by simp [hy]
    clear hy
    go_wp2_with fail
    go_at_call 38
    refine (one_L w7 _ rb _ [0, -1, 9999, 10000] _ 4 rfl hr7 (by omega) (by omega) (by omega)).mono ?_; rintro e w8 ⟨y8, rfl, _, hr8, hg⟩
    have hI8 : Ents w8 (w.heap.size + 2) v2 es := Rd.grown hI7 hg (fun k hk => by cases hk; omega) (by decide)
    have hB8 := hB7.trans (below_of_grownBy hg (B := w.heap.size) hB7.size (fun k hk => by cases hk; omega))
    have hO8 := hO7.grown hg (fun k hk => .inr (by cases hk; simp [Value.ownBlock]; omega))
    have hX8 := hX7.grown hg (fun k hk => .inr (by cases hk; simp [Value.ownBlock]; omega))
    clear hI7 hg hB7 hr7 hO7 hX7
    go_wp2_with fail
    go_at_call 38
    refine (one_L w8 _ rb _ [0, 7, 8] _ 3 rfl hr8 (by omega) (by omega) (by omega)).mono ?_; rintro e w9 ⟨y9, rfl, _, hr9, hg⟩
    have hI9 : Ents w9 (w.heap.size + 2) v2 es := Rd.grown hI8 hg (fun k hk => by cases hk; omega) (by decide)
    have hB9 := hB8.trans (below_of_grownBy hg (B := w.heap.size) hB8.size (fun k hk => by cases hk; omega))
    have hO9 := hO8.grown hg (fun k hk => .inr (by cases hk; simp [Value.ownBlock]; omega))
    have hX9 := hX8.grown hg (fun k hk => .inr (by cases hk; simp [Value.ownBlock]; omega))
    clear hI8 hg hB8 hr8 hO8 hX8
    obtain ⟨gX, e2, _, gX2, hcX, hfX, _⟩ := hX9.parts (by omega)
    cases e2
    have x0 := hcX 0 (by simp)
    have x1 := hcX 1 (by simp)
    have x2 := hcX 2 (by simp)
    have fx0 := hfX 0
    have fx1 := hfX 1
    have fx2 := hfX 2
    simp only [List.getElem_cons_zero, List.getElem_cons_succ] at x0 x1 x2
    obtain ⟨q1, g1⟩ := hX9.store (by omega) 0 (.int .i64 y8)
    obtain ⟨q2, g2⟩ := q1.store (by omega) 1 (.int .i64 y9)
    obtain ⟨hX10, g3⟩ := q2.store (by omega) 2 (.bool false)
    have gS := grownBy_trans (grownBy_trans g1 g2 (fun x hx => .inl hx)) g3 (fun x hx => .inl hx)
    have hI10 : Ents _ (w.heap.size + 2) v2 es := Rd.apart hI9 gS (by decide) (fun k hk hn e => by cases hk; have := hvb hn _ e; omega)
    have hB10 := hB9.trans (below_of_grownBy gS (B := w.heap.size) hB9.size (fun k hk => by cases hk; omega))
    have hO10 := hO9.grown gS (fun k hk => .inr (by cases hk; simp [Value.ownBlock]; omega))
    have hr10 := hr9
    clear hI9 hB9 hO9 hX9 q1 q2 g1 g2 g3 gS hcX hfX hr9
    go_wp2_with fail
    obtain ⟨w10, hw10⟩ : ∃ w10, w10 = ((w9.setCell ⟨xb, 0, none⟩ (.int .i64 y8)).setCell ⟨xb, 1, none⟩ (.int .i64 y9)).setCell ⟨xb, 2, none⟩ (.bool false) := ⟨_, rfl⟩
    rw [← hw10] at hX10 hI10 hB10 hO10 ⊢
    clear hw10 x0 x1 x2 fx0 fx1 fx2
    obtain ⟨gE, e1, _, gE2, hcE, hfE, hsE⟩ := hO10.parts (by omega)
    cases e1
    have k0 := hcE 0 (by simp)
    have k1 := hcE 1 (by simp)
    have k2 := hcE 2 (by simp)
    have f0 := hfE 0
    have f1 := hfE 1
    have f2 := hfE 2
    obtain ⟨gX, e2, _, gX2, hcX, hfX, _⟩ := hX10.parts (by omega)
    cases e2
    have x0 := hcX 0 (by simp)
    have x1 := hcX 1 (by simp)
    have x2 := hcX 2 (by simp)
    have fx0 := hfX 0
    have fx1 := hfX 1
    have fx2 := hfX 2
    simp only [List.getElem_cons_zero, List.getElem_cons_succ] at k0 k1 k2 x0 x1 x2
    have hOo := hO10
    have hIi := hI10
    have hBb := hB10
    obtain ⟨q1, g1⟩ := hOo.store (by omega) 0 (.int .i64 y8)
    obtain ⟨q2, g2⟩ := q1.store (by omega) 1 (.int .i64 y9)
    obtain ⟨q3, g3⟩ := q2.store (by omega) 2 (.bool false)
    have gS := grownBy_trans (grownBy_trans g1 g2 (fun x hx => .inl hx)) g3 (fun x hx => .inl hx)
    have HI := Rd.grown hIi gS (fun k hk => by cases hk; omega) (by decide)
    have HB := hBb.trans (below_of_grownBy gS (B := w.heap.size) hBb.size (fun k hk => by cases hk; omega))
    have HF : Hid (Ents _ 0 v2 es ∧ es.length ≤ 31 ∧ Below w.heap.size w _) := ⟨Rd.mono (Rd.below HI (Below.drew (Below.refl _ _)) (Nat.le_refl _) (by decide)) (Nat.zero_le _), hl, Below.drew HB⟩
    clear hcE hfE hsE hcX hfX hO10 hX10 hI10 hB10 hr10 q1 q2 q3 g1 g2 g3 gS HI HB hOo hIi hBb
    go_still_tail 3, (by kernel_rfl)
    go_wp2_with fail
    refine bodyPost_ret (v := .tuple #[v2, .agg #[.int .i64 y8, .int .i64 y9, .bool false]]) (by simp [results, Try.results24, go_sem, k0, k1, k2]) rfl ?_
    exact ⟨_, es, ⟨y8, y9, false⟩, rfl, HF.out⟩
  · have hy' : (y7 == 0) = false := by simp [hy]
    clear hy
    obtain ⟨gE, e1, _, gE2, hcE, hfE, hsE⟩ := hO7.parts (by omega)
    cases e1
    have k0 := hcE 0 (by simp)
    have k1 := hcE 1 (by simp)
    have k2 := hcE 2 (by simp)
    have f0 := hfE 0
    have f1 := hfE 1
    have f2 := hfE 2
    obtain ⟨gX, e2, _, gX2, hcX, hfX, _⟩ := hX7.parts (by omega)
    cases e2
    have x0 := hcX 0 (by simp)
    have x1 := hcX 1 (by simp)
    have x2 := hcX 2 (by simp)
    have fx0 := hfX 0
    have fx1 := hfX 1
    have fx2 := hfX 2
    simp only [List.getElem_cons_zero, List.getElem_cons_succ] at k0 k1 k2 x0 x1 x2
    have hOo := hO7
    have hIi := hI7
    have hBb := hB7
    obtain ⟨q1, g1⟩ := hOo.store (by omega) 0 (.int .i64 (100 + y3))
    obtain ⟨q2, g2⟩ := q1.store (by omega) 1 (.int .i64 y4)
    obtain ⟨q3, g3⟩ := q2.store (by omega) 2 (.bool (y5 == 0))
    have gS := grownBy_trans (grownBy_trans g1 g2 (fun x hx => .inl hx)) g3 (fun x hx => .inl hx)
    have HI := Rd.grown hIi gS (fun k hk => by cases hk; omega) (by decide)
    have HB := hBb.trans (below_of_grownBy gS (B := w.heap.size) hBb.size (fun k hk => by cases hk; omega))
    have HF : Hid (Ents _ 0 v2 es ∧ es.length ≤ 31 ∧ Below w.heap.size w _) := ⟨Rd.mono (Rd.below HI (Below.drew (Below.refl _ _)) (Nat.le_refl _) (by decide)) (Nat.zero_le _), hl, Below.drew HB⟩
    clear hcE hfE hsE hcX hfX hO7 hX7 hI7 hB7 hr7 q1 q2 q3 g1 g2 g3 gS HI HB hOo hIi hBb
    go_wp2_with fail
    go_still_tail 3, (by kernel_rfl)
    go_wp2_with fail
    refine bodyPost_ret (v := .tuple #[v2, .agg #[.int .i64 (100 + y3), .int .i64 y4, .bool (y5 == 0)]]) (by simp [results, Try.results24, go_sem, k0, k1, k2]) rfl ?_
    exact ⟨_, es, ⟨(100 + y3), y4, (y5 == 0)⟩, rfl, HF.out⟩

end Go.Proofs.Ytfdnkfhldgcnmaa
