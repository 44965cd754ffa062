/- The draws of logs. -/
import Derived.Test.YtfdnkfhldgcnmaaLog2
import Derived.Test.YtfdnkfhldgcnmaaRdr
import Derived.ProofKit
namespace Go.Proofs.Ytfdnkfhldgcnmaa
open Go.RowKit

theorem set_flat (e : Ent) : ∀ (es : List Ent) (j : Nat), (((es.flatMap entCells).set (j * 3) (.int .i64 e.t)).set (j * 3 + 1) (.int .i64 e.u)).set (j * 3 + 2) (.bool e.s) = (es.set j e).flatMap entCells := by
  intro es
  induction es with
  | nil => intro j; simp
  | cons x r ih =>
    intro j
    cases j with
    | zero => simp [entCells, List.flatMap_cons]
    | succ j =>
      have e1 : (j + 1) * 3 = j * 3 + 1 + 1 + 1 := by omega
      have e3 : j * 3 + 1 + 1 + 1 + 2 = j * 3 + 2 + 1 + 1 + 1 := by omega
      rw [e1, e3]
      have := ih j
      simp only [List.flatMap_cons, entCells, List.cons_append, List.nil_append, List.set_cons_succ] at this ⊢
      rw [← this]

theorem wpList_append_ent {P : Program} (w : World) {ops : Array Oper} {rest : List Oper} {o : Oper} {a : Act} {Q : Exit → Act → World → Prop} (hgd : o.guard = none) (s x : Operand) (t : TypeId)
    (ho : o.op = .call { callee := .builtin .append, args := #[s, x], argTypes := #[t, t] })
    (e : TypeId) (ht : P.underlying t = some (.slice e)) (hi : (P.info? e).map (fun i => (i.zero, i.size, i.bytes)) = some (some (.agg #[.int .i64 0, .int .i64 0, .bool false]), 3, 24))
    (lo : Nat) (v : Value) (es : List Ent) (hs : a.eval s = v) (hown : Own w lo e 3 v es.length (es.flatMap entCells))
    (t0 u0 : Int) (s0 : Bool) (t' : TypeId) (hxe : a.eval x = .slice (some ⟨w.heap.size, 0, none⟩) 1 1)
    (h63 : es.length + 1 ≤ 9223372036854775807) (hbytes : (es.length + 1) * 24 ≤ 140737488355328) (hbase : lo ≤ w.heap.size)
    (h : ∀ v' w', Own w' lo e 3 v' (es ++ [(⟨t0, u0, s0⟩ : Ent)]).length ((es ++ [(⟨t0, u0, s0⟩ : Ent)]).flatMap entCells) → w.grownBy w' (wblk v) → (∀ k, wblk v' = some k → wblk v = some k ∨ w.heap.size ≤ k) → wpList P ops Q rest (a.put o.dst v') w') :
    wpList P ops Q (o :: rest) a (w.alloc (.cells #[.int .i64 t0, .int .i64 u0, .bool s0] t')) := by
  refine wpList_append_Own _ hgd s x t ho e _ 3 24 ht hi rfl (by omega) lo v es.length _ hs (hown.alloc _) _ 0 1 [.int .i64 t0, .int .i64 u0, .bool s0] hxe (Rd.made w [.int .i64 t0, .int .i64 u0, .bool s0] t' 0 3 1 rfl (Nat.zero_le _) (by decide)) (by intro u hu; simp at hu; rcases hu with rfl | rfl | rfl <;> rfl) (by unfold maxLen; omega) hbytes (by simp; omega) ?_
  intro v' w' ho' hg hk
  have hga := World.grownBy_alloc w (.cells #[.int .i64 t0, .int .i64 u0, .bool s0] t') none
  refine h v' w' (by simpa [entCells] using ho') ?_ ?_
  · exact grownBy_trans (row := wblk v) ⟨hga.os, hga.tape, hga.output, hga.size, fun k hk _ => hga.block k hk (fun e => by cases e)⟩ hg (fun x hx => .inl hx)
  · intro k hk'
    rcases hk k hk' with h | h
    · exact .inl h
    · right; simp at h; omega

def DrawnLog (w : World) (rb p : Nat) (e : Ending) (w' : World) : Prop :=
  ∃ v, ∃ es : List Ent, ∃ p', e = .returned v ∧ Ents w' w.heap.size v es ∧ es.length ≤ 31 ∧ p' ≤ p + 1000 ∧ Rdr w' rb p' ∧ w.grownBy w' (some rb)

set_option maxHeartbeats 2000000 in
theorem anyLog_any (w : World) (rb p : Nat) (hr : Rdr w rb p) (hp : p ≤ 1000000) :
    Calls Try.prog 34 #[.pointer (some ⟨rb, 0, none⟩)] w (DrawnLog w rb p) := by
  have hlt := hr.lt
  have hb1 := World.grownBy_alloc w (.cells #[] 34) (some rb)
  have hr1 : Rdr (w.alloc (.cells #[] 34)) rb p := hr.grown (World.grownBy_alloc w _ none) (fun k hk => by cases hk)
  have hr2 : ∀ o, Rdr ((w.alloc (.cells #[] 34)).alloc o) rb p := fun o => hr1.grown (World.grownBy_alloc _ o none) (fun k hk => by cases hk)
  have hO := Own.made w [] 34 w.heap.size 3 0 rfl (Nat.le_refl _) (by decide)
  have hv := Rd.made (w.alloc (.cells #[] 34)) ([4, 8, 12, 2, 0, 30, 31].map (Value.int .i64)) 3 (rb + 1) 1 7 rfl (by simp; omega) (by decide)
  simp only [World.size_alloc] at hv
  go_enter Try.func34, Try.ntmps34
  go_wp2_with fail
  go_at_call 38
  refine (one_any _ rb p _ [4, 8, 12, 2, 0, 30, 31] (hr2 _) (by omega) hv (by simp) (by simp)).mono ?_; rintro e w1 ⟨x, rfl, hx, hr3, hg3⟩
  have hO3 := (hO.alloc (.cells #[.int .i64 4, .int .i64 8, .int .i64 12, .int .i64 2, .int .i64 0, .int .i64 30, .int .i64 31] 3)).grown hg3 (fun k hk => by cases hk; omega)
  have hG3 := grownBy_trans (grownBy_trans hb1 (World.grownBy_alloc _ _ (some rb)) (fun x hx => .inl hx)) hg3 (fun x hx => .inl hx)
  have hx' := hx.out
  simp at hx'
  obtain ⟨m0, hm0, hm0'⟩ : ∃ m : Nat, x = m ∧ m ≤ 31 := ⟨x.toNat, by omega, by omega⟩
  subst hm0
  clear hx hx' hr1 hr2 hO hv hg3 hb1
  go_wp2_with fail
  go_loopw [3, 4, 5] (fun v a i wo => ∃ m : Nat, ∃ es : List Ent, ∃ at' : Int, ∃ p', i = .int .i64 m ∧ a = .int .i64 at' ∧ (0 ≤ at' ∧ at' ≤ 9 * (es.length : Int)) ∧ es.length + m ≤ 31 ∧ Own wo w.heap.size 34 3 v es.length (es.flatMap entCells) ∧ p' ≤ p + 1 + 3 * es.length ∧ Rdr wo rb p' ∧ w.grownBy wo (some rb))
    (fun _ _ i _ => (intOf i).toNat)
  case atStart => exact ⟨m0, [], 0, p + 1, rfl, rfl, by simp, by simpa using hm0', hO3, by omega, hr3, hG3⟩
  case round =>
    clear hO3 hr3 hG3
    obtain ⟨m, es, at', p', rfl, rfl, hat, hm, hO, hp', hr, hG⟩ := hrel
    by_cases hm1 : 0 < m
    · go_wp2_with fail
      go_at_call 37
      refine (pick_any _ _ _ 9 hr (by omega) (by omega)).mono ?_; rintro e w1 ⟨y, rfl, ⟨hy0, hy1, hy2⟩, hr1, hg1⟩
      have hy3 := hy1 (by omega)
      have hO1 := hO.grown hg1 (fun k hk => by cases hk; omega)
      have hG1 := grownBy_trans hG hg1 (fun x hx => .inl hx)
      clear hy1 hO hr hG hg1
      have wr1 : IntKind.i64.wrap (at' + y) = at' + y := IntWalk.i64_in _ (by omega)
      go_wp2_with fail
      go_at_call 37
      refine (pick_any _ _ _ 3 hr1 (by omega) (by omega)).mono ?_; rintro e w2 ⟨y2, rfl, _, hr2, hg2⟩
      have hO2 := hO1.grown hg2 (fun k hk => by cases hk; omega)
      have hG2 := grownBy_trans hG1 hg2 (fun x hx => .inl hx)
      clear hO1 hr1 hG1 hg2
      go_wp2_with fail
      go_at_call 37
      refine (pick_any _ _ _ 2 hr2 (by omega) (by omega)).mono ?_; rintro e w3 ⟨y4, rfl, _, hr3, hg3⟩
      have hO3 := hO2.grown hg3 (fun k hk => by cases hk; omega)
      have hG3 := grownBy_trans hG2 hg3 (fun x hx => .inl hx)
      have hsz3 := hG3.size
      clear hO2 hr2 hG2 hg3
      go_wp2_with (at_builtin; refine wpList_append_ent _ rfl _ _ 25 rfl 34 Try.underlying25 info_entry w.heap.size _ es rfl hO3 _ _ _ _ rfl (by omega) (by omega) (by omega) ?_; intro v' w5 hO5 hg5 _)
      go_roundw
      case rel => exact ⟨m - 1, es ++ [⟨at' + y, y2, y4 == 0⟩], at' + y, p' + 1 + 1 + 1, (by congr 1; omega), (by go_num), (by simp; omega), by simp; omega, hO5, by simp; omega, hr3.grown hg5 (fun k hk => by have := (hO3.wblk hk).1; omega), grownBy_trans hG3 hg5 (fun k hk => .inr (hO3.wblk hk).1)⟩
      case measure => simp [intOf]; omega
    · obtain ⟨ao, cap, rfl, hcap, hmm⟩ := hO.rd.form
      by_cases hn : 0 < es.length
      · go_wp2_with fail
        go_at_call 37
        refine (pick_any _ _ _ 16 hr (by omega) (by omega)).mono ?_; rintro e w1 ⟨y, rfl, _, hr1, hg1⟩
        have hO1 := hO.grown hg1 (fun k hk => by cases hk; omega)
        have hG1 := grownBy_trans hG hg1 (fun x hx => .inl hx)
        clear hO hr hG hg1
        by_cases hy : y = 0
        · have hy' : (y == 0) = true := by simp [hy]
          go_wp2_with fail
          go_at_call 37
          refine (pick_any _ _ _ es.length hr1 (by omega) (by omega)).mono ?_; rintro e w2 ⟨x, rfl, ⟨hx0, hx1, hx2⟩, hr2, hg2⟩
          have hx3 := hx1 (by omega)
          obtain ⟨j, rfl⟩ := Int.eq_ofNat_of_zero_le hx0
          have hO2 := hO1.grown hg2 (fun k hk => by cases hk; omega)
          have hG2 := grownBy_trans hG1 hg2 (fun x hx => .inl hx)
          have hlt2 := hr2.lt
          have hsz2 := hG2.size
          clear hO1 hr1 hG1 hg2 hx1 hy
          have hr2' : ∀ o, Rdr (w2.alloc o) rb (p' + 1 + 1) := fun o => hr2.grown (World.grownBy_alloc w2 o none) (fun k hk => by cases hk)
          have hv4 := Rd.made w2 ([-1, 0, 9999, 10000].map (Value.int .i64)) 3 (rb + 1) 1 4 rfl (by omega) (by decide)
          go_wp2_with fail
          go_at_call 38
          refine (one_any _ _ _ _ [-1, 0, 9999, 10000] (hr2' _) (by omega) hv4 (by simp) (by simp)).mono ?_; rintro e w4 ⟨z, rfl, _, hr4, hg4⟩
          have hO4 := (hO2.alloc (.cells #[.int .i64 (-1), .int .i64 0, .int .i64 9999, .int .i64 10000] 3)).grown hg4 (fun k hk => by cases hk; omega)
          have hG4 := grownBy_trans (grownBy_trans hG2 (World.grownBy_alloc w2 _ _) (fun x hx => .inl hx)) hg4 (fun x hx => .inl hx)
          have hlt4 := hr4.lt
          clear hO2 hr2 hr2' hG2 hg4 hv4
          have hr4' : ∀ o, Rdr (w4.alloc o) rb (p' + 1 + 1 + 1) := fun o => hr4.grown (World.grownBy_alloc w4 o none) (fun k hk => by cases hk)
          have hv5 := Rd.made w4 ([-1, 7, 8, 0].map (Value.int .i64)) 3 (rb + 1) 1 4 rfl (by omega) (by decide)
          go_wp2_with fail
          go_at_call 38
          refine (one_any _ _ _ _ [-1, 7, 8, 0] (hr4' _) (by omega) hv5 (by simp) (by simp)).mono ?_; rintro e w5 ⟨z5, rfl, _, hr5, hg5⟩
          have hO5 := (hO4.alloc (.cells #[.int .i64 (-1), .int .i64 7, .int .i64 8, .int .i64 0] 3)).grown hg5 (fun k hk => by cases hk; omega)
          have hG5 := grownBy_trans (grownBy_trans hG4 (World.grownBy_alloc w4 _ _) (fun x hx => .inl hx)) hg5 (fun x hx => .inl hx)
          clear hO4 hr4 hr4' hG4 hg5 hv5
          have hlen := hO5.len
          obtain ⟨g, rfl, hg1, hg2, hcell, hfr, _⟩ := hO5.parts hn
          have hj : j < es.length := by omega
          have hd1 := hcell (j * 3) (by omega)
          have hd2 := hcell (j * 3 + 1) (by omega)
          have hd3 := hcell (j * 3 + 2) (by omega)
          have hf1 := hfr (j * 3)
          have hf2 := hfr (j * 3 + 1)
          have hf3 := hfr (j * 3 + 2)
          clear hcell hfr
          obtain ⟨hS1, gS1⟩ := hO5.store hn (j * 3) (.int .i64 z)
          obtain ⟨hS2, gS2⟩ := hS1.store hn (j * 3 + 1) (.int .i64 z5)
          obtain ⟨hS3, gS3⟩ := hS2.store hn (j * 3 + 2) (.bool false)
          have gS := grownBy_trans (grownBy_trans gS1 gS2 (fun x hx => .inl hx)) gS3 (fun x hx => .inl hx)
          have hr6 := hr5.grown gS (fun k hk => by cases hk; omega)
          have hG6 := grownBy_trans hG5 gS (fun k hk => by cases hk; exact .inr hg1)
          have hs := set_flat ⟨z, z5, false⟩ es j
          simp only at hs
          rw [hs] at hS3
          have hl : (es.set j ⟨z, z5, false⟩).length = es.length := by simp
          have HF : Hid (Ents _ w.heap.size _ (es.set j ⟨z, z5, false⟩) ∧ (es.set j ⟨z, z5, false⟩).length ≤ 31 ∧ p' + 1 + 1 + 1 + 1 ≤ p + 1000 ∧ Rdr _ rb (p' + 1 + 1 + 1 + 1) ∧ w.grownBy _ (some rb)) :=
            ⟨by unfold Ents; rw [hl]; exact hS3.rd, by omega, by omega, hr6, hG6⟩
          clear hS1 hS2 hS3 gS1 gS2 gS3 gS hs hr6 hG6 hO5 hr5 hG5
          go_wp2
          go_ret
          exact ⟨_, _, _, rfl, HF.out⟩
        · have hy' : (y == 0) = false := by simp [hy]
          have HF : Hid (Ents _ w.heap.size _ es ∧ es.length ≤ 31 ∧ p' + 1 ≤ p + 1000 ∧ Rdr _ rb (p' + 1) ∧ w.grownBy _ (some rb)) := ⟨hO1.rd, by omega, by omega, hr1, hG1⟩
          clear hO1 hr1 hG1
          go_wp2
          go_ret
          exact ⟨_, _, _, rfl, HF.out⟩
      · have HF : Hid (Ents _ w.heap.size _ es ∧ es.length ≤ 31 ∧ p' ≤ p + 1000 ∧ Rdr _ rb p' ∧ w.grownBy _ (some rb)) := ⟨hO.rd, by omega, by omega, hr, hG⟩
        clear hO hr hG
        go_wp2
        go_ret
        exact ⟨_, _, _, rfl, HF.out⟩

def DrawLog (w : World) (e : Ending) (w' : World) : Prop :=
  ∃ v, ∃ es : List Ent, e = .returned v ∧ Ents w' 0 v es ∧ es.length ≤ 31 ∧ Below w.heap.size w w'

theorem drawValidLog (w : World) (v : Value) (bs : List UInt8) (hv : Bytes w 0 v bs) : Calls Try.prog 17 #[v] w (DrawLog w) := by
  go_enter Try.func17, Try.ntmps17
  go_wp2_with fail
  go_at_call 35
  refine (newReader_any w v bs hv).mono ?_; rintro e w1 ⟨rfl, hr, hB1⟩
  go_wp2_with fail
  go_at_call 34
  refine (anyLog_any _ _ 0 hr (by omega)).mono ?_; rintro e w2 ⟨v2, es, p2, rfl, hI, hl, hp2, hr2, hg2⟩
  have HF : Hid (Ents w2 0 v2 es ∧ es.length ≤ 31 ∧ Below w.heap.size w w2) := ⟨hI.mono (Nat.zero_le _), hl, hB1.trans (below_of_grownBy hg2 (B := w.heap.size) hB1.size (fun k hk => by cases hk; omega))⟩
  clear hI hl hp2 hr2 hg2 hB1
  go_wp2
  go_ret
  exact ⟨_, es, rfl, HF.out⟩

theorem drawStopsOf (w : World) (v : Value) (bs : List UInt8) (hv : Bytes w 0 v bs) : Calls Try.prog 27 #[v] w (DrawLog w) := by
  go_enter Try.func27, Try.ntmps27
  go_wp2_with fail
  go_at_call 35
  refine (newReader_any w v bs hv).mono ?_; rintro e w1 ⟨rfl, hr, hB1⟩
  go_wp2_with fail
  go_at_call 34
  refine (anyLog_any _ _ 0 hr (by omega)).mono ?_; rintro e w2 ⟨v2, es, p2, rfl, hI, hl, hp2, hr2, hg2⟩
  have HF : Hid (Ents w2 0 v2 es ∧ es.length ≤ 31 ∧ Below w.heap.size w w2) := ⟨hI.mono (Nat.zero_le _), hl, hB1.trans (below_of_grownBy hg2 (B := w.heap.size) hB1.size (fun k hk => by cases hk; omega))⟩
  clear hI hl hp2 hr2 hg2 hB1
  go_wp2
  go_ret
  exact ⟨_, es, rfl, HF.out⟩

def DrawLogAnd (w : World) (e : Ending) (w' : World) : Prop :=
  ∃ v, ∃ es : List Ent, ∃ U T : Int, e = .returned (.tuple #[v, .int .i64 U, .int .i64 T]) ∧ Ents w' 0 v es ∧ es.length ≤ 31 ∧ (-1 ≤ U ∧ U ≤ 8) ∧ (0 ≤ T ∧ T ≤ 10000) ∧ Below w.heap.size w w'

theorem drawStoppedTime (w : World) (v : Value) (bs : List UInt8) (hv : Bytes w 0 v bs) : Calls Try.prog 30 #[v] w (DrawLogAnd w) := by
  go_enter Try.func30, Try.ntmps30
  go_wp2_with fail
  go_at_call 35
  refine (newReader_any w v bs hv).mono ?_; rintro e w1 ⟨rfl, hr, hB1⟩
  go_wp2_with fail
  go_at_call 34
  refine (anyLog_any _ _ 0 hr (by omega)).mono ?_; rintro e w2 ⟨v2, es, p2, rfl, hI, hl, hp2, hr2, hg2⟩
  have hB2 := hB1.trans (below_of_grownBy hg2 (B := w.heap.size) hB1.size (fun k hk => by cases hk; omega))
  have hlt2 := hr2.lt
  have hlt1 := hr.lt
  have hr2' : ∀ o, Rdr (w2.alloc o) w.heap.size p2 := fun o => hr2.grown (World.grownBy_alloc w2 o none) (fun k hk => by cases hk)
  have hv4 := Rd.made w2 ([0, 1, 2, 7, 8, -1].map (Value.int .i64)) 3 (w.heap.size + 1) 1 6 rfl (by omega) (by decide)
  go_wp2_with fail
  go_at_call 38
  refine (one_any _ _ _ _ [0, 1, 2, 7, 8, -1] (hr2' _) (by omega) hv4 (by simp) (by simp)).mono ?_; rintro e w4 ⟨z, rfl, hz, hr4, hg4⟩
  have hI4 : Ents w4 (w.heap.size + 1) v2 es := by
    refine Rd.grown (lo := w.heap.size + 1) (row := some w.heap.size) (w := w2.alloc (.cells #[.int .i64 0, .int .i64 1, .int .i64 2, .int .i64 7, .int .i64 8, .int .i64 (-1)] 3)) ?_ hg4 (fun k hk => by cases hk; omega) (by decide)
    exact (Rd.grown (row := none) hI (World.grownBy_alloc w2 _ none) (fun k hk => by cases hk) (by decide)).mono (by omega)
  have hB4 : Below w.heap.size w w4 := (hB2.trans ((Below.refl _ _).alloc (by omega) _)).trans (below_of_grownBy hg4 (by simp; omega) (fun k hk => by cases hk; omega))
  have hz' := hz.out
  simp at hz'
  have hz2 : -1 ≤ z ∧ z ≤ 8 := by omega
  have hlt4 := hr4.lt
  have hsz4 := hB4.size
  clear hI hr2 hg2 hB1 hB2 hz hz' hg4 hv4 hr2'
  have hr4' : ∀ o, Rdr (w4.alloc o) w.heap.size (p2 + 1) := fun o => hr4.grown (World.grownBy_alloc w4 o none) (fun k hk => by cases hk)
  have hv5 := Rd.made w4 ([30, 60, 10, 0, 200, 9999, 10000].map (Value.int .i64)) 3 (w.heap.size + 1) 1 7 rfl (by omega) (by decide)
  go_wp2_with fail
  go_at_call 38
  refine (one_any _ _ _ _ [30, 60, 10, 0, 200, 9999, 10000] (hr4' _) (by omega) hv5 (by simp) (by simp)).mono ?_; rintro e w5 ⟨y, rfl, hy, hr5, hg5⟩
  have hI5 : Ents w5 0 v2 es := by
    refine Rd.mono (Rd.grown (lo := w.heap.size + 1) (row := some w.heap.size) (w := w4.alloc (.cells #[.int .i64 30, .int .i64 60, .int .i64 10, .int .i64 0, .int .i64 200, .int .i64 9999, .int .i64 10000] 3)) ?_ hg5 (fun k hk => by cases hk; omega) (by decide)) (Nat.zero_le _)
    exact Rd.grown (row := none) hI4 (World.grownBy_alloc w4 _ none) (fun k hk => by cases hk) (by decide)
  have hB5 : Below w.heap.size w w5 := (hB4.trans ((Below.refl _ _).alloc (by omega) _)).trans (below_of_grownBy hg5 (by simp; omega) (fun k hk => by cases hk; omega))
  have hy' := hy.out
  simp at hy'
  have HF : Hid (Ents w5 0 v2 es ∧ es.length ≤ 31 ∧ (-1 ≤ z ∧ z ≤ 8) ∧ (0 ≤ y ∧ y ≤ 10000) ∧ Below w.heap.size w w5) := ⟨hI5, hl, hz2, by omega, hB5⟩
  clear hI4 hI5 hB4 hB5 hr4 hr4' hr5 hg5 hy hy' hv5
  go_wp2
  refine bodyPost_ret (v := .tuple #[v2, .int .i64 z, .int .i64 y]) (by simp [results, Try.results30, go_sem]) rfl ?_
  exact ⟨_, es, _, _, rfl, HF.out⟩
end Go.Proofs.Ytfdnkfhldgcnmaa
