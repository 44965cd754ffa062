/- The reader of pseudo-random numbers once more, with a bound below which its bytes lie, so that other blocks below the reader may be written. -/
import Derived.Test.YtpaioaknppgggaaGreatDoorRdr
namespace Go.Proofs.YtpaioaknppgggaaGreatDoor
open Go.RowKit
set_option linter.unusedVariables false
set_option linter.unusedSimpArgs false

/-- A reader in block rb at position p; its bytes lie below hi. -/
def RdB (w : World) (hi rb p : Nat) : Prop :=
  ∃ v bs, w.heap[rb]? = some (.cells #[v, .int .i64 p] 62 (0, 0)) ∧ Bytes w 0 v bs ∧ bs.length ≤ 2000 ∧ (bs ≠ [] → ∀ k, v.ownBlock = some k → k < hi) ∧ hi ≤ rb

theorem RdB.rdr {w : World} {hi rb p : Nat} (h : RdB w hi rb p) : Rdr w rb p := by
  obtain ⟨v, bs, h1, h2, h3, h4, h5⟩ := h
  exact ⟨v, bs, h1, h2, h3, fun hb k hk => Nat.lt_of_lt_of_le (h4 hb k hk) h5⟩
theorem RdB.lt {w : World} {hi rb p : Nat} (h : RdB w hi rb p) : hi ≤ rb ∧ rb < w.heap.size := by
  have := h.rdr.lt
  obtain ⟨v, bs, h1, h2, h3, h4, h5⟩ := h
  exact ⟨h5, this⟩

theorem RdB.grown {w w' : World} {hi rb p : Nat} {row : Option Nat} (h : RdB w hi rb p) (hg : w.grownBy w' row) (hr : ∀ k, row = some k → hi ≤ k ∧ k ≠ rb) : RdB w' hi rb p := by
  obtain ⟨v, bs, h1, h2, h3, h4, h5⟩ := h
  refine ⟨v, bs, ?_, ?_, h3, h4, h5⟩
  · rw [hg.block rb (Array.getElem?_eq_some_iff.1 h1).1 (fun e => (hr rb e.symm).2 rfl)]; exact h1
  · by_cases hb : bs = []
    · subst hb
      obtain ⟨a, ao, cap, b, c, d, e, f⟩ := h2
      exact ⟨a, ao, cap, b, c, d, e, fun h => absurd h (by simp)⟩
    · refine h2.grown hg (fun k hk => ?_) (by omega)
      right; intro he
      have := h4 hb k he; have := (hr k hk).1; omega
theorem RdB.alloc {w : World} {hi rb p : Nat} (h : RdB w hi rb p) (o : Obj) : RdB (w.alloc o) hi rb p := h.grown (World.grownBy_alloc w o none) (fun _ e => by cases e)

theorem RdB.step {w : World} {hi rb p : Nat} (h : RdB w hi rb p) (n : Nat) :
    RdB ((w.setCell ⟨rb, 1, none⟩ (.int .i64 ((p : Int) + 1))).drewN n) hi rb (p + 1) ∧ w.grownBy ((w.setCell ⟨rb, 1, none⟩ (.int .i64 ((p : Int) + 1))).drewN n) (some rb) := by
  have hg := (h.rdr.step n).2
  obtain ⟨v, bs, h1, h2, h3, h4, h5⟩ := h
  have hother : ∀ k, k ≠ rb → ((w.setCell ⟨rb, 1, none⟩ (.int .i64 ((p : Int) + 1))).drewN n).heap[k]? = w.heap[k]? := fun k hk => by
    show (w.setCell ⟨rb, 1, none⟩ (.int .i64 ((p : Int) + 1))).heap[k]? = _
    exact Below.heap_setCell _ _ _ _ hk
  refine ⟨⟨v, bs, ?_, ?_, h3, h4, h5⟩, hg⟩
  · show (w.setCell ⟨rb, 1, none⟩ (.int .i64 ((p : Int) + 1))).heap[rb]? = _
    simp [World.setCell, Array.getElem?_modify, h1]
  · obtain ⟨a, ao, cap, b, c, d, e, f⟩ := h2
    refine ⟨a, ao, cap, b, c, d, e, fun hn => ?_⟩
    obtain ⟨bb, off, rfl, hbb, hc⟩ := f hn
    have hlt : bb < hi := h4 (by intro h; subst h; simp at hn) bb (by subst b; rfl)
    refine ⟨bb, off, rfl, hbb, fun i hi' => ?_⟩
    rw [← hc i hi']
    exact World.cell?_of_block (hother bb (by omega))

theorem newReader_B (w : World) (hi : Nat) (v : Value) (bs : List UInt8) (hv : Bytes w 0 v bs) (hvb : bs ≠ [] → ∀ k, v.ownBlock = some k → k < hi) (hhi : hi ≤ w.heap.size) :
    Calls Tryz.prog 15 #[v] w fun e w' => e = .returned (.pointer (some ⟨w.heap.size, 0, none⟩)) ∧ RdB w' hi w.heap.size 0 ∧ Below w.heap.size w w' := by
  obtain ⟨hl, ao, cap, rfl, hcap, hm, hn0, hc⟩ := hv
  unfold maxLen at hm
  have hb : Below w.heap.size w (w.alloc (.cells #[.slice ao bs.length cap, .int .i64 0] 62)) := (Below.refl _ _).alloc (Nat.le_refl _) _
  by_cases hlen : bs.length ≤ 2000
  · go_enter Tryz.func15, Tryz.ntmps15
    go_wp2
    go_ret
    refine ⟨rfl, ⟨.slice ao bs.length cap, bs, heap_alloc_new _ _, ?_, hlen, hvb, hhi⟩, (Below.refl _ _).alloc (Nat.le_refl _) _⟩
    · refine Rd.below (B := w.heap.size) ⟨hl, ao, cap, rfl, hcap, by unfold maxLen; exact hm, hn0, hc⟩ ((Below.refl _ _).alloc (Nat.le_refl _) _) (Nat.le_refl _) (by omega)
  · obtain ⟨b, off, rfl, hb0, hcell⟩ : ∃ b off, ao = some ⟨b, off, none⟩ ∧ 0 ≤ b ∧ ∀ i (h : i < (bs.map fun b => Value.int .u8 b.toNat).length), w.cell? ⟨b, off + i, none⟩ = some ((bs.map fun b => Value.int .u8 b.toNat)[i]) := hc (by omega)
    clear hc hb
    go_enter Tryz.func15, Tryz.ntmps15
    go_wp2
    go_ret
    refine ⟨rfl, ⟨.slice (some ⟨b, off, none⟩) 2000 cap, bs.take 2000, heap_alloc_new _ _, ?_, ?_, ?_, hhi⟩, (Below.refl _ _).alloc (Nat.le_refl _) _⟩
    · have ht : (bs.take 2000).length = 2000 := by simp; omega
      refine Rd.below (w := w) (B := w.heap.size) ?_ ((Below.refl _ _).alloc (Nat.le_refl _) _) (Nat.le_refl _) (by omega)
      refine ⟨by simp, some ⟨b, off, none⟩, cap, by rw [ht], by omega, by unfold maxLen; exact hm, fun e => (by cases e), fun _ => ⟨b, off, rfl, hb0, fun i hi => ?_⟩⟩
      simp at hi
      rw [hcell i (by simp; omega)]
      simp
    · simp; omega
    · intro hne k hk
      exact hvb (by intro h; subst h; simp at hlen) k hk

/-- pick, whatever the number. -/
theorem pick_B (w : World) (hi rb p : Nat) (n : Int) (hr : RdB w hi rb p) (hp : p ≤ 1000000000) (hn' : n ≤ 1000000000) :
    Calls Tryz.prog 18 #[.pointer (some ⟨rb, 0, none⟩), .int .i64 n] w fun e w' => ∃ x : Int, e = .returned (.int .i64 x) ∧ (0 ≤ x ∧ (1 ≤ n → x < n) ∧ x ≤ 1000000000) ∧ RdB w' hi rb (p + 1) ∧ w.grownBy w' (some rb) := by
  by_cases h : n < 1
  · refine (pick_le w rb p n hr.rdr hp h).mono ?_
    rintro e w' ⟨rfl, rfl⟩
    exact ⟨0, rfl, ⟨by omega, by omega, by omega⟩, (hr.step 0).1, (hr.step 0).2⟩
  · refine (pick_gt w rb p n hr.rdr hp (by omega) hn').mono ?_
    rintro e w' ⟨x, rfl, hx, k, rfl⟩
    exact ⟨x, rfl, ⟨by omega, by omega, by omega⟩, (hr.step k).1, (hr.step k).2⟩

/-- pick of a number that is at least 1: the bounds as hypotheses of the walk. -/
theorem pick_P (w : World) (hi rb p : Nat) (n : Int) (hr : RdB w hi rb p) (hp : p ≤ 1000000000) (hn : 1 ≤ n) (hn' : n ≤ 1000000000) :
    Calls Tryz.prog 18 #[.pointer (some ⟨rb, 0, none⟩), .int .i64 n] w fun e w' => ∃ x : Int, e = .returned (.int .i64 x) ∧ (0 ≤ x ∧ x < n) ∧ RdB w' hi rb (p + 1) ∧ w.grownBy w' (some rb) := by
  refine (pick_B w hi rb p n hr hp hn').mono ?_
  rintro e w' ⟨x, rfl, hx, h⟩
  exact ⟨x, rfl, ⟨hx.1, hx.2.1 hn⟩, h⟩

theorem one_B (w : World) (hi rb p : Nat) (v : Value) (xs : List Int) (hr : RdB w hi rb p) (hp : p ≤ 1000000000) (hv : Ints w 0 v xs) (hvr : v.ownBlock ≠ some rb) (hne : 0 < xs.length) (hne' : xs.length ≤ 1000) :
    Calls Tryz.prog 16 #[.pointer (some ⟨rb, 0, none⟩), v] w fun e w' => ∃ x : Int, e = .returned (.int .i64 x) ∧ Hid (x ∈ xs) ∧ RdB w' hi rb (p + 1) ∧ w.grownBy w' (some rb) := by
  obtain ⟨ao, cap, rfl, hcap, hm⟩ := hv.form
  have hc' := hv.cell
  obtain ⟨_, _, _, _, hc'⟩ := hc'
  have hc'' := hc' hne
  clear hc'
  obtain ⟨b, off, rfl, hb, hb2, hc⟩ := hc''
  clear hv
  go_enter Tryz.func16, Tryz.ntmps16
  go_wp2_with (go_at_call 18; refine (pick_B _ _ _ _ _ hr hp (by omega)).mono ?_; rintro e w' ⟨x, rfl, ⟨hx0, hx1, hx2⟩, hr', hg⟩; have hx3 := hx1 (by omega); clear hx1; have hcx : w'.cell? ⟨b, off + x.toNat, none⟩ = some (.int .i64 (xs.getD x.toNat 0)) := by (rw [← show w.cell? ⟨b, off + x.toNat, none⟩ = some (.int .i64 (xs.getD x.toNat 0)) by (rw [hc x.toNat (by simp; omega)]; simp [show x.toNat < xs.length by omega])]; exact World.cell?_of_block (hg.block b hb2 (fun e => hvr (by simp [Value.ownBlock]; exact Option.some.inj e)))))
  go_ret
  exact ⟨_, rfl, (List.getElem_mem _ : _ ∈ xs), hr', hg⟩


/-- one of a slice that was written out in the call: the block made just before. -/
theorem one_L (w : World) (hi rb p : Nat) (xs : List Int) (t : TypeId) (n : Nat) (hn : xs.length = n) (hr : RdB w hi rb p) (hp : p ≤ 1000000000) (hne : 0 < n) (hne' : n ≤ 1000) :
    Calls Tryz.prog 16 #[.pointer (some ⟨rb, 0, none⟩), .slice (some ⟨w.heap.size, 0, none⟩) n n] (w.alloc (.cells (xs.map (Value.int .i64)).toArray t))
      fun e w' => ∃ x : Int, e = .returned (.int .i64 x) ∧ Hid (x ∈ xs) ∧ RdB w' hi rb (p + 1) ∧ w.grownBy w' (some rb) := by
  have hlt := hr.lt
  subst hn
  refine (one_B _ hi rb p _ xs (hr.alloc _) hp (Rd.made w (xs.map (Value.int .i64)) t 0 1 xs.length (by simp) (by omega) (by unfold maxLen; omega)) (fun e => by simp [Value.ownBlock] at e; omega) hne hne').mono ?_
  rintro e w' ⟨x, rfl, hx, hr', hg⟩
  exact ⟨x, rfl, hx, hr', grownBy_trans (World.grownBy_alloc w _ _) hg (fun x h => .inl h)⟩

end Go.Proofs.YtpaioaknppgggaaGreatDoor
