/- The reader of pseudo-random numbers: newReader, pick, one, each proved once. -/
import Derived.Test.YtpaioaknppgggaaGreatDoorProg
import Derived.Test.YtpaioaknppgggaaGreatDoorKit
import Derived.Outline
import Derived.Deep.QuietTactic
import Derived.BigQuiet
namespace Go.Proofs.YtpaioaknppgggaaGreatDoor
open Go.RowKit

theorem xor_i64_nat (a b : Nat) (ha : a < 4611686018427387904) (hb : b < 4611686018427387904) :
    bits .xor .i64 (a : Int) (b : Int) = ((a ^^^ b : Nat) : Int) := by
  have hx : a ^^^ b < 2 ^ 62 := Nat.xor_lt_two_pow (by omega) (by omega)
  have h1 : (BitVec.ofInt 64 (a : Int)).toNat = a := by
    rw [BitVec.ofInt_natCast, BitVec.toNat_ofNat]; exact Nat.mod_eq_of_lt (by omega)
  have h2 : (BitVec.ofInt 64 (b : Int)).toNat = b := by
    rw [BitVec.ofInt_natCast, BitVec.toNat_ofNat]; exact Nat.mod_eq_of_lt (by omega)
  show IntKind.i64.wrap ((BitVec.ofInt 64 (a : Int) ^^^ BitVec.ofInt 64 (b : Int)).toNat : Int) = _
  rw [BitVec.toNat_xor, h1, h2, IntKind.wrap_i64]
  omega

theorem xor_mod (x : Int) (n : Int) (h0 : 0 ≤ x) (h1 : x < 4611686018427387904) (hn : 1 ≤ n) :
    0 ≤ (bits .xor .i64 x (x / 64)).tmod n ∧ (bits .xor .i64 x (x / 64)).tmod n < n := by
  obtain ⟨a, rfl⟩ := Int.eq_ofNat_of_zero_le h0
  have e : ((a : Int) / 64) = ((a / 64 : Nat) : Int) := by omega
  rw [e, xor_i64_nat a (a / 64) (by omega) (by omega)]
  have hp : (0 : Int) ≤ ((a ^^^ a / 64 : Nat) : Int) := by omega
  rw [Int.tmod_eq_emod_of_nonneg hp]
  exact ⟨Int.emod_nonneg _ (by omega), Int.emod_lt_of_pos _ (by omega)⟩

def Bytes (w : World) (lo : Nat) (v : Value) (xs : List UInt8) : Prop := Rd w lo v 1 xs.length (xs.map fun b => .int .u8 b.toNat)

/-- A reader in block rb at position p. -/
def Rdr (w : World) (rb p : Nat) : Prop :=
  ∃ v bs, w.heap[rb]? = some (.cells #[v, .int .i64 p] 62 (0, 0)) ∧ Bytes w 0 v bs ∧ bs.length ≤ 2000 ∧ (bs ≠ [] → ∀ k, v.ownBlock = some k → k < rb)

theorem Rdr.lt {w : World} {rb p : Nat} (h : Rdr w rb p) : rb < w.heap.size := by
  obtain ⟨v, bs, h1, _⟩ := h
  exact (Array.getElem?_eq_some_iff.1 h1).1

theorem Rdr.grown {w w' : World} {rb p : Nat} {row : Option Nat} (h : Rdr w rb p) (hg : w.grownBy w' row) (hr : ∀ k, row = some k → rb < k) : Rdr w' rb p := by
  obtain ⟨v, bs, h1, h2, h3, h4⟩ := h
  refine ⟨v, bs, ?_, ?_, h3, h4⟩
  · rw [hg.block rb (Array.getElem?_eq_some_iff.1 h1).1 (fun e => by have := hr rb e.symm; omega)]; exact h1
  · by_cases hb : bs = []
    · subst hb
      obtain ⟨a, ao, cap, b, c, d, e, f⟩ := h2
      exact ⟨a, ao, cap, b, c, d, e, fun h => absurd h (by simp)⟩
    · refine h2.grown hg (fun k hk => ?_) (by omega)
      right; intro he
      have := h4 hb k he; have := hr k hk; omega

theorem Rdr.below {w w' : World} {rb p B : Nat} (h : Rdr w rb p) (hb : Below B w w') (hB : rb < B) : Rdr w' rb p := by
  obtain ⟨v, bs, h1, h2, h3, h4⟩ := h
  refine ⟨v, bs, ?_, ?_, h3, h4⟩
  · rw [hb.block rb hB]; exact h1
  · obtain ⟨a, ao, cap, b, c, d, e, f⟩ := h2
    refine ⟨a, ao, cap, b, c, d, e, fun hn => ?_⟩
    obtain ⟨bb, off, rfl, hbb, hc⟩ := f hn
    have hlt : bb < rb := h4 (by intro h; subst h; simp at hn) bb (by subst b; rfl)
    refine ⟨bb, off, rfl, hbb, fun i hi => ?_⟩
    rw [← hc i hi]
    exact hb.cell (p := ⟨bb, off + i, none⟩) (by show bb < B; omega)

/-- The step of the position. -/
theorem Rdr.step {w : World} {rb p : Nat} (h : Rdr w rb p) (n : Nat) :
    Rdr ((w.setCell ⟨rb, 1, none⟩ (.int .i64 ((p : Int) + 1))).drewN n) rb (p + 1) ∧ w.grownBy ((w.setCell ⟨rb, 1, none⟩ (.int .i64 ((p : Int) + 1))).drewN n) (some rb) := by
  obtain ⟨v, bs, h1, h2, h3, h4⟩ := h
  have hother : ∀ k, k ≠ rb → ((w.setCell ⟨rb, 1, none⟩ (.int .i64 ((p : Int) + 1))).drewN n).heap[k]? = w.heap[k]? := fun k hk => by
    show (w.setCell ⟨rb, 1, none⟩ (.int .i64 ((p : Int) + 1))).heap[k]? = _
    exact Below.heap_setCell _ _ _ _ hk
  have hs : ((w.setCell ⟨rb, 1, none⟩ (.int .i64 ((p : Int) + 1))).drewN n).heap.size = w.heap.size := by simp [World.setCell, World.drewN]
  refine ⟨⟨v, bs, ?_, ?_, h3, h4⟩, ⟨rfl, rfl, rfl, by omega, fun k _ hk => hother k (fun e => hk (by rw [e]))⟩⟩
  · show (w.setCell ⟨rb, 1, none⟩ (.int .i64 ((p : Int) + 1))).heap[rb]? = _
    simp [World.setCell, Array.getElem?_modify, h1]
  · obtain ⟨a, ao, cap, b, c, d, e, f⟩ := h2
    refine ⟨a, ao, cap, b, c, d, e, fun hn => ?_⟩
    obtain ⟨bb, off, rfl, hbb, hc⟩ := f hn
    have hlt : bb < rb := h4 (by intro h; subst h; simp at hn) bb (by subst b; rfl)
    refine ⟨bb, off, rfl, hbb, fun i hi => ?_⟩
    rw [← hc i hi]
    exact World.cell?_of_block (hother bb (by omega))

theorem newReader_any (w : World) (v : Value) (bs : List UInt8) (hv : Bytes w 0 v bs) :
    Calls Tryz.prog 15 #[v] w fun e w' => e = .returned (.pointer (some ⟨w.heap.size, 0, none⟩)) ∧ Rdr w' w.heap.size 0 ∧ Below w.heap.size w w' := by
  obtain ⟨hl, ao, cap, rfl, hcap, hm, hn0, hc⟩ := hv
  unfold maxLen at hm
  have hb : Below w.heap.size w (w.alloc (.cells #[.slice ao bs.length cap, .int .i64 0] 62)) := (Below.refl _ _).alloc (Nat.le_refl _) _
  by_cases hlen : bs.length ≤ 2000
  · go_enter Tryz.func15, Tryz.ntmps15
    go_wp2
    go_ret
    refine ⟨rfl, ⟨.slice ao bs.length cap, bs, heap_alloc_new _ _, ?_, hlen, ?_⟩, (Below.refl _ _).alloc (Nat.le_refl _) _⟩
    · refine Rd.below (B := w.heap.size) ⟨hl, ao, cap, rfl, hcap, by unfold maxLen; exact hm, hn0, hc⟩ ((Below.refl _ _).alloc (Nat.le_refl _) _) (Nat.le_refl _) (by omega)
    · intro hne k hk
      obtain ⟨b, off, rfl, _, hcell⟩ := hc (by cases bs <;> simp_all)
      cases hk
      exact World.block_lt_of_cell? w ⟨b, off + 0, none⟩ (hcell 0 (by cases bs <;> simp_all))
  · obtain ⟨b, off, rfl, hb0, hcell⟩ : ∃ b off, ao = some ⟨b, off, none⟩ ∧ 0 ≤ b ∧ ∀ i (h : i < (bs.map fun b => Value.int .u8 b.toNat).length), w.cell? ⟨b, off + i, none⟩ = some ((bs.map fun b => Value.int .u8 b.toNat)[i]) := hc (by omega)
    clear hc hb
    go_enter Tryz.func15, Tryz.ntmps15
    go_wp2
    go_ret
    refine ⟨rfl, ⟨.slice (some ⟨b, off, none⟩) 2000 cap, bs.take 2000, heap_alloc_new _ _, ?_, ?_, ?_⟩, (Below.refl _ _).alloc (Nat.le_refl _) _⟩
    · have ht : (bs.take 2000).length = 2000 := by simp; omega
      refine Rd.below (w := w) (B := w.heap.size) ?_ ((Below.refl _ _).alloc (Nat.le_refl _) _) (Nat.le_refl _) (by omega)
      refine ⟨by simp, some ⟨b, off, none⟩, cap, by rw [ht], by omega, by unfold maxLen; exact hm, fun e => (by cases e), fun _ => ⟨b, off, rfl, hb0, fun i hi => ?_⟩⟩
      simp at hi
      rw [hcell i (by simp; omega)]
      simp
    · simp; omega
    · intro hne k hk
      cases hk
      exact World.block_lt_of_cell? w ⟨b, off + 0, none⟩ (hcell 0 (by simp; omega))

theorem pick_le (w : World) (rb p : Nat) (n : Int) (hr : Rdr w rb p) (hp : p ≤ 1000000000) (hn : n < 1) :
    Calls Tryz.prog 18 #[.pointer (some ⟨rb, 0, none⟩), .int .i64 n] w fun e w' => e = .returned (.int .i64 0) ∧ w' = w.setCell ⟨rb, 1, none⟩ (.int .i64 (p + 1)) := by
  obtain ⟨v, bs, h1, h2, h3, h4⟩ := hr
  have c0 : w.cell? ⟨rb, 0, none⟩ = some v := by simp [World.cell?, h1]
  have c1 : w.cell? ⟨rb, 1, none⟩ = some (.int .i64 p) := by simp [World.cell?, h1]
  have f1 : w.frozen? ⟨rb, 1, none⟩ = false := by simp [World.frozen?, h1]
  clear h1
  obtain ⟨_, ao, cap, rfl, _⟩ := h2
  go_enter Tryz.func18, Tryz.ntmps18
  go_wp2
  go_ret
  exact ⟨rfl, rfl⟩

theorem pick_gt (w : World) (rb p : Nat) (n : Int) (hr : Rdr w rb p) (hp : p ≤ 1000000000) (hn : 1 ≤ n) (hn' : n ≤ 1000000000) :
    Calls Tryz.prog 18 #[.pointer (some ⟨rb, 0, none⟩), .int .i64 n] w fun e w' => ∃ x : Int, e = .returned (.int .i64 x) ∧ (0 ≤ x ∧ x < n) ∧ ∃ k, w' = (w.setCell ⟨rb, 1, none⟩ (.int .i64 (p + 1))).drewN k := by
  obtain ⟨v, bs, h1, h2, h3, h4⟩ := hr
  have c0 : w.cell? ⟨rb, 0, none⟩ = some v := by simp [World.cell?, h1]
  have c1 : w.cell? ⟨rb, 1, none⟩ = some (.int .i64 p) := by simp [World.cell?, h1]
  have f1 : w.frozen? ⟨rb, 1, none⟩ = false := by simp [World.frozen?, h1]
  clear h1
  obtain ⟨hl, ao, cap, rfl, hcap, hm, hn0, hc⟩ := h2
  have hn1 : ¬ n < 1 := by omega
  by_cases hz : bs.length = 0
  · have hz0 : ((bs.length : Int) == 0) = true := by simp [hz]
    go_enter Tryz.func18, Tryz.ntmps18
    go_wp2
    go_ret
    exact ⟨0, rfl, by omega, 0, rfl⟩
  · have hc' := hc (by omega)
    clear hc
    obtain ⟨b, off, rfl, hb, hc⟩ := hc'
    have hne : b ≠ rb := by
      exact Nat.ne_of_lt (h4 (by intro h; subst h; simp at hz) b rfl)
    have hz0 : ((bs.length : Int) == 0) = false := beq_eq_false_iff_ne.mpr (by omega)
    have hcell : ∀ i, i < bs.length → w.cell? ⟨b, off + i, none⟩ = some (.int .u8 (bs.getD i 0).toNat) := by
      intro i hi
      have := hc i (by simpa using hi)
      rw [this]; simp [hi]
    by_cases hlt : p < bs.length
    · have hx := hcell p hlt
      obtain ⟨x, hx0⟩ : ∃ x : UInt8, x = bs.getD p 0 := ⟨_, rfl⟩
      rw [← hx0] at hx; clear hx0 hc hcell h4
      have hx2 : x.toNat < 256 := x.toNat_lt
      go_enter Tryz.func18, Tryz.ntmps18
      go_wp2
      go_ret
      exact ⟨_, rfl, ⟨Int.emod_nonneg _ (by omega), Int.emod_lt_of_pos _ (by omega)⟩, 0, rfl⟩
    · have hcy := hcell (p % bs.length) (Nat.mod_lt _ (by omega))
      have hcz := hcell ((p * 7 + 3) % bs.length) (Nat.mod_lt _ (by omega))
      have m1 : 0 ≤ (p : Int) % (bs.length : Int) := Int.emod_nonneg _ (by omega)
      have m2 : (p : Int) % (bs.length : Int) < (bs.length : Int) := Int.emod_lt_of_pos _ (by omega)
      have m3 : 0 ≤ ((p : Int) * 7 + 3) % (bs.length : Int) := Int.emod_nonneg _ (by omega)
      have m4 : ((p : Int) * 7 + 3) % (bs.length : Int) < (bs.length : Int) := Int.emod_lt_of_pos _ (by omega)
      have e1 : ((p : Int) % (bs.length : Int)).toNat = p % bs.length := by omega
      have e2 : (((p : Int) * 7 + 3) % (bs.length : Int)).toNat = (p * 7 + 3) % bs.length := by rw [show ((p : Int) * 7 + 3) = ((p * 7 + 3 : Nat) : Int) by omega, ← Int.natCast_emod, Int.toNat_natCast]
      obtain ⟨x1, hx1⟩ : ∃ x : UInt8, x = bs.getD (p % bs.length) 0 := ⟨_, rfl⟩
      obtain ⟨x2, hx2⟩ : ∃ x : UInt8, x = bs.getD ((p * 7 + 3) % bs.length) 0 := ⟨_, rfl⟩
      rw [← hx1] at hcy
      rw [← hx2] at hcz
      have b1 : x1.toNat < 256 := x1.toNat_lt
      have b2 : x2.toNat < 256 := x2.toNat_lt
      have d1 : 0 ≤ (p : Int) / (bs.length : Int) := Int.ediv_nonneg (by omega) (by omega)
      have d2 : (p : Int) / (bs.length : Int) ≤ p := Int.ediv_le_self _ (by omega)
      clear hc hcell h4 hx1 hx2
      go_enter Tryz.func18, Tryz.ntmps18
      go_wp2
      go_quiet (fail)
      go_wp2
      go_ret
      exact ⟨_, rfl, xor_mod _ n (by omega) (by omega) hn, _, rfl⟩

/-- pick, whatever the number. -/
theorem pick_any (w : World) (rb p : Nat) (n : Int) (hr : Rdr w rb p) (hp : p ≤ 1000000000) (hn' : n ≤ 1000000000) :
    Calls Tryz.prog 18 #[.pointer (some ⟨rb, 0, none⟩), .int .i64 n] w fun e w' => ∃ x : Int, e = .returned (.int .i64 x) ∧ (0 ≤ x ∧ (1 ≤ n → x < n) ∧ x ≤ 1000000000) ∧ Rdr w' rb (p + 1) ∧ w.grownBy w' (some rb) := by
  by_cases h : n < 1
  · refine (pick_le w rb p n hr hp h).mono ?_
    rintro e w' ⟨rfl, rfl⟩
    exact ⟨0, rfl, ⟨by omega, by omega, by omega⟩, (hr.step 0).1, (hr.step 0).2⟩
  · refine (pick_gt w rb p n hr hp (by omega) hn').mono ?_
    rintro e w' ⟨x, rfl, hx, k, rfl⟩
    exact ⟨x, rfl, ⟨by omega, by omega, by omega⟩, (hr.step k).1, (hr.step k).2⟩

theorem info_int : (Tryz.prog.info? 3).map (fun i => (i.zero, i.size, i.bytes)) = some (some (.int .i64 0), 1, 8) := by kernel_rfl

theorem one_any (w : World) (rb p : Nat) (v : Value) (xs : List Int) (hr : Rdr w rb p) (hp : p ≤ 1000000000) (hv : Ints w (rb + 1) v xs) (hne : 0 < xs.length) (hne' : xs.length ≤ 1000) :
    Calls Tryz.prog 16 #[.pointer (some ⟨rb, 0, none⟩), v] w fun e w' => ∃ x : Int, e = .returned (.int .i64 x) ∧ Hid (x ∈ xs) ∧ Rdr w' rb (p + 1) ∧ w.grownBy w' (some rb) := by
  obtain ⟨ao, cap, rfl, hcap, hm⟩ := hv.form
  have hc' := hv.cell
  obtain ⟨_, _, _, _, hc'⟩ := hc'
  have hc'' := hc' hne
  clear hc'
  obtain ⟨b, off, rfl, hb, hb2, hc⟩ := hc''
  clear hv
  go_enter Tryz.func16, Tryz.ntmps16
  go_wp2_with (go_at_call 18; refine (pick_any _ _ _ _ hr hp (by omega)).mono ?_; rintro e w' ⟨x, rfl, ⟨hx0, hx1, hx2⟩, hr', hg⟩; have hx3 := hx1 (by omega); clear hx1; have hcx : w'.cell? ⟨b, off + x.toNat, none⟩ = some (.int .i64 (xs.getD x.toNat 0)) := by (rw [← show w.cell? ⟨b, off + x.toNat, none⟩ = some (.int .i64 (xs.getD x.toNat 0)) by (rw [hc x.toNat (by simp; omega)]; simp [show x.toNat < xs.length by omega])]; exact World.cell?_of_block (hg.block b hb2 (by simp; omega))))
  go_ret
  exact ⟨_, rfl, (List.getElem_mem _ : _ ∈ xs), hr', hg⟩

end Go.Proofs.YtpaioaknppgggaaGreatDoor
