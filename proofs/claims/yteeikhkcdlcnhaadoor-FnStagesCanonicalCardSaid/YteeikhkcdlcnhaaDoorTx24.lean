/- The draw of a plan. -/
import Derived.Test.YteeikhkcdlcnhaaDoorTx23
import Derived.BigQuiet
import Derived.Deep.QuietTactic
import Derived.Deep.RegionHeld3
import Derived.IntWalk
import Derived.Laws.OwnMore
import Derived.Outline
import Derived.ProofKit
import Derived.StillTailTactics
namespace Go.Proofs.YteeikhkcdlcnhaaDoor
open Go.RowKit
set_option linter.unusedVariables false
set_option linter.unusedSimpArgs false

theorem inRange_dec (a b c : Int) (v : Bool) (w : World) (h : (decide (b ≤ a) && decide (a ≤ c)) = v) :
    Calls Tryd.prog 44 #[.int .i64 a, .int .i64 b, .int .i64 c] w fun e w' => e = .returned (.bool v) ∧ w = w' := by
  rw [← h]; exact inRange_any a b c w
theorem allIn_dec (w : World) (lo : Nat) (v : Value) (xs : List Int) (a b : Int) (r : Bool) (hv : Ints w lo v xs) (h : allB xs a b = r) :
    Calls Tryd.prog 60 #[v, .int .i64 a, .int .i64 b] w fun e w' => e = .returned (.bool r) ∧ w = w' := by
  rw [← h]; exact allIn_any w lo v xs a b hv
theorem IntSS.rowlen {w : World} {lo : Nat} {ai : Option Addr} {n ci : Nat} {row : List Int} (h : Ints w lo (.slice ai n ci) row) : row.length = n ∧ n ≤ ci ∧ ci ≤ 9223372036854775807 := by
  obtain ⟨_, _, e, h2, h3⟩ := h.form
  simp only [Value.slice.injEq] at e
  omega

def lowOk (t : List (List Int)) (i : Nat) : Prop := rowOk t.length (t.getD i []) = true ∧ tat t i i = 0 ∧ ∀ k, k < i → (0 < tat t i k ↔ 0 < tat t k i)
theorem lowOk_of {t : List (List Int)} (h : validCl t = true) {i : Nat} (hi : i < t.length) : lowOk t i := by
  obtain ⟨_, _, h1, h2⟩ := validCl_iff.1 h
  exact ⟨h1 i hi, (symOk_iff.1 (h2 i hi i hi)).2 rfl, fun k hk => (symOk_iff.1 (h2 i hi k (by omega))).1⟩
theorem lowOk_no {t : List (List Int)} {i : Nat} (hi : i < t.length) (h : ¬ lowOk t i) : validCl t = false := by
  rw [Bool.eq_false_iff]; intro h'; exact h (lowOk_of h' hi)

set_option maxHeartbeats 4000000 in
theorem spec_validClearance (w : World) (lo : Nat) (v : Value) (t : List (List Int)) (hv : IntSS w lo v t) :
    Calls Tryd.prog 68 #[v] w fun e w' => e = .returned (.bool (validCl t)) ∧ Below w.heap.size w w' := by
  obtain ⟨ao, cap, rfl, hcap, hm⟩ := hv.form
  by_cases hn : 1 ≤ t.length ∧ t.length ≤ 8
  · have dn : (decide (1 ≤ (t.length : Int)) && decide ((t.length : Int) ≤ 8)) = true := by simp; omega
    obtain ⟨hn1, hn2⟩ := hn
    obtain ⟨b, off, rfl, _, hb, hc⟩ := hv.spot (by omega)
    have HC := Lib.hid hc
    clear hc hv
    go_enter Tryd.func68, Tryd.ntmps68
    go_wp2_with (go_at_call 44; with_reducible refine (inRange_dec (t.length : Int) 1 8 true _ dn).mono ?_; rintro e' w2 ⟨rfl, rfl⟩)
    go_loopw [4] (fun i wo => ∃ k : Nat, k ≤ t.length ∧ i = .int .i64 k ∧ (∀ j, j < k → lowOk t j) ∧ Below w.heap.size w wo) (fun i _ => t.length - (intOf i).toNat)
    case atStart => exact ⟨0, Nat.zero_le _, rfl, fun j hj => by omega, Below.refl _ _⟩
    case round =>
      obtain ⟨k, hk, rfl, hall, hB⟩ := hrel
      have HA := Lib.hid hall
      clear hall
      by_cases hlt : k < t.length
      · obtain ⟨ai, ci, h1w, hIw⟩ := HC.out k hlt
        have h1 := (hB.cell (p := ⟨b, off + k, none⟩) hb).trans h1w
        have hI : Ints wr lo _ _ := Rd.below hIw hB (Nat.le_refl _) (by decide)
        have hno : ¬ lowOk t k → validCl t = false := lowOk_no hlt
        obtain ⟨row, hrow⟩ : ∃ row, row = t.getD k [] := ⟨_, rfl⟩
        have hkk : tat t k k = row.getD k 0 := by rw [hrow]; rfl
        have hlo : lowOk t k ↔ (rowOk t.length row = true ∧ tat t k k = 0 ∧ ∀ q, q < k → (0 < tat t k q ↔ 0 < tat t q k)) := by rw [hrow]; exact Iff.rfl
        have hrx : ∀ i, tat t k i = row.getD i 0 := fun i => by rw [hrow]; rfl
        rw [← hrow] at h1 hI h1w hIw
        have HNO := Lib.hid hno
        have HLO := Lib.hid hlo
        have HRX := Lib.hid hrx
        obtain ⟨_, hrl1, hrl2⟩ := IntSS.rowlen hI
        clear hrow hno hkk hlo hrx
        have hk0 : (0 : Int) ≤ (k : Int) := by omega
        have hk1 : (k : Int) < (t.length : Int) := by omega
        by_cases hl : row.length = t.length
        · have l1 : ((row.length : Int) != (t.length : Int)) = false := by simp [hl]
          have l2 : (row.length != t.length) = false := by simp [hl]
          cases hal : allB row 0 5
          · have HN : Hid (validCl t = false) := HNO.out (fun h => by have := (HLO.out.1 h).1; unfold rowOk at this; rw [hal] at this; simp at this)
            clear hl
            go_wp2_with (go_at_call 60; with_reducible refine (allIn_dec _ _ _ row 0 5 false hI hal).mono ?_; rintro e' w2 ⟨rfl, rfl⟩)
            go_ret
            exact ⟨by rw [HN.out]; rfl, hB⟩
          · obtain ⟨b1, off1, rfl, _, hb1, hx⟩ := hIw.spot 0 (by omega)
            have HX := Lib.hid hx
            have hkd := (hB.cell (p := ⟨b1, off1 + k, none⟩) hb1).trans (hx k (by omega))
            obtain ⟨d, hd⟩ : ∃ d, d = row.getD k 0 := ⟨_, rfl⟩
            rw [← hd] at hkd
            have HD := Lib.hid hd
            have hkr : (k : Int) < (row.length : Int) := by omega
            have HL := Lib.hid hl
            clear hx hd hl
            by_cases hz : d = 0
            · subst hz
              have z1 : ((0 : Int) != 0) = false := by simp
              have HROK : Hid (rowOk t.length row = true) := by unfold Hid rowOk; rw [hal, HL.out]; simp
              go_wp2_with (go_at_call 60; with_reducible refine (allIn_dec _ _ _ row 0 5 true hI hal).mono ?_; rintro e' w2 ⟨rfl, rfl⟩)
              go_loopw [5] (fun i wi => ∃ q : Nat, q ≤ k ∧ i = .int .i64 q ∧ (∀ p, p < q → (0 < tat t k p ↔ 0 < tat t p k)) ∧ Below w.heap.size w wi) (fun i _ => k - (intOf i).toNat)
              case atStart => exact ⟨0, Nat.zero_le _, rfl, fun j hj => by omega, hB⟩
              case round =>
                clear hB h1 hkd hI
                obtain ⟨q, hq, rfl, hall, hB⟩ := hrel
                have HB := Lib.hid hall
                clear hall
                by_cases hqk : q < k
                · have h1 := (hB.cell (p := ⟨b, off + k, none⟩) hb).trans h1w
                  have hx1 := (hB.cell (p := ⟨b1, off1 + q, none⟩) hb1).trans (HX.out q (by have := HL.out; omega))
                  obtain ⟨ai2, ci2, h2w, hI2w⟩ := HC.out q (by omega)
                  have hqr : rowOk t.length (t.getD q []) = true := (HA.out q hqk).1
                  have hql := (rowOk_iff.1 hqr).1
                  rw [hql] at h2w hI2w
                  obtain ⟨b3, off3, rfl, _, hb3, hx3⟩ := hI2w.spot 0 (by omega)
                  have h2 := (hB.cell (p := ⟨b, off + q, none⟩) hb).trans h2w
                  have hx2 := (hB.cell (p := ⟨b3, off3 + k, none⟩) hb3).trans (hx3 k (by omega))
                  have e2 : (t.getD q []).getD k 0 = tat t q k := rfl
                  rw [e2] at hx2
                  rw [← HRX.out q] at hx1
                  obtain ⟨_, hci3, hci4⟩ := IntSS.rowlen hI2w
                  obtain ⟨x, hx⟩ : ∃ x, x = tat t k q := ⟨_, rfl⟩
                  obtain ⟨y, hy⟩ : ∃ y, y = tat t q k := ⟨_, rfl⟩
                  rw [← hx] at hx1
                  rw [← hy] at hx2
                  have HXX := Lib.hid hx
                  have HYY := Lib.hid hy
                  have hq0 : (0 : Int) ≤ (q : Int) := by omega
                  have hq1 : (q : Int) < (t.length : Int) := by omega
                  have hqr2 : (q : Int) < (row.length : Int) := by have := HL.out; omega
                  clear hx hy hx3 e2 hqr hql h2w hI2w
                  by_cases p1 : 0 < x
                  · have d1 : decide (0 < x) = true := decide_eq_true p1
                    by_cases p2 : 0 < y
                    · have d2 : decide (0 < y) = true := decide_eq_true p2
                      go_wp2_with fail
                      go_quiet (fail)
                      go_wp2
                      go_roundw
                      case rel => exact ⟨q + 1, by omega, by go_num, fun p hp => by
                        by_cases h : p = q
                        · subst h; rw [← HXX.out, ← HYY.out]; exact ⟨fun _ => p2, fun _ => p1⟩
                        · exact HB.out p (by omega), below_drewN hB _⟩
                      case measure => simp [intOf]; omega
                    · have d2 : decide (0 < y) = false := decide_eq_false p2
                      have HN : Hid (validCl t = false) := HNO.out (fun h => by have := (HLO.out.1 h).2.2 q hqk; rw [← HXX.out, ← HYY.out] at this; exact p2 (this.1 p1))
                      go_wp2_with fail
                      go_quiet (fail)
                      go_wp2
                      go_ret
                      exact ⟨by rw [HN.out]; rfl, below_drewN hB _⟩
                  · have d1 : decide (0 < x) = false := decide_eq_false p1
                    by_cases p2 : 0 < y
                    · have d2 : decide (0 < y) = true := decide_eq_true p2
                      have HN : Hid (validCl t = false) := HNO.out (fun h => by have := (HLO.out.1 h).2.2 q hqk; rw [← HXX.out, ← HYY.out] at this; exact p1 (this.2 p2))
                      go_wp2_with fail
                      go_quiet (fail)
                      go_wp2
                      go_ret
                      exact ⟨by rw [HN.out]; rfl, below_drewN hB _⟩
                    · have d2 : decide (0 < y) = false := decide_eq_false p2
                      go_wp2_with fail
                      go_quiet (fail)
                      go_wp2
                      go_roundw
                      case rel => exact ⟨q + 1, by omega, by go_num, fun p hp => by
                        by_cases h : p = q
                        · subst h; rw [← HXX.out, ← HYY.out]; exact ⟨fun h => by omega, fun h => by omega⟩
                        · exact HB.out p (by omega), below_drewN hB _⟩
                      case measure => simp [intOf]; omega
                · have HQ : Hid (∀ p, p < k → (0 < tat t k p ↔ 0 < tat t p k)) := fun p hp => HB.out p (by omega)
                  have HY : Hid (lowOk t k) := HLO.out.2 ⟨HROK.out, by rw [HRX.out k, ← HD.out], HQ.out⟩
                  clear HB HQ
                  go_wp2_with fail
                  go_roundw
                  case rel => exact ⟨k + 1, by omega, by go_num, fun j hj => by
                    by_cases h : j = k
                    · subst h; exact HY.out
                    · exact HA.out j (by omega), hB⟩
                  case measure => simp [intOf]; omega
            · have z1 : (d != 0) = true := by simpa using hz
              have HN : Hid (validCl t = false) := HNO.out (fun h => hz (by have := (HLO.out.1 h).2.1; rw [HRX.out k, ← HD.out] at this; exact this))
              go_wp2_with (go_at_call 60; with_reducible refine (allIn_dec _ _ _ row 0 5 true hI hal).mono ?_; rintro e' w2 ⟨rfl, rfl⟩)
              go_ret
              exact ⟨by rw [HN.out]; rfl, hB⟩
        · have l1 : ((row.length : Int) != (t.length : Int)) = true := by simp; omega
          have l2 : (row.length != t.length) = true := by simpa using hl
          have HN : Hid (validCl t = false) := HNO.out (fun h => by have := (rowOk_iff.1 (HLO.out.1 h).1).1; exact hl this)
          clear hl
          go_wp2_with fail
          go_ret
          exact ⟨by rw [HN.out]; rfl, hB⟩
      · have HN : Hid (validCl t = true) := validCl_half hn1 hn2 (fun i hi => HA.out i (by omega))
        go_wp2_with fail
        go_ret
        exact ⟨by rw [HN.out]; rfl, hB⟩
  · have dn : (decide (1 ≤ (t.length : Int)) && decide ((t.length : Int) ≤ 8)) = false := by simp; omega
    have HN : Hid (validCl t = false) := validCl_no (fun h => hn ⟨h.1, h.2.1⟩)
    go_enter Tryd.func68, Tryd.ntmps68
    go_wp2_with (go_at_call 44; with_reducible refine (inRange_dec (t.length : Int) 1 8 false _ dn).mono ?_; rintro e' w2 ⟨rfl, rfl⟩)
    go_ret
    exact ⟨by rw [HN.out]; rfl, Below.refl _ _⟩
/-- A table of conflicts that belongs to valid clearance times: read by its entries. -/
def ConfR (w : World) (lo : Nat) (v : Value) (t : List (List Int)) : Prop :=
  ∃ b off cap, v = .slice (some ⟨b, off, none⟩) t.length cap ∧ t.length ≤ cap ∧ cap ≤ 9223372036854775807 ∧ lo ≤ b ∧ b < w.heap.size ∧
    ∀ a, a < t.length → ∃ b1 off1 c1, w.cell? ⟨b, off + a, none⟩ = some (.slice (some ⟨b1, off1, none⟩) t.length c1) ∧ t.length ≤ c1 ∧ c1 ≤ 9223372036854775807 ∧ lo ≤ b1 ∧ b1 < w.heap.size ∧
      ∀ c, c < t.length → w.cell? ⟨b1, off1 + c, none⟩ = some (.bool (decide (0 < tat t a c)))
theorem ConfR.below {w w' : World} {lo B : Nat} {v : Value} {t : List (List Int)} (h : ConfR w lo v t) (hb : Below B w w') (hB : w.heap.size ≤ B) : ConfR w' lo v t := by
  obtain ⟨b, off, cap, e, h1, h2, h3, h4, h5⟩ := h
  refine ⟨b, off, cap, e, h1, h2, h3, Nat.lt_of_lt_of_le h4 hb.size, fun a ha => ?_⟩
  obtain ⟨b1, off1, c1, q1, q2, q3, q4, q5, q6⟩ := h5 a ha
  exact ⟨b1, off1, c1, (hb.cell (p := ⟨b, off + a, none⟩) (by show b < B; omega)).trans q1, q2, q3, q4, Nat.lt_of_lt_of_le q5 hb.size, fun c hc => (hb.cell (p := ⟨b1, off1 + c, none⟩) (by show b1 < B; omega)).trans (q6 c hc)⟩

/-- A plan that the call owns: its table lies below its stages. -/
def PlanO (w : World) (lo : Nat) (v : Value) (p : Pln) : Prop :=
  ∃ vc vs mid, v = .agg #[vc, vs] ∧ lo ≤ mid ∧ OwnSSh w lo mid vc p.cl ∧ OwnStg w mid vs p.st
theorem PlanO.below {w w' : World} {lo B : Nat} {v : Value} {p : Pln} (h : PlanO w lo v p) (hb : Below B w w') (hB : w.heap.size ≤ B) : PlanO w' lo v p := by
  obtain ⟨vc, vs, mid, e, hm, h1, h2⟩ := h; exact ⟨vc, vs, mid, e, hm, h1.below hb hB, h2.below hb hB⟩
theorem PlanO.grown {w w' : World} {lo : Nat} {v : Value} {p : Pln} {row : Option Nat} (h : PlanO w lo v p) (hg : w.grownBy w' row) (hr : ∀ q, row = some q → q < lo) : PlanO w' lo v p := by
  obtain ⟨vc, vs, mid, e, hm, h1, h2⟩ := h
  exact ⟨vc, vs, mid, e, hm, h1.grown hg (fun q hq => .inl (hr q hq)), h2.grown hg (fun q hq => Nat.lt_of_lt_of_le (hr q hq) hm)⟩
theorem PlanO.mono {w : World} {lo lo' : Nat} {v : Value} {p : Pln} (h : PlanO w lo v p) (hl : lo' ≤ lo) : PlanO w lo' v p := by
  obtain ⟨vc, vs, mid, e, hm, h1, h2⟩ := h; exact ⟨vc, vs, mid, e, Nat.le_trans hl hm, h1.mono hl, h2⟩

theorem xor_i64_nat (a b : Nat) (ha : a < 4611686018427387904) (hb : b < 4611686018427387904) :
    bits .xor .i64 (a : Int) (b : Int) = ((a ^^^ b : Nat) : Int) := by
  have hx : a ^^^ b < 2 ^ 62 := Nat.xor_lt_two_pow (by omega) (by omega)
  have h1 : (BitVec.ofInt 64 (a : Int)).toNat = a := by
    rw [BitVec.ofInt_natCast, BitVec.toNat_ofNat]; exact Nat.mod_eq_of_lt (by omega)
  have h2 : (BitVec.ofInt 64 (b : Int)).toNat = b := by
    rw [BitVec.ofInt_natCast, BitVec.toNat_ofNat]; exact Nat.mod_eq_of_lt (by omega)
  show IntKind.i64.wrap ((BitVec.ofInt 64 (a : Int) ^^^ BitVec.ofInt 64 (b : Int)).toNat : Int) = _
  rw [BitVec.toNat_xor, h1, h2, IntKind.wrap_i64]
  omega

theorem xor_mod (x : Int) (n : Int) (h0 : 0 ≤ x) (h1 : x < 4611686018427387904) (hn : 1 ≤ n) :
    0 ≤ (bits .xor .i64 x (x / 64)).tmod n ∧ (bits .xor .i64 x (x / 64)).tmod n < n := by
  obtain ⟨a, rfl⟩ := Int.eq_ofNat_of_zero_le h0
  have e : ((a : Int) / 64) = ((a / 64 : Nat) : Int) := by omega
  rw [e, xor_i64_nat a (a / 64) (by omega) (by omega)]
  have hp : (0 : Int) ≤ ((a ^^^ a / 64 : Nat) : Int) := by omega
  rw [Int.tmod_eq_emod_of_nonneg hp]
  exact ⟨Int.emod_nonneg _ (by omega), Int.emod_lt_of_pos _ (by omega)⟩

def Bytes (w : World) (lo : Nat) (v : Value) (xs : List UInt8) : Prop := Rd w lo v 1 xs.length (xs.map fun b => .int .u8 b.toNat)

/-- A reader in block rb at position p. -/
def Rdr (w : World) (rb p : Nat) : Prop :=
  ∃ v bs, w.heap[rb]? = some (.cells #[v, .int .i64 p] 89 (0, 0)) ∧ Bytes w 0 v bs ∧ bs.length ≤ 2000 ∧ (bs ≠ [] → ∀ k, v.ownBlock = some k → k < rb)

theorem Rdr.lt {w : World} {rb p : Nat} (h : Rdr w rb p) : rb < w.heap.size := by
  obtain ⟨v, bs, h1, _⟩ := h
  exact (Array.getElem?_eq_some_iff.1 h1).1

theorem Rdr.grown {w w' : World} {rb p : Nat} {row : Option Nat} (h : Rdr w rb p) (hg : w.grownBy w' row) (hr : ∀ k, row = some k → rb < k) : Rdr w' rb p := by
  obtain ⟨v, bs, h1, h2, h3, h4⟩ := h
  refine ⟨v, bs, ?_, ?_, h3, h4⟩
  · rw [hg.block rb (Array.getElem?_eq_some_iff.1 h1).1 (fun e => by have := hr rb e.symm; omega)]; exact h1
  · by_cases hb : bs = []
    · subst hb
      obtain ⟨a, ao, cap, b, c, d, e, f⟩ := h2
      exact ⟨a, ao, cap, b, c, d, e, fun h => absurd h (by simp)⟩
    · refine h2.grown hg (fun k hk => ?_) (by omega)
      right; intro he
      have := h4 hb k he; have := hr k hk; omega

theorem Rdr.below {w w' : World} {rb p B : Nat} (h : Rdr w rb p) (hb : Below B w w') (hB : rb < B) : Rdr w' rb p := by
  obtain ⟨v, bs, h1, h2, h3, h4⟩ := h
  refine ⟨v, bs, ?_, ?_, h3, h4⟩
  · rw [hb.block rb hB]; exact h1
  · obtain ⟨a, ao, cap, b, c, d, e, f⟩ := h2
    refine ⟨a, ao, cap, b, c, d, e, fun hn => ?_⟩
    obtain ⟨bb, off, rfl, hbb, hc⟩ := f hn
    have hlt : bb < rb := h4 (by intro h; subst h; simp at hn) bb (by subst b; rfl)
    refine ⟨bb, off, rfl, hbb, fun i hi => ?_⟩
    rw [← hc i hi]
    exact hb.cell (p := ⟨bb, off + i, none⟩) (by show bb < B; omega)

/-- The step of the position. -/
theorem Rdr.step {w : World} {rb p : Nat} (h : Rdr w rb p) (n : Nat) :
    Rdr ((w.setCell ⟨rb, 1, none⟩ (.int .i64 ((p : Int) + 1))).drewN n) rb (p + 1) ∧ w.grownBy ((w.setCell ⟨rb, 1, none⟩ (.int .i64 ((p : Int) + 1))).drewN n) (some rb) := by
  obtain ⟨v, bs, h1, h2, h3, h4⟩ := h
  have hother : ∀ k, k ≠ rb → ((w.setCell ⟨rb, 1, none⟩ (.int .i64 ((p : Int) + 1))).drewN n).heap[k]? = w.heap[k]? := fun k hk => by
    show (w.setCell ⟨rb, 1, none⟩ (.int .i64 ((p : Int) + 1))).heap[k]? = _
    exact Below.heap_setCell _ _ _ _ hk
  have hs : ((w.setCell ⟨rb, 1, none⟩ (.int .i64 ((p : Int) + 1))).drewN n).heap.size = w.heap.size := by simp [World.setCell, World.drewN]
  refine ⟨⟨v, bs, ?_, ?_, h3, h4⟩, ⟨rfl, rfl, rfl, by omega, fun k _ hk => hother k (fun e => hk (by rw [e]))⟩⟩
  · show (w.setCell ⟨rb, 1, none⟩ (.int .i64 ((p : Int) + 1))).heap[rb]? = _
    simp [World.setCell, Array.getElem?_modify, h1]
  · obtain ⟨a, ao, cap, b, c, d, e, f⟩ := h2
    refine ⟨a, ao, cap, b, c, d, e, fun hn => ?_⟩
    obtain ⟨bb, off, rfl, hbb, hc⟩ := f hn
    have hlt : bb < rb := h4 (by intro h; subst h; simp at hn) bb (by subst b; rfl)
    refine ⟨bb, off, rfl, hbb, fun i hi => ?_⟩
    rw [← hc i hi]
    exact World.cell?_of_block (hother bb (by omega))

theorem pick_le (w : World) (rb p : Nat) (n : Int) (hr : Rdr w rb p) (hp : p ≤ 1000000000) (hn : n < 1) :
    Calls Tryd.prog 39 #[.pointer (some ⟨rb, 0, none⟩), .int .i64 n] w fun e w' => e = .returned (.int .i64 0) ∧ w' = w.setCell ⟨rb, 1, none⟩ (.int .i64 (p + 1)) := by
  obtain ⟨v, bs, h1, h2, h3, h4⟩ := hr
  have c0 : w.cell? ⟨rb, 0, none⟩ = some v := by simp [World.cell?, h1]
  have c1 : w.cell? ⟨rb, 1, none⟩ = some (.int .i64 p) := by simp [World.cell?, h1]
  have f1 : w.frozen? ⟨rb, 1, none⟩ = false := by simp [World.frozen?, h1]
  clear h1
  obtain ⟨_, ao, cap, rfl, _⟩ := h2
  go_enter Tryd.func39, Tryd.ntmps39
  go_wp2
  go_ret
  exact ⟨rfl, rfl⟩

theorem pick_gt (w : World) (rb p : Nat) (n : Int) (hr : Rdr w rb p) (hp : p ≤ 1000000000) (hn : 1 ≤ n) (hn' : n ≤ 1000000000) :
    Calls Tryd.prog 39 #[.pointer (some ⟨rb, 0, none⟩), .int .i64 n] w fun e w' => ∃ x : Int, e = .returned (.int .i64 x) ∧ (0 ≤ x ∧ x < n) ∧ ∃ k, w' = (w.setCell ⟨rb, 1, none⟩ (.int .i64 (p + 1))).drewN k := by
  obtain ⟨v, bs, h1, h2, h3, h4⟩ := hr
  have c0 : w.cell? ⟨rb, 0, none⟩ = some v := by simp [World.cell?, h1]
  have c1 : w.cell? ⟨rb, 1, none⟩ = some (.int .i64 p) := by simp [World.cell?, h1]
  have f1 : w.frozen? ⟨rb, 1, none⟩ = false := by simp [World.frozen?, h1]
  clear h1
  obtain ⟨hl, ao, cap, rfl, hcap, hm, hn0, hc⟩ := h2
  have hn1 : ¬ n < 1 := by omega
  by_cases hz : bs.length = 0
  · have hz0 : ((bs.length : Int) == 0) = true := by simp [hz]
    go_enter Tryd.func39, Tryd.ntmps39
    go_wp2
    go_ret
    exact ⟨0, rfl, by omega, 0, rfl⟩
  · have hc' := hc (by omega)
    clear hc
    obtain ⟨b, off, rfl, hb, hc⟩ := hc'
    have hne : b ≠ rb := by
      exact Nat.ne_of_lt (h4 (by intro h; subst h; simp at hz) b rfl)
    have hz0 : ((bs.length : Int) == 0) = false := beq_eq_false_iff_ne.mpr (by omega)
    have hcell : ∀ i, i < bs.length → w.cell? ⟨b, off + i, none⟩ = some (.int .u8 (bs.getD i 0).toNat) := by
      intro i hi
      have := hc i (by simpa using hi)
      rw [this]; simp [hi]
    by_cases hlt : p < bs.length
    · have hx := hcell p hlt
      obtain ⟨x, hx0⟩ : ∃ x : UInt8, x = bs.getD p 0 := ⟨_, rfl⟩
      rw [← hx0] at hx; clear hx0 hc hcell h4
      have hx2 : x.toNat < 256 := x.toNat_lt
      go_enter Tryd.func39, Tryd.ntmps39
      go_wp2
      go_ret
      exact ⟨_, rfl, ⟨Int.emod_nonneg _ (by omega), Int.emod_lt_of_pos _ (by omega)⟩, 0, rfl⟩
    · have hcy := hcell (p % bs.length) (Nat.mod_lt _ (by omega))
      have hcz := hcell ((p * 7 + 3) % bs.length) (Nat.mod_lt _ (by omega))
      have m1 : 0 ≤ (p : Int) % (bs.length : Int) := Int.emod_nonneg _ (by omega)
      have m2 : (p : Int) % (bs.length : Int) < (bs.length : Int) := Int.emod_lt_of_pos _ (by omega)
      have m3 : 0 ≤ ((p : Int) * 7 + 3) % (bs.length : Int) := Int.emod_nonneg _ (by omega)
      have m4 : ((p : Int) * 7 + 3) % (bs.length : Int) < (bs.length : Int) := Int.emod_lt_of_pos _ (by omega)
      have e1 : ((p : Int) % (bs.length : Int)).toNat = p % bs.length := by omega
      have e2 : (((p : Int) * 7 + 3) % (bs.length : Int)).toNat = (p * 7 + 3) % bs.length := by rw [show ((p : Int) * 7 + 3) = ((p * 7 + 3 : Nat) : Int) by omega, ← Int.natCast_emod, Int.toNat_natCast]
      obtain ⟨x1, hx1⟩ : ∃ x : UInt8, x = bs.getD (p % bs.length) 0 := ⟨_, rfl⟩
      obtain ⟨x2, hx2⟩ : ∃ x : UInt8, x = bs.getD ((p * 7 + 3) % bs.length) 0 := ⟨_, rfl⟩
      rw [← hx1] at hcy
      rw [← hx2] at hcz
      have b1 : x1.toNat < 256 := x1.toNat_lt
      have b2 : x2.toNat < 256 := x2.toNat_lt
      have d1 : 0 ≤ (p : Int) / (bs.length : Int) := Int.ediv_nonneg (by omega) (by omega)
      have d2 : (p : Int) / (bs.length : Int) ≤ p := Int.ediv_le_self _ (by omega)
      clear hc hcell h4 hx1 hx2
      go_enter Tryd.func39, Tryd.ntmps39
      go_wp2
      go_quiet (fail)
      go_wp2
      go_ret
      exact ⟨_, rfl, xor_mod _ n (by omega) (by omega) hn, _, rfl⟩

theorem info_int : (Tryd.prog.info? 3).map (fun i => (i.zero, i.size, i.bytes)) = some (some (.int .i64 0), 1, 8) := by kernel_rfl

/-- A reader in block rb at position p; its bytes lie below hi. -/
def RdB (w : World) (hi rb p : Nat) : Prop :=
  ∃ v bs, w.heap[rb]? = some (.cells #[v, .int .i64 p] 89 (0, 0)) ∧ Bytes w 0 v bs ∧ bs.length ≤ 2000 ∧ (bs ≠ [] → ∀ k, v.ownBlock = some k → k < hi) ∧ hi ≤ rb

theorem RdB.rdr {w : World} {hi rb p : Nat} (h : RdB w hi rb p) : Rdr w rb p := by
  obtain ⟨v, bs, h1, h2, h3, h4, h5⟩ := h
  exact ⟨v, bs, h1, h2, h3, fun hb k hk => Nat.lt_of_lt_of_le (h4 hb k hk) h5⟩
theorem RdB.lt {w : World} {hi rb p : Nat} (h : RdB w hi rb p) : hi ≤ rb ∧ rb < w.heap.size := by
  have := h.rdr.lt
  obtain ⟨v, bs, h1, h2, h3, h4, h5⟩ := h
  exact ⟨h5, this⟩

theorem RdB.grown {w w' : World} {hi rb p : Nat} {row : Option Nat} (h : RdB w hi rb p) (hg : w.grownBy w' row) (hr : ∀ k, row = some k → hi ≤ k ∧ k ≠ rb) : RdB w' hi rb p := by
  obtain ⟨v, bs, h1, h2, h3, h4, h5⟩ := h
  refine ⟨v, bs, ?_, ?_, h3, h4, h5⟩
  · rw [hg.block rb (Array.getElem?_eq_some_iff.1 h1).1 (fun e => (hr rb e.symm).2 rfl)]; exact h1
  · by_cases hb : bs = []
    · subst hb
      obtain ⟨a, ao, cap, b, c, d, e, f⟩ := h2
      exact ⟨a, ao, cap, b, c, d, e, fun h => absurd h (by simp)⟩
    · refine h2.grown hg (fun k hk => ?_) (by omega)
      right; intro he
      have := h4 hb k he; have := (hr k hk).1; omega
theorem RdB.alloc {w : World} {hi rb p : Nat} (h : RdB w hi rb p) (o : Obj) : RdB (w.alloc o) hi rb p := h.grown (World.grownBy_alloc w o none) (fun _ e => by cases e)

theorem RdB.step {w : World} {hi rb p : Nat} (h : RdB w hi rb p) (n : Nat) :
    RdB ((w.setCell ⟨rb, 1, none⟩ (.int .i64 ((p : Int) + 1))).drewN n) hi rb (p + 1) ∧ w.grownBy ((w.setCell ⟨rb, 1, none⟩ (.int .i64 ((p : Int) + 1))).drewN n) (some rb) := by
  have hg := (h.rdr.step n).2
  obtain ⟨v, bs, h1, h2, h3, h4, h5⟩ := h
  have hother : ∀ k, k ≠ rb → ((w.setCell ⟨rb, 1, none⟩ (.int .i64 ((p : Int) + 1))).drewN n).heap[k]? = w.heap[k]? := fun k hk => by
    show (w.setCell ⟨rb, 1, none⟩ (.int .i64 ((p : Int) + 1))).heap[k]? = _
    exact Below.heap_setCell _ _ _ _ hk
  refine ⟨⟨v, bs, ?_, ?_, h3, h4, h5⟩, hg⟩
  · show (w.setCell ⟨rb, 1, none⟩ (.int .i64 ((p : Int) + 1))).heap[rb]? = _
    simp [World.setCell, Array.getElem?_modify, h1]
  · obtain ⟨a, ao, cap, b, c, d, e, f⟩ := h2
    refine ⟨a, ao, cap, b, c, d, e, fun hn => ?_⟩
    obtain ⟨bb, off, rfl, hbb, hc⟩ := f hn
    have hlt : bb < hi := h4 (by intro h; subst h; simp at hn) bb (by subst b; rfl)
    refine ⟨bb, off, rfl, hbb, fun i hi' => ?_⟩
    rw [← hc i hi']
    exact World.cell?_of_block (hother bb (by omega))

theorem newReader_B (w : World) (hi : Nat) (v : Value) (bs : List UInt8) (hv : Bytes w 0 v bs) (hvb : bs ≠ [] → ∀ k, v.ownBlock = some k → k < hi) (hhi : hi ≤ w.heap.size) :
    Calls Tryd.prog 37 #[v] w fun e w' => e = .returned (.pointer (some ⟨w.heap.size, 0, none⟩)) ∧ RdB w' hi w.heap.size 0 ∧ Below w.heap.size w w' := by
  obtain ⟨hl, ao, cap, rfl, hcap, hm, hn0, hc⟩ := hv
  unfold maxLen at hm
  have hb : Below w.heap.size w (w.alloc (.cells #[.slice ao bs.length cap, .int .i64 0] 89)) := (Below.refl _ _).alloc (Nat.le_refl _) _
  by_cases hlen : bs.length ≤ 2000
  · go_enter Tryd.func37, Tryd.ntmps37
    go_wp2
    go_ret
    refine ⟨rfl, ⟨.slice ao bs.length cap, bs, heap_alloc_new _ _, ?_, hlen, hvb, hhi⟩, (Below.refl _ _).alloc (Nat.le_refl _) _⟩
    · refine Rd.below (B := w.heap.size) ⟨hl, ao, cap, rfl, hcap, by unfold maxLen; exact hm, hn0, hc⟩ ((Below.refl _ _).alloc (Nat.le_refl _) _) (Nat.le_refl _) (by omega)
  · obtain ⟨b, off, rfl, hb0, hcell⟩ : ∃ b off, ao = some ⟨b, off, none⟩ ∧ 0 ≤ b ∧ ∀ i (h : i < (bs.map fun b => Value.int .u8 b.toNat).length), w.cell? ⟨b, off + i, none⟩ = some ((bs.map fun b => Value.int .u8 b.toNat)[i]) := hc (by omega)
    clear hc hb
    go_enter Tryd.func37, Tryd.ntmps37
    go_wp2
    go_ret
    refine ⟨rfl, ⟨.slice (some ⟨b, off, none⟩) 2000 cap, bs.take 2000, heap_alloc_new _ _, ?_, ?_, ?_, hhi⟩, (Below.refl _ _).alloc (Nat.le_refl _) _⟩
    · have ht : (bs.take 2000).length = 2000 := by simp; omega
      refine Rd.below (w := w) (B := w.heap.size) ?_ ((Below.refl _ _).alloc (Nat.le_refl _) _) (Nat.le_refl _) (by omega)
      refine ⟨by simp, some ⟨b, off, none⟩, cap, by rw [ht], by omega, by unfold maxLen; exact hm, fun e => (by cases e), fun _ => ⟨b, off, rfl, hb0, fun i hi => ?_⟩⟩
      simp at hi
      rw [hcell i (by simp; omega)]
      simp
    · simp; omega
    · intro hne k hk
      exact hvb (by intro h; subst h; simp at hlen) k hk

/-- pick, whatever the number. -/
theorem pick_B (w : World) (hi rb p : Nat) (n : Int) (hr : RdB w hi rb p) (hp : p ≤ 1000000000) (hn' : n ≤ 1000000000) :
    Calls Tryd.prog 39 #[.pointer (some ⟨rb, 0, none⟩), .int .i64 n] w fun e w' => ∃ x : Int, e = .returned (.int .i64 x) ∧ (0 ≤ x ∧ (1 ≤ n → x < n) ∧ x ≤ 1000000000) ∧ RdB w' hi rb (p + 1) ∧ w.grownBy w' (some rb) := by
  by_cases h : n < 1
  · refine (pick_le w rb p n hr.rdr hp h).mono ?_
    rintro e w' ⟨rfl, rfl⟩
    exact ⟨0, rfl, ⟨by omega, by omega, by omega⟩, (hr.step 0).1, (hr.step 0).2⟩
  · refine (pick_gt w rb p n hr.rdr hp (by omega) hn').mono ?_
    rintro e w' ⟨x, rfl, hx, k, rfl⟩
    exact ⟨x, rfl, ⟨by omega, by omega, by omega⟩, (hr.step k).1, (hr.step k).2⟩

theorem one_B (w : World) (hi rb p : Nat) (v : Value) (xs : List Int) (hr : RdB w hi rb p) (hp : p ≤ 1000000000) (hv : Ints w 0 v xs) (hvr : v.ownBlock ≠ some rb) (hne : 0 < xs.length) (hne' : xs.length ≤ 1000) :
    Calls Tryd.prog 57 #[.pointer (some ⟨rb, 0, none⟩), v] w fun e w' => ∃ x : Int, e = .returned (.int .i64 x) ∧ Hid (x ∈ xs) ∧ RdB w' hi rb (p + 1) ∧ w.grownBy w' (some rb) := by
  obtain ⟨ao, cap, rfl, hcap, hm⟩ := hv.form
  have hc' := hv.cell
  obtain ⟨_, _, _, _, hc'⟩ := hc'
  have hc'' := hc' hne
  clear hc'
  obtain ⟨b, off, rfl, hb, hb2, hc⟩ := hc''
  clear hv
  go_enter Tryd.func57, Tryd.ntmps57
  go_wp2_with (go_at_call 39; refine (pick_B _ _ _ _ _ hr hp (by omega)).mono ?_; rintro e w' ⟨x, rfl, ⟨hx0, hx1, hx2⟩, hr', hg⟩; have hx3 := hx1 (by omega); clear hx1; have hcx : w'.cell? ⟨b, off + x.toNat, none⟩ = some (.int .i64 (xs.getD x.toNat 0)) := by (rw [← show w.cell? ⟨b, off + x.toNat, none⟩ = some (.int .i64 (xs.getD x.toNat 0)) by (rw [hc x.toNat (by simp; omega)]; simp [show x.toNat < xs.length by omega])]; exact World.cell?_of_block (hg.block b hb2 (fun e => hvr (by simp [Value.ownBlock]; exact Option.some.inj e)))))
  go_ret
  exact ⟨_, rfl, (List.getElem_mem _ : _ ∈ xs), hr', hg⟩


/-- one of a slice that was written out in the call: the block made just before. -/
theorem one_L (w : World) (hi rb p : Nat) (xs : List Int) (t : TypeId) (n : Nat) (hn : xs.length = n) (hr : RdB w hi rb p) (hp : p ≤ 1000000000) (hne : 0 < n) (hne' : n ≤ 1000) :
    Calls Tryd.prog 57 #[.pointer (some ⟨rb, 0, none⟩), .slice (some ⟨w.heap.size, 0, none⟩) n n] (w.alloc (.cells (xs.map (Value.int .i64)).toArray t))
      fun e w' => ∃ x : Int, e = .returned (.int .i64 x) ∧ Hid (x ∈ xs) ∧ RdB w' hi rb (p + 1) ∧ w.grownBy w' (some rb) := by
  have hlt := hr.lt
  subst hn
  refine (one_B _ hi rb p _ xs (hr.alloc _) hp (Rd.made w (xs.map (Value.int .i64)) t 0 1 xs.length (by simp) (by omega) (by unfold maxLen; omega)) (fun e => by simp [Value.ownBlock] at e; omega) hne hne').mono ?_
  rintro e w' ⟨x, rfl, hx, hr', hg⟩
  exact ⟨x, rfl, hx, hr', grownBy_trans (World.grownBy_alloc w _ _) hg (fun x h => .inl h)⟩

def tame (xs : List Int) : Prop := ∀ x ∈ xs, -1000000 ≤ x ∧ x ≤ 1000000
theorem tame_app {xs : List Int} {x : Int} (h : tame xs) (h1 : -1000000 ≤ x) (h2 : x ≤ 1000000) : tame (xs ++ [x]) := by
  intro y hy
  rcases List.mem_append.1 hy with h' | h'
  · exact h y h'
  · simp at h'; subst h'; exact ⟨h1, h2⟩

theorem copyInts_any (w : World) (v : Value) (xs : List Int) (hv : Ints w 0 v xs) (hn : xs.length ≤ 1000000) :
    Calls Tryd.prog 78 #[v] w fun e w' => ∃ v', e = .returned v' ∧ Own w' w.heap.size 3 1 v' xs.length (xs.map (.int .i64)) ∧ Below w.heap.size w w' := by
  obtain ⟨ao, cap, rfl, hcap, hm⟩ := hv.form
  have hO := Own.made w [] 3 w.heap.size 1 0 rfl (Nat.le_refl _) (by decide)
  have hB : Below w.heap.size w (w.alloc (.cells #[] 3)) := (Below.refl _ _).alloc (Nat.le_refl _) _
  have hv1 := Rd.below hv hB (Nat.le_refl _) (by decide)
  have hsz := hB.size
  go_enter Tryd.func78, Tryd.ntmps78
  go_wp2_with (at_builtin; refine wpList_append_Own _ rfl _ _ 38 rfl 3 (.int .i64 0) 1 8 Tryd.underlying38 info_int rfl (by omega) w.heap.size _ _ _ rfl hO _ 0 xs.length _ rfl hv1 (by simp; intros; rfl) (by unfold maxLen; omega) (by omega) hsz ?_; intro v' w2 hO2 hg2 _)
  go_ret
  refine ⟨_, rfl, by simpa using hO2, hB.trans (below_of_grownBy hg2 hsz (fun k hk => (hO.wblk hk).1))⟩


def Rdh (hi : Nat) (w : World) (rb p : Nat) : Prop := RdB w hi rb p
theorem Rdh.lt {hi : Nat} {w : World} {rb p : Nat} (h : Rdh hi w rb p) : rb < w.heap.size := (RdB.lt h).2
theorem Rdh.hi {hi : Nat} {w : World} {rb p : Nat} (h : Rdh hi w rb p) : hi ≤ rb := (RdB.lt h).1
theorem Rdh.grown {hi : Nat} {w w' : World} {rb p : Nat} {row : Option Nat} (h : Rdh hi w rb p) (hg : w.grownBy w' row) (hr : ∀ k, row = some k → rb < k) : Rdh hi w' rb p :=
  RdB.grown h hg (fun k hk => ⟨by have := h.hi; have := hr k hk; omega, by have := hr k hk; omega⟩)
theorem Rdh.below {hi : Nat} {w w' : World} {rb p B : Nat} (h : Rdh hi w rb p) (hb : Below B w w') (hB : rb < B) : Rdh hi w' rb p := by
  obtain ⟨v, bs, h1, h2, h3, h4, h5⟩ := h
  refine ⟨v, bs, ?_, ?_, h3, h4, h5⟩
  · rw [hb.block rb hB]; exact h1
  · obtain ⟨a, ao, cap, b, c, d, e, f⟩ := h2
    refine ⟨a, ao, cap, b, c, d, e, fun hn => ?_⟩
    obtain ⟨bb, off, rfl, hbb, hc⟩ := f hn
    have hlt : bb < hi := h4 (by intro h; subst h; simp at hn) bb (by subst b; rfl)
    refine ⟨bb, off, rfl, hbb, fun i hi' => ?_⟩
    rw [← hc i hi']
    exact World.cell?_of_block (hb.block bb (by omega))
theorem pick_h {hi : Nat} (w : World) (rb p : Nat) (n : Int) (hr : Rdh hi w rb p) (hp : p ≤ 1000000000) (hn' : n ≤ 1000000000) :
    Calls Tryd.prog 39 #[.pointer (some ⟨rb, 0, none⟩), .int .i64 n] w fun e w' => ∃ x : Int, e = .returned (.int .i64 x) ∧ (0 ≤ x ∧ (1 ≤ n → x < n) ∧ x ≤ 1000000000) ∧ Rdh hi w' rb (p + 1) ∧ w.grownBy w' (some rb) :=
  pick_B w hi rb p n hr hp hn'
theorem one_h {hi : Nat} (w : World) (rb p : Nat) (v : Value) (xs : List Int) (hr : Rdh hi w rb p) (hp : p ≤ 1000000000) (hv : Ints w (rb + 1) v xs) (hne : 0 < xs.length) (hne' : xs.length ≤ 1000) :
    Calls Tryd.prog 57 #[.pointer (some ⟨rb, 0, none⟩), v] w fun e w' => ∃ x : Int, e = .returned (.int .i64 x) ∧ Hid (x ∈ xs) ∧ Rdh hi w' rb (p + 1) ∧ w.grownBy w' (some rb) :=
  one_B w hi rb p v xs hr hp (hv.mono (Nat.zero_le _)) (fun e => by
    obtain ⟨_, ao, cap, rfl, _, _, _, h⟩ := hv
    obtain ⟨b, off, rfl, hb, _⟩ := h hne
    simp [Value.ownBlock] at e; omega) hne hne'
theorem one_LR {hi : Nat} (w : World) (rb p : Nat) (xs : List Int) (t : TypeId) (n : Nat) (hn : xs.length = n) (hr : Rdh hi w rb p) (hp : p ≤ 1000000000) (hne : 0 < n) (hne' : n ≤ 1000) :
    Calls Tryd.prog 57 #[.pointer (some ⟨rb, 0, none⟩), .slice (some ⟨w.heap.size, 0, none⟩) n n] (w.alloc (.cells (xs.map (Value.int .i64)).toArray t))
      fun e w' => ∃ x : Int, e = .returned (.int .i64 x) ∧ Hid (x ∈ xs) ∧ Rdh hi w' rb (p + 1) ∧ w.grownBy w' (some rb) :=
  one_L w hi rb p xs t n hn hr hp hne hne'

def SpoilPosth (hi : Nat) (w : World) (rb p n : Nat) (e : Ending) (w' : World) : Prop :=
  ∃ v, ∃ ys : List Int, ∃ p', e = .returned v ∧ Ints w' w.heap.size v ys ∧ ys.length ≤ n + 1 ∧ tame ys ∧ p' ≤ p + 3 ∧ Rdh hi w' rb p' ∧ w.grownBy w' (some rb)

set_option maxHeartbeats 1000000 in
theorem spoil_h {hi : Nat} (w : World) (rb p : Nat) (v : Value) (xs : List Int) (n : Int) (hr : Rdh hi w rb p) (hp : p ≤ 900000000) (hv : Ints w 0 v xs) (hl : xs.length ≤ 100000) (hx : tame xs) (hn : -1000000 ≤ n ∧ n ≤ 1000000) :
    Calls Tryd.prog 69 #[.pointer (some ⟨rb, 0, none⟩), v, .int .i64 n] w (SpoilPosth hi w rb p xs.length) := by
  have hlt := hr.lt
  obtain ⟨ao, cap, rfl, hcap, hm⟩ := hv.form
  have HX := Lib.hid hx
  clear hx
  go_enter Tryd.func69, Tryd.ntmps69
  go_wp2_with fail
  go_at_call 78
  refine (copyInts_any _ _ xs hv (by omega)).mono ?_; rintro e w1 ⟨v1, rfl, hO, hB⟩
  have hr1 := hr.below hB hlt
  have hsz1 := hB.size
  go_wp2_with fail
  go_at_call 39
  refine (pick_h _ _ _ 20 hr1 (by omega) (by omega)).mono ?_; rintro e w2 ⟨x, rfl, hx, hr2, hg2⟩
  have hO2 := hO.grown hg2 (fun k hk => by cases hk; omega)
  have hG2 : w.grownBy w2 (some rb) := grownBy_trans (grownBy_of_below hB (Nat.le_refl _) (some rb)) hg2 (fun x hx => .inl hx)
  have hsz2 := hG2.size
  clear hO hr1 hg2 hB hv
  obtain ⟨ao1, cap1, rfl, hcap1, hm1⟩ := hO2.form
  have hfin : ∀ w', w'= w2 → SpoilPosth hi w rb p xs.length (.returned (.slice ao1 xs.length cap1)) w' := fun w' h => by
    subst h
    exact ⟨_, xs, p + 1, rfl, hO2.rd, by omega, HX.out, by omega, hr2, hG2⟩
  have HF := Lib.hid hfin
  clear hfin
  by_cases h0 : x = 0
  · have t0 : (x == 0) = true := by rw [h0]; rfl
    clear h0
    go_wp2_with (at_builtin; refine wpList_append_one _ rfl _ _ 38 rfl 3 (.int .i64 0) 8 Tryd.underlying38 info_int rfl w.heap.size _ _ _ rfl hO2 _ _ rfl rfl (by omega) (by omega) (by omega) ?_; intro v' w3 hO3 hg3 _)
    go_ret
    refine ⟨_, xs ++ [n], p + 1, rfl, ?_, by simp, tame_app HX.out hn.1 hn.2, by omega, hr2.grown hg3 (fun k hk => by have := (hO2.wblk hk).1; omega), grownBy_trans hG2 hg3 (fun k hk => .inr (hO2.wblk hk).1)⟩
    have := hO3.rd
    unfold Ints
    simpa using this
  · have t0 : (x == 0) = false := beq_eq_false_iff_ne.mpr h0
    by_cases h1 : x = 1
    · have t1 : (x == 1) = true := by rw [h1]; rfl
      clear h0 h1
      by_cases hl0 : 0 < xs.length
      · obtain ⟨g, rfl, hg, _, _, _, _⟩ := hO2.parts hl0
        obtain ⟨y, ys, rfl⟩ : ∃ y ys, xs = y :: ys := by cases xs with | nil => simp at hl0 | cons y ys => exact ⟨y, ys, rfl⟩
        have ht : tame ys := fun z hz => HX.out z (List.mem_cons_of_mem _ hz)
        have HT := Lib.hid ht
        clear ht
        by_cases hc1 : cap1 = 1
        · have hd := Rd.drop (k := 1) hO2.rd (by simp) (a := some ⟨g, 0, none⟩) (fun h => by simp at h hcap1; omega) (by simp)
          subst hc1
          go_wp2
          go_ret
          refine ⟨_, ys, p + 1, rfl, ?_, by simp; omega, HT.out, by omega, hr2, hG2⟩
          unfold Ints; simpa using hd
        · have hd := Rd.drop (k := 1) hO2.rd (by simp) (a := some ⟨g, 0 + 1, none⟩) (fun h => rfl) (by simp)
          go_wp2
          go_ret
          refine ⟨_, ys, p + 1, rfl, ?_, by simp; omega, HT.out, by omega, hr2, hG2⟩
          unfold Ints; simpa using hd
      · go_wp2
        go_ret
        exact HF.out _ rfl
    · have t1 : (x == 1) = false := beq_eq_false_iff_ne.mpr h1
      by_cases h2 : x = 2
      · have t2 : (x == 2) = true := by rw [h2]; rfl
        clear h0 h1 h2
        by_cases hl0 : 0 < xs.length
        · obtain ⟨g, rfl, hg, hg2, hcell, hfr, hset⟩ := hO2.parts hl0
          have HC := Lib.hid hcell; have HFR := Lib.hid hfr; have HS := Lib.hid hset
          clear hcell hfr hset
          go_wp2_with fail
          go_at_call 39
          refine (pick_h _ _ _ xs.length hr2 (by omega) (by omega)).mono ?_; rintro e w3 ⟨y, rfl, ⟨hy0, hy1, hy2⟩, hr3, hg3⟩
          have hy3 := hy1 (by omega)
          clear hy1
          have hO3 := hO2.grown hg3 (fun k hk => by cases hk; omega)
          have hG3 : w.grownBy w3 (some rb) := grownBy_trans hG2 hg3 (fun x hx => .inl hx)
          have hsz3 := hG3.size
          have hlt3 := hr3.lt
          have hr3' : ∀ o, Rdh hi (w3.alloc o) rb (p + 1 + 1) := fun o => hr3.grown (World.grownBy_alloc w3 o none) (fun k hk => by cases hk)
          have hv4 := Rd.made w3 ([-1, n, 0, 1].map (Value.int .i64)) 3 (rb + 1) 1 4 rfl (by omega) (by decide)
          go_wp2_with fail
          go_at_call 57
          refine (one_h _ _ _ _ [-1, n, 0, 1] (hr3' _) (by omega) hv4 (by simp) (by simp)).mono ?_; rintro e w4 ⟨z, rfl, hz, hr4, hg4⟩
          have hO4 := (hO3.alloc (.cells #[.int .i64 (-1), .int .i64 n, .int .i64 0, .int .i64 1] 3)).grown hg4 (fun k hk => by cases hk; omega)
          have hG4 : w.grownBy w4 (some rb) := grownBy_trans (grownBy_trans hG3 (World.grownBy_alloc w3 _ _) (fun x hx => .inl hx)) hg4 (fun x hx => .inl hx)
          obtain ⟨g', hgg, _, hgl, hcell, hfr, hset⟩ := hO4.parts hl0
          cases hgg
          obtain ⟨m, rfl⟩ : ∃ m : Nat, y = m := ⟨y.toNat, by omega⟩
          have hd := hcell m (by simp; omega)
          have hf := hfr m
          have hS := hset m (.int .i64 z)
          clear hcell hfr hset HC HFR HS
          have HS := Lib.hid hS
          clear hS
          go_wp2
          go_ret
          have hz' := hz.out
          simp at hz'
          refine ⟨_, xs.set m z, p + 1 + 1 + 1, rfl, ?_, by simp, ?_, by omega, hr4.grown HS.out.2 (fun k hk => by cases hk; omega), grownBy_trans hG4 HS.out.2 (fun k hk => by cases hk; right; omega)⟩
          · have := HS.out.1.rd
            unfold Ints
            rw [List.map_set]
            simpa using this
          · intro q hq
            rcases List.mem_or_eq_of_mem_set hq with h | h
            · exact HX.out q h
            · subst h; omega
        · go_wp2
          go_ret
          exact HF.out _ rfl
      · have t2 : (x == 2) = false := beq_eq_false_iff_ne.mpr h2
        clear h0 h1 h2
        go_wp2
        go_ret
        exact HF.out _ rfl
def RowsB (w : World) (g B n : Nat) (t : List (List Int)) (hs : List Value) (a : Nat) : Prop :=
  B ≤ w.heap.size ∧ ∀ j, j < a → ∃ b1, hs[j]? = some (.slice (some ⟨b1, 0, none⟩) n n) ∧ g < b1 ∧ b1 < B ∧ ∀ c, c < n → w.cell? ⟨b1, c, none⟩ = some (.bool (decide (0 < tat t j c)))
theorem RowsB.grown {w w' : World} {g B n a : Nat} {t : List (List Int)} {hs : List Value} {row : Option Nat} (h : RowsB w g B n t hs a) (hg : w.grownBy w' row) (hr : ∀ k, row = some k → k ≤ g ∨ B ≤ k) : RowsB w' g B n t hs a := by
  refine ⟨Nat.le_trans h.1 hg.size, fun j hj => ?_⟩
  obtain ⟨b1, q1, q2, q3, q4⟩ := h.2 j hj
  refine ⟨b1, q1, q2, q3, fun c hc => ?_⟩
  rw [← q4 c hc]
  exact World.cell?_of_block (hg.block b1 (by have := h.1; omega) (fun e => by rcases hr b1 e.symm with h | h <;> omega))
theorem RowsB.set {w : World} {g B n a : Nat} {t : List (List Int)} {hs : List Value} (h : RowsB w g B n t hs a) (u : Value) : RowsB w g B n t (hs.set a u) a := by
  refine ⟨h.1, fun j hj => ?_⟩
  obtain ⟨b1, q1, q⟩ := h.2 j hj
  exact ⟨b1, by rw [List.getElem?_set_ne (by omega)]; exact q1, q⟩
theorem info_boolsl : (Tryd.prog.info? 119).map (fun i => (i.zero, i.size, i.bytes)) = some (some (.slice none 0 0), 1, 24) := by kernel_rfl
def ConfRet (w : World) (t : List (List Int)) (e : Ending) (w' : World) : Prop := ∃ v', e = .returned v' ∧ ConfR w' w.heap.size v' t ∧ Below w.heap.size w w'

theorem info_intsl : (Tryd.prog.info? 38).map (fun i => (i.zero, i.size, i.bytes)) = some (some (.slice none 0 0), 1, 24) := by kernel_rfl

def tset (t : List (List Int)) (a b : Nat) (x : Int) : List (List Int) := t.set a ((t.getD a []).set b x)
theorem tset_len (t : List (List Int)) (a b : Nat) (x : Int) : (tset t a b x).length = t.length := by simp [tset]
theorem tset_row {t : List (List Int)} {a b : Nat} {x : Int} {i : Nat} (hi : i < t.length) : (tset t a b x).getD i [] = if i = a then (t.getD a []).set b x else t.getD i [] := by
  unfold tset
  by_cases e : i = a
  · subst e; simp [List.getD_eq_getElem?_getD, hi]
  · rw [if_neg e]; simp [List.getD_eq_getElem?_getD, List.getElem?_set_ne (fun h => e h.symm)]
theorem tset_rowlen {t : List (List Int)} {a b : Nat} {x : Int} {i : Nat} (hi : i < t.length) : ((tset t a b x).getD i []).length = (t.getD i []).length := by
  rw [tset_row hi]; split
  · subst i; simp
  · rfl
theorem getD_set {xs : List Int} {b : Nat} {x : Int} {k : Nat} (hb : b < xs.length) : (xs.set b x).getD k 0 = if k = b then x else xs.getD k 0 := by
  by_cases e : k = b
  · subst e; simp [List.getD_eq_getElem?_getD, hb]
  · rw [if_neg e]; simp [List.getD_eq_getElem?_getD, List.getElem?_set_ne (fun h => e h.symm)]
theorem tset_at {t : List (List Int)} {a b : Nat} {x : Int} (hb : b < (t.getD a []).length) {i k : Nat} (hi : i < t.length) : tat (tset t a b x) i k = if i = a ∧ k = b then x else tat t i k := by
  unfold tat
  rw [tset_row hi]
  by_cases e : i = a
  · subst e
    rw [if_pos rfl, getD_set hb]
    by_cases e2 : k = b
    · subst e2; simp
    · simp [e2]
  · simp [e]

theorem validCl_two {t : List (List Int)} (h : validCl t = true) {i k : Nat} (hi : i < t.length) (hk : k < i) {x y : Int} (hx : 1 ≤ x ∧ x ≤ 5) (hy : 1 ≤ y ∧ y ≤ 5) : validCl (tset (tset t i k x) k i y) = true := by
  obtain ⟨h1, h2, h3, h4⟩ := validCl_iff.1 h
  have hrow : ∀ j, j < t.length → (t.getD j []).length = t.length := fun j hj => (rowOk_iff.1 (h3 j hj)).1
  have hlen : (tset (tset t i k x) k i y).length = t.length := by rw [tset_len, tset_len]
  have hat : ∀ a b, a < t.length → b < t.length → tat (tset (tset t i k x) k i y) a b = if a = k ∧ b = i then y else if a = i ∧ b = k then x else tat t a b := by
    intro a b ha hb
    rw [tset_at (by rw [tset_rowlen (by omega), hrow k (by omega)]; omega) (by rw [tset_len]; exact ha), tset_at (by rw [hrow i hi]; omega) ha]
  rw [validCl_iff, hlen]
  refine ⟨h1, h2, fun j hj => ?_, fun a ha b hb => ?_⟩
  · have hl : ((tset (tset t i k x) k i y).getD j []).length = t.length := by
      rw [tset_rowlen (by rw [tset_len]; exact hj), tset_rowlen hj, hrow j hj]
    refine rowOk_iff.2 ⟨hl, fun q hq => ?_⟩
    have := hat j q hj (by omega)
    unfold tat at this
    rw [this]
    have hb := tat_bd h hj (show q < t.length by omega)
    unfold tat at hb
    split
    · omega
    · split
      · omega
      · exact hb
  · have s := symOk_iff.1 (h4 a ha b hb)
    rw [symOk_iff, hat a b ha hb, hat b a hb ha]
    constructor
    · split <;> split <;> (try split) <;> (try split) <;> first | omega | exact s.1
    · intro e; subst e
      rw [if_neg (by omega), if_neg (by omega)]; exact s.2 rfl
/-- The table of noughts. -/
def zt (n : Nat) : List (List Int) := List.replicate n (List.replicate n 0)
theorem zt_len (n : Nat) : (zt n).length = n := by simp [zt]
theorem zt_row {n i : Nat} (hi : i < n) : (zt n).getD i [] = List.replicate n 0 := by simp [zt, List.getD_eq_getElem?_getD, hi]
theorem zt_valid {n : Nat} (h1 : 1 ≤ n) (h8 : n ≤ 8) : validCl (zt n) = true := by
  have hat : ∀ a b, a < n → b < n → tat (zt n) a b = 0 := by
    intro a b ha hb
    unfold tat; rw [zt_row ha]; simp [List.getD_eq_getElem?_getD, hb]
  rw [validCl_iff, zt_len]
  refine ⟨h1, h8, fun i hi => rowOk_iff.2 ⟨by rw [zt_row hi]; simp, fun q hq => ?_⟩, fun a ha b hb => symOk_iff.2 ?_⟩
  · rw [zt_row hi] at hq ⊢
    have : q < n := by simpa using hq
    simp [List.getD_eq_getElem?_getD, this]
  · rw [hat a b ha hb, hat b a hb ha]; exact ⟨Iff.rfl, fun _ => rfl⟩

/-- An owned table with its headers named. -/
def OwnXD (w : World) (lo : Nat) (v : Value) (hs : List Value) (t : List (List Int)) : Prop :=
  Own w lo 38 1 v t.length hs ∧ RowsO w lo hs t t.length ∧ ∀ j, j < t.length → Apart v (hs.getD j .nilFunc)
theorem OwnXD.ss {w : World} {lo : Nat} {v : Value} {hs : List Value} {t : List (List Int)} (h : OwnXD w lo v hs t) : OwnSS w lo v t := ⟨hs, h.1, h.2.1, h.2.2⟩
theorem OwnXD.grown {w w' : World} {lo : Nat} {v : Value} {hs : List Value} {t : List (List Int)} {row : Option Nat} (h : OwnXD w lo v hs t) (hg : w.grownBy w' row) (hr : ∀ q, row = some q → q < lo) : OwnXD w' lo v hs t :=
  ⟨h.1.grown hg (fun q hq => .inl (hr q hq)), h.2.1.grown hg (fun q hq => .inl (hr q hq)), h.2.2⟩
/-- A row that is not empty: where its header lies, where it lies, and what a store leaves. -/
theorem OwnXD.row {w : World} {lo : Nat} {v : Value} {hs : List Value} {t : List (List Int)} (h : OwnXD w lo v hs t) {i : Nat} (hi : i < t.length) (hr : 0 < (t.getD i []).length) :
    ∃ g cap gi ci, v = .slice (some ⟨g, 0, none⟩) t.length cap ∧ hs.getD i .nilFunc = .slice (some ⟨gi, 0, none⟩) (t.getD i []).length ci ∧ t.length ≤ cap ∧ cap ≤ 9223372036854775807 ∧ (t.getD i []).length ≤ ci ∧ ci ≤ 9223372036854775807 ∧
      lo ≤ g ∧ lo ≤ gi ∧ gi < w.heap.size ∧ g < w.heap.size ∧ g ≠ gi ∧ w.cell? ⟨g, i, none⟩ = some (.slice (some ⟨gi, 0, none⟩) (t.getD i []).length ci) ∧ (∀ k, w.frozen? ⟨gi, k, none⟩ = false) ∧ (∀ k, k < (t.getD i []).length → w.cell? ⟨gi, k, none⟩ = some (.int .i64 (tat t i k))) ∧
      ∀ k x, k < (t.getD i []).length → OwnXD (w.setCell ⟨gi, k, none⟩ (.int .i64 x)) lo v hs (tset t i k x) ∧ w.grownBy (w.setCell ⟨gi, k, none⟩ (.int .i64 x)) (some gi) := by
  obtain ⟨hO, hR, hA⟩ := h
  have hlen := hO.len
  obtain ⟨ao, cap, rfl, hcap, hm⟩ := hO.form
  obtain ⟨g, rfl, hg, hgs, hcell, _, _⟩ := hO.parts (by omega)
  have hRi := hR.2.1 i hi
  obtain ⟨ai, ci, hv, hci, hcm⟩ := hRi.form
  rw [hv] at hRi
  obtain ⟨gi, rfl, hgi, hgis, hci2, hfr, hset⟩ := hRi.parts hr
  have hne : g ≠ gi := by
    have := hA i hi g (by rw [wblk]; simp; omega)
    intro e; apply this; rw [hv, wblk, if_neg (by omega), e]
  have hc := hcell i (by rw [hR.1]; exact hi)
  have hgd : hs.getD i .nilFunc = hs[i]'(by rw [hR.1]; exact hi) := by simp [show i < hs.length by rw [hR.1]; exact hi]
  rw [← hgd, hv] at hc
  refine ⟨g, cap, gi, ci, rfl, hv, hcap, hm, hci, hcm, hg, hgi, hgis, hgs, hne, hc, hfr, fun k hk => ?_, fun k x hk => ?_⟩
  · rw [hci2 k (by simpa using hk)]; simp [tat, List.getD_eq_getElem?_getD, show k < (t[i]?.getD []).length from by simpa [List.getD_eq_getElem?_getD] using hk]
  · obtain ⟨q1, q2⟩ := hset k (.int .i64 x)
    refine ⟨⟨?_, ⟨?_, fun j hj => ?_, fun a b ha hb => hR.2.2 a b (by rwa [tset_len] at ha) (by rwa [tset_len] at hb)⟩, fun j hj => hA j (by rwa [tset_len] at hj)⟩, q2⟩
    · rw [tset_len]
      exact hO.grown q2 (fun q hq => .inr (by cases hq; simp [Value.ownBlock]; exact hne))
    · rw [tset_len]; exact hR.1
    · rw [tset_len] at hj
      rw [tset_row hj]
      by_cases e : j = i
      · subst e
        rw [if_pos rfl, hv]
        have := q1
        rw [← List.map_set] at this
        simpa using this
      · rw [if_neg e]
        refine (hR.2.1 j hj).grown_w q2 (fun q hq => .inr ?_)
        cases hq
        have := hR.2.2 i j hi hj (fun h => e h.symm) gi (by rw [hv, wblk, if_neg (by omega)])
        exact this

theorem slice_inj {g g' n n' c c' : Nat} (h : Value.slice (some ⟨g, 0, none⟩) n c = .slice (some ⟨g', 0, none⟩) n' c') : g = g' ∧ c = c' := by
  cases h; exact ⟨rfl, rfl⟩
def DrawnClear (w : World) (hi rb p n : Nat) (e : Ending) (w' : World) : Prop :=
  ∃ v t p', e = .returned v ∧ OwnSS w' w.heap.size v t ∧ validCl t = true ∧ t.length = n ∧ p' ≤ p + 1000 ∧ Rdh hi w' rb p' ∧ w.grownBy w' (some rb)

theorem wblk_le {w : World} {lo : Nat} {e : TypeId} {sz : Nat} {v : Value} {n : Nat} {cs : List Value} (h : Own w lo e sz v n cs) {rb : Nat} (hrb : rb < lo) : ∀ k, wblk v = some k → rb < k := fun k hk => Nat.lt_of_lt_of_le hrb (h.wblk hk).1
set_option maxHeartbeats 8000000 in
theorem randomClear_any {hi : Nat} (w : World) (rb p n : Nat) (hr : Rdh hi w rb p) (hp : p ≤ 1000000) (hn1 : 1 ≤ n) (hn8 : n ≤ 8) :
    Calls Tryd.prog 56 #[.pointer (some ⟨rb, 0, none⟩), .int .i64 n] w (DrawnClear w hi rb p n) := by
  have hrb := hr.lt
  have HINF : Hid ((Tryd.prog.info? 3).map (fun i => (i.zero, i.size, i.bytes)) = some (some (.int .i64 0), 1, 8)) := info_int
  obtain ⟨i0, hinf, hz0, hz1, hz2⟩ := info_parts info_int
  obtain ⟨w0, hw0⟩ : ∃ w0, w0 = w.alloc (.cells #[] 38) := ⟨_, rfl⟩
  have hB0 : Below w.heap.size w w0 := by rw [hw0]; exact (Below.refl _ _).alloc (Nat.le_refl _) _
  have hO0 : Own w0 w.heap.size 38 1 (.slice (some ⟨w.heap.size, 0, none⟩) 0 0) 0 [] := by rw [hw0]; exact Own.made w [] 38 w.heap.size 1 0 rfl (Nat.le_refl _) (by decide)
  have hr0 : Rdh hi w0 rb p := hr.below hB0 hrb
  have hG0 : w.grownBy w0 (some rb) := grownBy_of_below hB0 (Nat.le_refl _) _
  have HW0 := Lib.hid hw0
  clear hw0 hr hB0
  go_enter Tryd.func56, Tryd.ntmps56
  go_wp2_with fail
  rw [← HW0.out]
  clear HW0
  go_loopw [5, 6] (fun ov i wo => ∃ k : Nat, ∃ hs, k ≤ n ∧ i = .int .i64 k ∧ Own wo w.heap.size 38 1 ov k hs ∧ RowsO wo w.heap.size hs (zt n) k ∧ (∀ j, j < k → Apart ov (hs.getD j .nilFunc)) ∧ Rdh hi wo rb p ∧ w.grownBy wo (some rb)) (fun _ i _ => n - (intOf i).toNat)
  case atStart => exact ⟨0, [], Nat.zero_le _, rfl, hO0, RowsO.nil _ _ _, fun j hj => absurd hj (Nat.not_lt_zero _), hr0, hG0⟩
  case round =>
    clear hO0 hr0 hG0
    obtain ⟨k, hs, hk, rfl, hO, hR, hA, hr, hG⟩ := hrel
    have hsz := hG.size
    by_cases hlt : k < n
    · have HR := Lib.hid hR
      have HA := Lib.hid hA
      have HO := Lib.hid hO
      clear hR hA hO
      go_wp2_with (first
        | (at_make; refine wpList_make_full _ rfl _ _ 38 rfl wr.heap.size 3 i0 (.int .i64 0) 1 Tryd.underlying38 hinf hz0 hz1 .i64 .i64 n n n rfl rfl rfl rfl (by rw [hz2]; omega) (by unfold maxLen; omega) (Nat.le_refl _) ?_; intro w1 hown hg1; have hB1 : Below wr.heap.size wr w1 := below_of_grownBy hg1 (Nat.le_refl _) (fun k hk => by cases hk); have hO1 := HO.out.below hB1 (Nat.le_refl _); have hz1' : w.heap.size ≤ w1.heap.size := Nat.le_trans hsz hB1.size)
        | (at_builtin; refine wpList_append_one _ rfl _ _ 66 rfl 38 (.slice none 0 0) 24 Tryd.underlying66 info_intsl rfl w.heap.size _ _ _ rfl hO1 _ _ rfl rfl (by omega) (by omega) hz1' ?_; intro v' w3 hO3 hg3 hk3))
      have hI1 : Own w1 wr.heap.size 3 1 (.slice (some ⟨wr.heap.size, 0, none⟩) n n) n ((List.replicate n 0).map (Value.int .i64)) := by
        have e : (madeCells (Value.int .i64 0).cells (n * 1)).toList = (List.replicate n (0 : Int)).map (Value.int .i64) := by
          rw [Nat.mul_one, List.map_replicate]; exact toList_madeCells_one (.int .i64 0) n
        rw [← e]; exact .inl hown
      have hR1 := HR.out.snoc (u := .slice (some ⟨wr.heap.size, 0, none⟩) n n) hB1 (by rw [zt_row hlt, List.length_replicate]; exact hI1) hsz
      have hA1 : ∀ j, j < k + 1 → Apart u5 ((hs ++ [Value.slice (some ⟨wr.heap.size, 0, none⟩) n n]).getD j .nilFunc) := by
        intro j hj
        by_cases e : j = k
        · subst e
          rw [← HR.out.1, getD_snoc_eq]
          intro q hq hq'
          have := (HO.out.wblk hq).2; have := (hI1.wblk hq').1; omega
        · rw [getD_snoc_lt (by rw [HR.out.1]; omega)]; exact HA.out j (by omega)
      have hR3 := hR1.grown hg3 (fun q hq => .inr (fun j hj e => hA1 j hj q hq e))
      have hA3 : ∀ j, j < k + 1 → Apart v' ((hs ++ [Value.slice (some ⟨wr.heap.size, 0, none⟩) n n]).getD j .nilFunc) := by
        intro j hj q hq hq'
        rcases hk3 q hq with h | h
        · exact hA1 j hj q h hq'
        · have := (hR1.lt hj hq').2; omega
      have hr3 := (hr.below hB1 hr.lt).grown hg3 (wblk_le hO1 hrb)
      have hG3 := grownBy_trans (grownBy_trans hG (grownBy_of_below hB1 (Nat.le_refl _) (some rb)) (fun x hx => .inl hx)) hg3 (fun x hx => .inr (hO1.wblk hx).1)
      clear hR1 hA1 hI1 hown hg1 hB1 hO1 hg3 hk3 hr hG
      go_wp2
      go_roundw
      case rel => exact ⟨k + 1, _, by omega, by go_num, hO3, hR3, hA3, hr3, hG3⟩
      case measure => simp [intOf]; omega
    · obtain rfl : n = k := by omega
      have hX : ∃ hs, OwnXD wr w.heap.size u5 hs (zt n) := ⟨hs, by unfold OwnXD; rw [zt_len]; exact ⟨hO, hR, hA⟩⟩
      have hvz := zt_valid hn1 hn8
      have HX := Lib.hid hX
      have HVZ := Lib.hid hvz
      obtain ⟨ao, cap, rfl, hcap, hm⟩ := hO.form
      obtain ⟨g, rfl, hgl, _⟩ := hO.parts (by omega)
      clear hO hR hA hX hvz
      go_wp2_with fail
      go_loopw [7] (fun i wo => ∃ a : Nat, ∃ hs t p', a ≤ n ∧ i = .int .i64 a ∧ OwnXD wo w.heap.size (.slice (some ⟨g, 0, none⟩) n cap) hs t ∧ Hid (validCl t = true ∧ t.length = n) ∧ p' ≤ p + 100 * a ∧ Rdh hi wo rb p' ∧ w.grownBy wo (some rb)) (fun i _ => n - (intOf i).toNat)
      case atStart => exact ⟨0, HX.out.choose, zt n, p, Nat.zero_le _, rfl, HX.out.choose_spec, ⟨HVZ.out, zt_len n⟩, by omega, hr, hG⟩
      case round =>
        clear hr hG HX HVZ
        obtain ⟨a, hs, t, p', ha, rfl, hX, HV, hp', hr, hG⟩ := hrel
        by_cases hlta : a < n
        · have HX := Lib.hid hX
          have HG := Lib.hid hG
          have HR := Lib.hid hr
          clear hX hG hr
          go_wp2_with fail
          go_loopw [8] (fun i wi => ∃ c : Nat, ∃ hs t p'', c ≤ a ∧ i = .int .i64 c ∧ OwnXD wi w.heap.size (.slice (some ⟨g, 0, none⟩) n cap) hs t ∧ Hid (validCl t = true ∧ t.length = n) ∧ p'' ≤ p' + 3 * c ∧ Rdh hi wi rb p'' ∧ w.grownBy wi (some rb)) (fun i _ => a - (intOf i).toNat)
          case atStart => exact ⟨0, hs, t, p', Nat.zero_le _, rfl, HX.out, HV, by omega, HR.out, HG.out⟩
          case round =>
            clear HX HG HR HV
            obtain ⟨c, hs, t, p2, hc, rfl, hX, HV, hp2, hr, hG⟩ := hrel
            by_cases hltc : c < a
            · have HX := Lib.hid hX
              clear hX
              go_wp2_with fail
              go_at_call 39
              refine (pick_h _ _ _ 2 hr (by omega) (by omega)).mono ?_; rintro e w1 ⟨x, rfl, _, hr1, hg1⟩
              have hX1 := HX.out.grown hg1 (fun q hq => by cases hq; exact hrb)
              have hG1 := grownBy_trans hG hg1 (fun x hx => .inl hx)
              clear HX hg1 hr hG
              by_cases hx0 : x = 0
              · have d0 : (x == 0) = true := by rw [hx0]; rfl
                clear hx0
                have hrow : ∀ j, j < n → (t.getD j []).length = n := fun j hj => by
                  have := (rowOk_iff.1 ((validCl_iff.1 HV.out.1).2.2.1 j (by rw [HV.out.2]; exact hj))).1
                  rw [this, HV.out.2]
                have HROW := Lib.hid hrow
                obtain ⟨g', cap', gi, ci, ev, eh, _, _, hci, hcm, hgl', hgil, hgis, hgs, hne, s1, hfr, s2, hset⟩ := hX1.row (i := a) (by rw [HV.out.2]; exact hlta) (by rw [hrow a hlta]; omega)
                obtain ⟨rfl, rfl⟩ := slice_inj ev
                clear ev
                rw [hrow a hlta] at eh s1 hci hset
                have f2 := hfr c
                have s2c := s2 c (by rw [hrow a hlta]; omega)
                have HX1 := Lib.hid hX1
                have HG1 := Lib.hid hG1
                have hv1 := hset c
                clear hfr s2 hset hrow
                have HSET := Lib.hid hv1
                clear hv1
                have a0 : (0 : Int) ≤ (a : Int) := by omega
                have a1 : (a : Int) < (n : Int) := by omega
                have c0 : (0 : Int) ≤ (c : Int) := by omega
                have c1 : (c : Int) < (n : Int) := by omega
                have HS2 := Lib.hid s2c
                have HF2 := Lib.hid f2
                have HEH := Lib.hid eh
                clear s2c f2 eh
                go_wp2_with fail
                go_region_held3 (fun w' => w'.cell? ⟨g, a, none⟩ = some (.slice (some ⟨gi, 0, none⟩) n ci))
                  (first | exact HS5.out | exact (World.cell?_setCell_far _ _ _ _ (Ne.symm hne)).trans HS5.out | assumption | go_keep)
                  ((go_at_call 39; refine (pick_h _ _ _ 5 (hr1.below (Below.drew (Below.refl w1.heap.size w1)) hr1.lt) (by omega) (by omega)).mono ?_; rintro e w5 ⟨x, rfl, ⟨hx0, hx1, hx2⟩, hr5, hg5⟩; have hx3 := hx1 (by omega); clear hx1; have wr1 : IntKind.i64.wrap (1 + x) = 1 + x := IntWalk.i64_in _ (by omega); have hG15 : w1.grownBy w5 (some rb) := grownBy_trans (grownBy_of_below (Below.drew (Below.refl w1.heap.size w1)) (Nat.le_refl _) (some rb)) hg5 (fun x hx => .inl hx); have hX5 := HX1.out.grown hG15 (fun q hq => by cases hq; exact hrb); obtain ⟨g', cap', gi', ci', ev, eh, _, _, _, _, _, _, _, _, _, s5, hfr, s52, hset5⟩ := hX5.row (i := a) (by rw [HV.out.2]; exact hlta) (by rw [HROW.out a hlta]; omega); obtain ⟨rfl, rfl⟩ := slice_inj ev; clear ev; rw [HROW.out a hlta] at eh s5 hset5; rw [HEH.out] at eh; cases eh; have HS5 := Lib.hid s5; have f5 := hfr c; have t5 := s52 c (by rw [HROW.out a hlta]; omega); have HSET5 := Lib.hid (hset5 c); have HS52 := Lib.hid s52; clear hfr s52 hset5 s5))
                obtain ⟨hX6, hg6⟩ := HSET5.out (1 + x) (by omega)
                have HXB := Lib.hid (show 1 ≤ 1 + x ∧ 1 + x ≤ 5 by omega)
                have hr6 := hr5.grown hg6 (fun q hq => by cases hq; omega)
                have hG6 := grownBy_trans (grownBy_trans HG1.out hG15 (fun x hx => .inl hx)) hg6 (fun q hq => .inr (by cases hq; exact hgil))
                obtain ⟨w6, hw6⟩ : ∃ w6, w6 = w5.setCell ⟨gi, c, none⟩ (.int .i64 (1 + x)) := ⟨_, rfl⟩
                rw [← hw6] at hX6 hr6 hG6 ⊢
                clear hw6 hg6 hX5 hG15 hg5 hr5 f5 t5 HSET5 HS52 HS5 wr1 HX1 HG1 HS2 HF2 HEH hr1 hne hgil hgis
                obtain ⟨t1, ht1⟩ : ∃ t1, t1 = tset t a c (1 + x) := ⟨_, rfl⟩
                rw [← ht1] at hX6
                have HL1 : Hid (t1.length = n) := by unfold Hid; rw [ht1, tset_len]; exact HV.out.2
                have HROW1 : Hid (∀ j, j < n → (t1.getD j []).length = n) := fun j hj => by rw [ht1, tset_rowlen (by rw [HV.out.2]; exact hj)]; exact HROW.out j hj
                have HT1 := Lib.hid ht1
                clear ht1
                obtain ⟨g', cap', gi, ci, ev, eh, _, _, hci, hcm, _, hgil, hgis, _, hne, s1, _, _, _⟩ := hX6.row (i := c) (by rw [HL1.out]; omega) (by rw [HROW1.out c (by omega)]; omega)
                obtain ⟨rfl, rfl⟩ := slice_inj ev
                clear ev
                rw [HROW1.out c (by omega)] at eh s1 hci
                have HX1 := Lib.hid hX6
                have HG1 := Lib.hid hG6
                have HEH := Lib.hid eh
                clear eh hX6 hG6
                go_wp2_with fail
                go_region_held3 (fun w' => w'.cell? ⟨g, c, none⟩ = some (.slice (some ⟨gi, 0, none⟩) n ci))
                  (first | exact HS5.out | exact (World.cell?_setCell_far _ _ _ _ (Ne.symm hne)).trans HS5.out | assumption | go_keep)
                  ((go_at_call 39; refine (pick_h _ _ _ 5 (hr6.below (Below.drew (Below.refl w6.heap.size w6)) hr6.lt) (by omega) (by omega)).mono ?_; rintro e w7 ⟨y, rfl, ⟨hy0, hy1, hy2⟩, hr7, hg7⟩; have hy3 := hy1 (by omega); clear hy1; have wr1 : IntKind.i64.wrap (1 + y) = 1 + y := IntWalk.i64_in _ (by omega); have hG67 : w6.grownBy w7 (some rb) := grownBy_trans (grownBy_of_below (Below.drew (Below.refl w6.heap.size w6)) (Nat.le_refl _) (some rb)) hg7 (fun x hx => .inl hx); have hX7 := HX1.out.grown hG67 (fun q hq => by cases hq; exact hrb); obtain ⟨g', cap', gi', ci', ev, eh, _, _, _, _, _, _, _, _, _, s5, hfr, s52, hset5⟩ := hX7.row (i := c) (by rw [HL1.out]; omega) (by rw [HROW1.out c (by omega)]; omega); obtain ⟨rfl, rfl⟩ := slice_inj ev; clear ev; rw [HROW1.out c (by omega)] at eh s5 hset5; rw [HEH.out] at eh; cases eh; have HS5 := Lib.hid s5; have f5 := hfr a; have t5 := s52 a (by rw [HROW1.out c (by omega)]; omega); have HSET5 := Lib.hid (hset5 a); clear hfr s52 hset5 s5))
                obtain ⟨hX8, hg8⟩ := HSET5.out (1 + y) (by omega)
                have hr8 := hr7.grown hg8 (fun q hq => by cases hq; omega)
                have hG8 := grownBy_trans (grownBy_trans HG1.out hG67 (fun x hx => .inl hx)) hg8 (fun q hq => .inr (by cases hq; exact hgil))
                have HV8 : Hid (validCl (tset t1 c a (1 + y)) = true ∧ (tset t1 c a (1 + y)).length = n) := by
                  refine ⟨?_, by rw [tset_len]; exact HL1.out⟩
                  rw [HT1.out]
                  exact validCl_two HV.out.1 (by rw [HV.out.2]; exact hlta) hltc HXB.out (by omega)
                clear hg8 hX7 hG67 hg7 hr7 f5 t5 HSET5 HS5 wr1 HX1 HG1 HEH hr6 hne hgil hgis
                go_wp2
                go_roundw
                case rel => exact ⟨c + 1, hs, _, _, by omega, by go_num, hX8, HV8, by omega, hr8, hG8⟩
                case measure => simp [intOf]; omega
              · have d0 : (x == 0) = false := beq_eq_false_iff_ne.mpr hx0
                clear hx0
                go_wp2_with fail
                go_roundw
                case rel => exact ⟨c + 1, hs, t, _, by omega, by go_num, hX1, HV, by omega, hr1, hG1⟩
                case measure => simp [intOf]; omega
            · obtain rfl : c = a := by omega
              go_wp2_with fail
              go_roundw
              case rel => exact ⟨c + 1, hs, t, _, by omega, by go_num, hX, HV, by omega, hr, hG⟩
              case measure => simp [intOf]; omega
        · have HF : Hid (OwnSS wr w.heap.size (.slice (some ⟨g, 0, none⟩) n cap) t) := hX.ss
          clear hX
          go_wp2_with fail
          go_ret
          exact ⟨_, t, p', rfl, HF.out, HV.out.1, HV.out.2, by omega, hr, hG⟩
theorem info_bool2 : (Tryd.prog.info? 4).map (fun i => (i.zero, i.size, i.bytes)) = some (some (.bool false), 1, 1) := by kernel_rfl
/-- The first k rows of a table of conflicts: each in a block of its own. -/
def RowsC (w : World) (lo : Nat) (v : Value) (t : List (List Int)) (hs : List Value) (k : Nat) : Prop :=
  ∀ j, j < k → ∃ b1 c1, hs[j]? = some (.slice (some ⟨b1, 0, none⟩) t.length c1) ∧ t.length ≤ c1 ∧ c1 ≤ 9223372036854775807 ∧ lo ≤ b1 ∧ b1 < w.heap.size ∧ wblk v ≠ some b1 ∧ ∀ c, c < t.length → w.cell? ⟨b1, c, none⟩ = some (.bool (decide (0 < tat t j c)))
theorem RowsC.grown {w w' : World} {lo k : Nat} {v v' : Value} {t : List (List Int)} {hs : List Value} {row : Option Nat} (h : RowsC w lo v t hs k) (hg : w.grownBy w' row)
    (hr : ∀ q, row = some q → wblk v = some q ∨ w.heap.size ≤ q) (hv : ∀ q, wblk v' = some q → wblk v = some q ∨ w.heap.size ≤ q) : RowsC w' lo v' t hs k := by
  intro j hj
  obtain ⟨b1, c1, q1, q2, q3, q4, q5, q6, q7⟩ := h j hj
  refine ⟨b1, c1, q1, q2, q3, q4, Nat.lt_of_lt_of_le q5 hg.size, fun e => ?_, fun c hc => ?_⟩
  · rcases hv b1 e with h | h
    · exact q6 h
    · omega
  · rw [← q7 c hc]
    refine World.cell?_of_block (hg.block b1 q5 (fun e => ?_))
    rcases hr b1 e.symm with h | h
    · exact q6 h
    · omega
theorem RowsC.below {w w' : World} {lo k B : Nat} {v : Value} {t : List (List Int)} {hs : List Value} (h : RowsC w lo v t hs k) (hb : Below B w w') (hB : w.heap.size ≤ B) : RowsC w' lo v t hs k :=
  h.grown (row := none) (v' := v) ⟨hb.os, hb.tape, hb.output, hb.size, fun k hk _ => hb.block k (by omega)⟩ (fun _ e => by cases e) (fun _ e => .inl e)
theorem RowsC.snoc {w : World} {lo k b1 c1 : Nat} {v : Value} {t : List (List Int)} {hs : List Value} (h : RowsC w lo v t hs k) (hl : hs.length = k) (q2 : t.length ≤ c1) (q3 : c1 ≤ 9223372036854775807) (q4 : lo ≤ b1) (q5 : b1 < w.heap.size) (q6 : wblk v ≠ some b1)
    (q7 : ∀ c, c < t.length → w.cell? ⟨b1, c, none⟩ = some (.bool (decide (0 < tat t k c)))) : RowsC w lo v t (hs ++ [.slice (some ⟨b1, 0, none⟩) t.length c1]) (k + 1) := by
  intro j hj
  by_cases e : j = k
  · subst e
    refine ⟨b1, c1, by rw [List.getElem?_append_right (by omega), hl]; simp, q2, q3, q4, q5, q6, q7⟩
  · obtain ⟨b2, c2, p1, p⟩ := h j (by omega)
    exact ⟨b2, c2, by rw [List.getElem?_append_left (by omega)]; exact p1, p⟩
def rowBs (t : List (List Int)) (a c : Nat) : List Value := (List.range c).map fun j => .bool (decide (0 < tat t a j))
theorem rowBs_succ (t : List (List Int)) (a c : Nat) : rowBs t a (c + 1) = rowBs t a c ++ [.bool (decide (0 < tat t a c))] := by unfold rowBs; rw [List.range_succ, List.map_append]; rfl
theorem rowBs_len (t : List (List Int)) (a c : Nat) : (rowBs t a c).length = c := by simp [rowBs]

theorem spec_validClearance_H (w : World) (lo : Nat) (v : Value) (t : List (List Int)) (r : Bool) (hv : IntSS w lo v t) (h : validCl t = r) :
    Calls Tryd.prog 68 #[v] w fun e w' => e = .returned (.bool r) ∧ Below w.heap.size w w' := by
  rw [← h]; exact spec_validClearance w lo v t hv

set_option maxHeartbeats 8000000 in
theorem spec_conflictsOf (w : World) (lo : Nat) (v : Value) (t : List (List Int)) (hv : IntSS w lo v t) (hval : validCl t = true) :
    Calls Tryd.prog 76 #[v] w (ConfRet w t) := by
  obtain ⟨ao, cap, rfl, hcap, hm⟩ := hv.form
  obtain ⟨hn1, hn2, hrow, hsym⟩ := validCl_iff.1 hval
  obtain ⟨b, off, rfl, _, hb, hc⟩ := hv.spot (by omega)
  have HC := Lib.hid hc
  have HROW := Lib.hid hrow
  have HV := Lib.hid hv
  have HVAL := Lib.hid hval
  clear hc hrow hsym hv hval
  obtain ⟨w0, hw0⟩ : ∃ w0, w0 = w.alloc (.cells #[] 119) := ⟨_, rfl⟩
  have hB0 : Below w.heap.size w w0 := by rw [hw0]; exact (Below.refl _ _).alloc (Nat.le_refl _) _
  have hO0 : Own w0 w.heap.size 119 1 (.slice (some ⟨w.heap.size, 0, none⟩) 0 0) 0 [] := by rw [hw0]; exact Own.made w [] 119 w.heap.size 1 0 rfl (Nat.le_refl _) (by decide)
  go_enter Tryd.func76, Tryd.ntmps76
  go_wp2_with fail
  rw [← hw0]
  clear hw0
  refine (spec_validClearance_H _ lo _ t true (HV.out.below hB0 (Nat.le_refl _)) HVAL.out).mono ?_; rintro e w1 ⟨rfl, hB1⟩
  have hO1 := hO0.below hB1 (Nat.le_refl _)
  have hT1 := hB0.trans (hB1.mono hB0.size)
  clear hO0 hB0 hB1
  go_wp2_with fail
  go_loopw [3, 4] (fun ov i wo => ∃ a : Nat, ∃ hs, a ≤ t.length ∧ i = .int .i64 a ∧ Own wo w.heap.size 119 1 ov a hs ∧ RowsC wo w.heap.size ov t hs a ∧ Below w.heap.size w wo) (fun _ i _ => t.length - (intOf i).toNat)
  case atStart => exact ⟨0, [], Nat.zero_le _, rfl, hO1, fun j hj => by omega, hT1⟩
  case round =>
    clear hO1 hT1
    obtain ⟨wo, rfl⟩ : ∃ wo : World, wo = wr := ⟨_, rfl⟩
    obtain ⟨a, hs, ha, rfl, hO, hR, hB⟩ := hrel
    by_cases hlt : a < t.length
    · obtain ⟨ai, ci, h1w, hIw⟩ := HC.out a hlt
      have hrl := (rowOk_iff.1 (HROW.out a hlt)).1
      rw [hrl] at h1w hIw
      obtain ⟨b1, off1, rfl, _, hb1, hx⟩ := hIw.spot 0 (by omega)
      obtain ⟨_, hc1, hc2⟩ := IntSS.rowlen hIw
      have HX : Hid (∀ c, c < t.length → w.cell? ⟨b1, off1 + c, none⟩ = some (.int .i64 (tat t a c))) := fun c hc => hx c (by omega)
      have hsz := hB.size
      have hlen := hO.len
      have HLEN : Hid (hs.length = a) := by unfold Hid; omega
      have hI0 : Own (wo.alloc (.cells #[] 4)) wo.heap.size 4 1 (.slice (some ⟨wo.heap.size, 0, none⟩) 0 0) 0 (rowBs t a 0) := Own.made wo [] 4 wo.heap.size 1 0 rfl (Nat.le_refl _) (by decide)
      have hBi : Below wo.heap.size wo (wo.alloc (.cells #[] 4)) := (Below.refl _ _).alloc (Nat.le_refl _) _
      obtain ⟨w2, hw2⟩ : ∃ w2, w2 = wo.alloc (.cells #[] 4) := ⟨_, rfl⟩
      rw [← hw2] at hI0 hBi
      have HO := Lib.hid hO
      have HR := Lib.hid hR
      clear hx hIw hlen hO hR
      go_wp2_with fail
      rw [← hw2]
      clear hw2
      go_loopw [5, 6] (fun rv i wi => ∃ c : Nat, c ≤ t.length ∧ i = .int .i64 c ∧ Own wi wo.heap.size 4 1 rv c (rowBs t a c) ∧ Below wo.heap.size wo wi) (fun _ i _ => t.length - (intOf i).toNat)
      case atStart => exact ⟨0, Nat.zero_le _, rfl, hI0, hBi⟩
      case round =>
        clear hI0 hBi
        obtain ⟨c, hc, rfl, hI, hBi⟩ := hrel
        have hszi := hBi.size
        by_cases hltc : c < t.length
        · have hT := hB.trans (hBi.mono hB.size)
          have q1 := (hT.cell (p := ⟨b, off + a, none⟩) hb).trans h1w
          have q2 := (hT.cell (p := ⟨b1, off1 + c, none⟩) hb1).trans (HX.out c hltc)
          have hsu := rowBs_succ t a c
          obtain ⟨x, hx⟩ : ∃ x, x = tat t a c := ⟨_, rfl⟩
          rw [← hx] at q2 hsu
          have HSU := Lib.hid hsu
          clear hx hsu hT
          go_wp2_with (at_builtin; refine wpList_append_one _ rfl _ _ 119 rfl 4 (.bool false) 1 Tryd.underlying119 info_bool2 rfl wo.heap.size _ _ _ rfl hI _ _ rfl rfl (by omega) (by omega) hszi ?_; intro v' w3 hI3 hg3 _)
          have hB3 := hBi.trans (below_of_grownBy hg3 hszi (fun q hq => (hI.wblk hq).1))
          rw [← HSU.out] at hI3
          clear hI hg3 hBi
          go_roundw
          case rel => exact ⟨c + 1, by omega, by go_num, hI3, hB3⟩
          case measure => simp [intOf]; omega
        · obtain rfl : c = t.length := by omega
          have hO2 := HO.out.below hBi (Nat.le_refl _)
          have hR2 := HR.out.below hBi (Nat.le_refl _)
          have hB2 := hB.trans (hBi.mono hB.size)
          have hsz2 := hB2.size
          obtain ⟨ao3, cap3, rfl, hcap3, hm3⟩ := hI.form
          obtain ⟨g, rfl, hgl, hgs, hcell, _, _⟩ := hI.parts (by omega)
          have HCELL : Hid (∀ c, c < t.length → wr.cell? ⟨g, c, none⟩ = some (.bool (decide (0 < tat t a c)))) := fun c hc => by
            rw [hcell c (by rw [rowBs_len]; omega)]; simp [rowBs]
          have hne : ∀ q, wblk u3 = some q → q < wo.heap.size := fun q hq => (HO.out.wblk hq).2
          have HNE := Lib.hid hne
          clear hcell hne
          go_wp2_with (at_builtin; refine wpList_append_one _ rfl _ _ 104 rfl 119 (.slice none 0 0) 24 Tryd.underlying104 info_boolsl rfl w.heap.size _ _ _ rfl hO2 _ _ rfl rfl (by omega) (by omega) hsz2 ?_; intro v' w3 hO3 hg3 hk3)
          have hB3 := hB2.trans (below_of_grownBy hg3 hsz2 (fun q hq => (hO2.wblk hq).1))
          have hR3 := hR2.grown (v' := v') hg3 (fun q hq => .inl hq) hk3
          have hR4 := hR3.snoc HLEN.out hcap3 hm3 (by omega) (Nat.lt_of_lt_of_le hgs hg3.size) (fun e => by
            rcases hk3 g e with h | h
            · have := HNE.out g h; omega
            · omega) (fun c hc => by
            rw [← HCELL.out c hc]
            exact World.cell?_of_block (hg3.block g hgs (fun e => by have := HNE.out g e.symm; omega)))
          clear hR3 hR2 hO2 hg3 hk3 hI hBi
          go_roundw
          case rel => exact ⟨a + 1, _, by omega, by go_num, hO3, hR4, hB3⟩
          case measure => simp [intOf]; omega
    · obtain rfl : a = t.length := by omega
      have hlen := hO.len
      obtain ⟨ao3, cap3, rfl, hcap3, hm3⟩ := hO.form
      obtain ⟨g, rfl, hgl, hgs, hcell, _, _⟩ := hO.parts (by omega)
      have hF : Hid (ConfR wo w.heap.size (.slice (some ⟨g, 0, none⟩) t.length cap3) t) := by
        refine ⟨g, 0, cap3, rfl, hcap3, hm3, hgl, hgs, fun j hj => ?_⟩
        obtain ⟨b1, c1, q1, q2, q3, q4, q5, q6, q7⟩ := hR j hj
        obtain ⟨hl, he⟩ := List.getElem?_eq_some_iff.1 q1
        refine ⟨b1, 0, c1, by rw [Nat.zero_add, hcell j hl, he], q2, q3, q4, q5, fun c hc => by rw [Nat.zero_add]; exact q7 c hc⟩
      clear hO hR hcell
      go_wp2_with fail
      go_ret
      exact ⟨_, rfl, hF.out, hB⟩

set_option maxHeartbeats 4000000 in
theorem spec_clear (w : World) (lo lo' : Nat) (vc vp : Value) (t : List (List Int)) (ph : List Int) (hc : ConfR w lo vc t) (hp : Ints w lo' vp ph) (hin : ∀ i, i < ph.length → 0 ≤ ph.getD i 0 ∧ ph.getD i 0 < t.length) :
    Calls Tryd.prog 77 #[vc, vp] w fun e w' => e = .returned (.bool (apartB t ph)) ∧ Below w.heap.size w w' := by
  obtain ⟨ao, cap, rfl, hcap, hm⟩ := hp.form
  obtain ⟨b, off, capc, rfl, hcc, hcm, _, hb, hcx⟩ := hc
  have HC := Lib.hid hcx
  have HIN := Lib.hid hin
  clear hcx hin
  go_enter Tryd.func77, Tryd.ntmps77
  go_wp2_with fail
  go_loopw [5] (fun i wo => ∃ k : Nat, k ≤ ph.length ∧ i = .int .i64 k ∧ (∀ i', i' < k → ∀ j, j < i' → ¬ 0 < tat t (ph.getD i' 0).toNat (ph.getD j 0).toNat) ∧ Below w.heap.size w wo) (fun i _ => ph.length - (intOf i).toNat)
  case atStart => exact ⟨0, Nat.zero_le _, rfl, fun j hj => by omega, Below.refl _ _⟩
  case round =>
    obtain ⟨k, hk, rfl, hall, hB⟩ := hrel
    have HA := Lib.hid hall
    clear hall
    by_cases hlt : k < ph.length
    · obtain ⟨bp, op, rfl, _, hbp, hx⟩ := hp.spot 0 (by omega)
      have HX := Lib.hid hx
      have hxi := HIN.out k hlt
      have hxw := hx k hlt
      obtain ⟨x, hxx⟩ : ∃ x, x = ph.getD k 0 := ⟨_, rfl⟩
      rw [← hxx] at hxi hxw
      have HXX := Lib.hid hxx
      obtain ⟨A, rfl⟩ := Int.eq_ofNat_of_zero_le hxi.1
      have hA : A < t.length := by omega
      obtain ⟨b1, off1, c1, h1, q1, q2, _, hb1, hx1⟩ := HC.out A hA
      have HX1 := Lib.hid hx1
      have HB := Lib.hid hB
      clear hx hxx hx1 hxi hB
      go_wp2_with fail
      go_loopw [6] (fun i wi => ∃ j : Nat, j ≤ k ∧ i = .int .i64 j ∧ (∀ j', j' < j → ¬ 0 < tat t A (ph.getD j' 0).toNat) ∧ Below w.heap.size w wi) (fun i _ => k - (intOf i).toNat)
      case atStart => exact ⟨0, Nat.zero_le _, rfl, fun j hj => by omega, HB.out⟩
      case round =>
        clear HB
        obtain ⟨j, hj, rfl, hall, hB⟩ := hrel
        have HJ := Lib.hid hall
        clear hall
        by_cases hjk : j < k
        · have hyi := HIN.out j (by omega)
          have hyw := (hB.cell (p := ⟨bp, op + j, none⟩) hbp).trans (HX.out j (by omega))
          have hxw2 := (hB.cell (p := ⟨bp, op + k, none⟩) hbp).trans hxw
          obtain ⟨y, hyy⟩ : ∃ y, y = ph.getD j 0 := ⟨_, rfl⟩
          rw [← hyy] at hyi hyw
          have HYY := Lib.hid hyy
          obtain ⟨Y, rfl⟩ := Int.eq_ofNat_of_zero_le hyi.1
          have hY : Y < t.length := by omega
          have s1 := (hB.cell (p := ⟨b, off + A, none⟩) hb).trans h1
          have s2 := (hB.cell (p := ⟨b1, off1 + Y, none⟩) hb1).trans (HX1.out Y hY)
          have a0 : (0 : Int) ≤ (A : Int) := by omega
          have a1 : (A : Int) < (t.length : Int) := by omega
          have y0 : (0 : Int) ≤ (Y : Int) := by omega
          have y1 : (Y : Int) < (t.length : Int) := by omega
          have j0 : (0 : Int) ≤ (j : Int) := by omega
          have j1 : (j : Int) < (ph.length : Int) := by omega
          have k0 : (0 : Int) ≤ (k : Int) := by omega
          have k1 : (k : Int) < (ph.length : Int) := by omega
          clear hyy hyi
          by_cases hcf : 0 < tat t A Y
          · have d1 : decide (0 < tat t A Y) = true := decide_eq_true hcf
            rw [d1] at s2
            have HN : Hid (apartB t ph = false) := by
              unfold Hid; rw [Bool.eq_false_iff]; intro h
              have := (apartB_iff.1 h) k hlt j hjk
              rw [← HXX.out, ← HYY.out] at this
              exact this hcf
            clear hcf d1
            go_wp2_with fail
            go_quiet (fail)
            go_wp2
            go_ret
            exact ⟨ret_B HN, below_drewN hB _⟩
          · have d1 : decide (0 < tat t A Y) = false := decide_eq_false hcf
            rw [d1] at s2
            have HY : Hid (¬ 0 < tat t A (ph.getD j 0).toNat) := by unfold Hid; rw [← HYY.out]; exact hcf
            clear hcf d1
            go_wp2_with fail
            go_quiet (fail)
            go_wp2
            go_roundw
            case rel => exact ⟨j + 1, by omega, by go_num, fun j' hj' => by
              by_cases h : j' = j
              · subst h; have := HY.out; omega
              · have := HJ.out j' (by omega); omega, below_drewN hB _⟩
            case measure => simp [intOf]; omega
        · have HK : Hid (∀ j', j' < k → ¬ 0 < tat t (ph.getD k 0).toNat (ph.getD j' 0).toNat) := fun j' hj' => by
            rw [← HXX.out]; exact HJ.out j' (by omega)
          clear HJ
          go_wp2_with fail
          go_roundw
          case rel => exact ⟨k + 1, by omega, by go_num, fun i' hi' j' hj' => by
            by_cases h : i' = k
            · subst h; exact HK.out j' hj'
            · have q := HA.out i' (by omega) j' hj'; omega, hB⟩
          case measure => simp [intOf]; omega
    · have HN : Hid (apartB t ph = true) := apartB_iff.2 (fun i hi k' hk' => HA.out i (by omega) k' hk')
      go_wp2_with fail
      go_ret
      exact ⟨ret_B HN, hB⟩

def SortRet (w : World) (xs : List Int) (e : Ending) (w' : World) : Prop := ∃ v', ∃ ys : List Int, e = .returned v' ∧ Own w' w.heap.size 3 1 v' ys.length (ys.map (.int .i64)) ∧ ys.length = xs.length ∧ (∀ y ∈ ys, y ∈ xs) ∧ Below w.heap.size w w'
theorem getD_in {xs : List Int} {k : Nat} (h : k < xs.length) : xs.getD k 0 ∈ xs := by simp [h]
theorem swap_in {ys xs : List Int} (h : ∀ y ∈ ys, y ∈ xs) {a b : Nat} (ha : a < ys.length) (hb : b < ys.length) : ∀ y ∈ (ys.set a (ys.getD b 0)).set b (ys.getD a 0), y ∈ xs := by
  intro y hy
  rcases List.mem_or_eq_of_mem_set hy with h1 | h1
  · rcases List.mem_or_eq_of_mem_set h1 with h2 | h2
    · exact h y h2
    · rw [h2]; exact h _ (getD_in hb)
  · rw [h1]; exact h _ (getD_in ha)

set_option maxHeartbeats 4000000 in
theorem sorted_any (w : World) (v : Value) (xs : List Int) (hv : Ints w 0 v xs) (hn : xs.length ≤ 1000) :
    Calls Tryd.prog 79 #[v] w (SortRet w xs) := by
  obtain ⟨ao, cap, rfl, hcap, hm⟩ := hv.form
  go_enter Tryd.func79, Tryd.ntmps79
  go_wp2_with fail
  go_at_call 78
  refine (copyInts_any _ _ xs hv (by omega)).mono ?_; rintro e w1 ⟨v1, rfl, hO1, hB1⟩
  obtain ⟨a1, c1, rfl, hc1, hm1⟩ := hO1.form
  obtain ⟨n, hnn⟩ : ∃ n, n = xs.length := ⟨_, rfl⟩
  rw [← hnn] at hO1 hc1 hn ⊢
  have HN := Lib.hid hnn
  clear hv hcap hm hnn
  go_wp2_with fail
  go_loopw [4] (fun i wo => ∃ k : Nat, ∃ ys : List Int, 1 ≤ k ∧ k ≤ n + 1 ∧ i = .int .i64 k ∧ Own wo w.heap.size 3 1 (.slice a1 n c1) n (ys.map (.int .i64)) ∧ Hid (ys.length = n ∧ ∀ y ∈ ys, y ∈ xs) ∧ Below w.heap.size w wo) (fun i _ => n + 1 - (intOf i).toNat)
  case atStart => exact ⟨1, xs, Nat.le_refl _, by omega, rfl, hO1, ⟨HN.out.symm, fun y hy => hy⟩, hB1⟩
  case round =>
    clear hO1 hB1
    obtain ⟨k, ys, hk1, hk2, rfl, hO, HY, hB⟩ := hrel
    by_cases hlt : k < n
    · have HO := Lib.hid hO
      have HB := Lib.hid hB
      clear hO hB
      go_wp2_with fail
      go_loopw [5] (fun i wi => ∃ j : Nat, ∃ ys : List Int, j ≤ k ∧ i = .int .i64 j ∧ Own wi w.heap.size 3 1 (.slice a1 n c1) n (ys.map (.int .i64)) ∧ Hid (ys.length = n ∧ ∀ y ∈ ys, y ∈ xs) ∧ Below w.heap.size w wi) (fun i _ => (intOf i).toNat)
      case atStart => exact ⟨k, ys, Nat.le_refl _, rfl, HO.out, HY, HB.out⟩
      case round =>
        clear HO HY HB
        obtain ⟨j, ys, hj, rfl, hO, HY, hB⟩ := hrel
        by_cases hj0 : 0 < j
        · have hlen := hO.len
          have hyl := HY.out.1
          obtain ⟨g, rfl, hgl, hgs, hcell, hfr, _⟩ := hO.parts (by omega)
          have q1 := hcell j (by simp; omega)
          have q2 := hcell (j - 1) (by simp; omega)
          rw [List.getElem_map] at q1 q2
          have e1 : ys[j]'(by omega) = ys.getD j 0 := by simp [show j < ys.length by omega]
          have e2 : ys[j - 1]'(by omega) = ys.getD (j - 1) 0 := by simp [show j - 1 < ys.length by omega]
          rw [e1] at q1
          rw [e2] at q2
          have hsw := swap_in HY.out.2 (a := j) (b := j - 1) (by omega) (by omega)
          obtain ⟨y, hy⟩ : ∃ y, y = ys.getD j 0 := ⟨_, rfl⟩
          obtain ⟨z, hz⟩ : ∃ z, z = ys.getD (j - 1) 0 := ⟨_, rfl⟩
          rw [← hy] at q1 hsw
          rw [← hz] at q2 hsw
          have f1 := hfr j
          have f2 := hfr (j - 1)
          have HSW := Lib.hid hsw
          have d0 : decide (0 < j) = true := decide_eq_true hj0
          have d0i : decide ((0 : Int) < (j : Int)) = true := decide_eq_true (by omega)
          have g0 : (0 : Int) ≤ (j : Int) := by omega
          have g1 : (j : Int) < (n : Int) := by omega
          have wr1 : IntKind.i64.wrap ((j : Int) - 1) = (j : Int) - 1 := IntWalk.i64_in _ (by omega)
          have g2 : 0 ≤ (j : Int) - 1 := by omega
          have g3 : (j : Int) - 1 < (n : Int) := by omega
          have e3 : ((j : Int) - 1).toNat = j - 1 := by omega
          have e4 : ((j - 1 : Nat) : Int) = (j : Int) - 1 := by omega
          have HE4 := Lib.hid e4
          have hjn : j - 1 ≠ j := by omega
          have HYL := Lib.hid hyl
          clear hcell hfr hlen hy hz e1 e2 hsw e4 hyl
          by_cases hyz : y < z
          · have d1 : decide (y < z) = true := decide_eq_true hyz
            clear hyz
            obtain ⟨hS1, hg1⟩ := hO.store (by omega) j (.int .i64 z)
            obtain ⟨hS2, hg2⟩ := hS1.store (by omega) (j - 1) (.int .i64 y)
            have HF : Hid (∀ m, Own ((((wr.drewN m).setCell ⟨g, j, none⟩ (.int .i64 z)).setCell ⟨g, j - 1, none⟩ (.int .i64 y))) w.heap.size 3 1 (.slice (some ⟨g, 0, none⟩) n c1) n (((ys.set j z).set (j - 1) y).map (.int .i64)) ∧
                Hid (((ys.set j z).set (j - 1) y).length = n ∧ ∀ q ∈ (ys.set j z).set (j - 1) y, q ∈ xs) ∧ Below w.heap.size w (((wr.drewN m).setCell ⟨g, j, none⟩ (.int .i64 z)).setCell ⟨g, j - 1, none⟩ (.int .i64 y))) := fun m => by
              obtain ⟨p1, _⟩ := (hO.drewN m).store (by omega) j (.int .i64 z)
              obtain ⟨p2, _⟩ := p1.store (by omega) (j - 1) (.int .i64 y)
              refine ⟨by rw [List.map_set, List.map_set]; exact p2, ⟨by simp [HYL.out], HSW.out⟩, ((below_drewN hB m).setCell (p := ⟨g, j, none⟩) hgl _).setCell (p := ⟨g, j - 1, none⟩) hgl _⟩
            clear hS1 hg1 hS2 hg2 hO hB
            go_wp2_with fail
            go_quiet (fail)
            go_wp2
            go_roundw
            case rel => exact ⟨j - 1, _, by omega, by rw [HE4.out], (HF.out _).1, (HF.out _).2⟩
            case measure => simp [intOf]; omega
          · have d1 : decide (y < z) = false := decide_eq_false hyz
            clear hyz
            go_wp2_with fail
            go_quiet (fail)
            go_wp2
            go_roundw
            case rel => exact ⟨k + 1, ys, by omega, by omega, by go_num, hO.drewN _, HY, below_drewN hB _⟩
            case measure => simp [intOf]; omega
        · obtain rfl : j = 0 := by omega
          have d0 : decide ((0 : Nat) < 0) = false := by decide
          have d0i : decide ((0 : Int) < ((0 : Nat) : Int)) = false := by decide
          have d0j : decide ((0 : Int) < 0) = false := by decide
          go_wp2_with fail
          go_quiet (fail)
          go_wp2
          go_roundw
          case rel => exact ⟨k + 1, ys, by omega, by omega, by go_num, hO.drewN _, HY, below_drewN hB _⟩
          case measure => simp [intOf]; omega
    · have HF : Hid (Own wr w.heap.size 3 1 (.slice a1 n c1) ys.length (ys.map (.int .i64)) ∧ ys.length = xs.length ∧ (∀ y ∈ ys, y ∈ xs)) := ⟨by rw [HY.out.1]; exact hO, by rw [HY.out.1, HN.out], HY.out.2⟩
      clear hO
      go_wp2_with fail
      go_ret
      exact ⟨_, ys, rfl, HF.out.1, HF.out.2.1, HF.out.2.2, hB⟩

def PhaseDraw (w : World) (hi rb p : Nat) (e : Ending) (w' : World) : Prop :=
  ∃ v', ∃ ys : List Int, ∃ p', e = .returned v' ∧ Own w' w.heap.size 3 1 v' ys.length (ys.map (.int .i64)) ∧ ys.length ≤ 8 ∧ tame ys ∧ p' ≤ p + 20 ∧ Rdh hi w' rb p' ∧ w.grownBy w' (some rb)

theorem ConfR.grown {w w' : World} {lo : Nat} {v : Value} {t : List (List Int)} {row : Option Nat} (h : ConfR w lo v t) (hg : w.grownBy w' row) (hr : ∀ q, row = some q → q < lo) : ConfR w' lo v t := by
  obtain ⟨b, off, cap, e, h1, h2, h3, h4, h5⟩ := h
  have key : ∀ b o, lo ≤ b → b < w.heap.size → w'.cell? ⟨b, o, none⟩ = w.cell? ⟨b, o, none⟩ := fun b o hl hb =>
    World.cell?_of_block (hg.block b hb (fun e => by have := hr b e.symm; omega))
  refine ⟨b, off, cap, e, h1, h2, h3, Nat.lt_of_lt_of_le h4 hg.size, fun a ha => ?_⟩
  obtain ⟨b1, off1, c1, q1, q2, q3, q4, q5, q6⟩ := h5 a ha
  exact ⟨b1, off1, c1, (key b _ h3 h4).trans q1, q2, q3, q4, Nat.lt_of_lt_of_le q5 hg.size, fun c hc => (key b1 _ q4 q5).trans (q6 c hc)⟩
/-- append of one value behind a guard that lets it through. -/
theorem wpList_append_oneG {P : Program} (w : World) {ops : Array Oper} {rest : List Oper} {o : Oper} {a : Act} {Q : Exit → Act → World → Prop} (hw : Region.wanted o (yielded ops a.tmps) = true) (s x : Operand) (t : TypeId)
    (ho : o.op = .call { callee := .builtin .append, args := #[s, x], argTypes := #[t, t] })
    (e : TypeId) (z : Value) (bytes : Nat) (ht : P.underlying t = some (.slice e)) (hi : (P.info? e).map (fun i => (i.zero, i.size, i.bytes)) = some (some z, 1, bytes))
    (hzs : z.cells.size = 1)
    (lo : Nat) (v : Value) (n : Nat) (cs : List Value) (hs : a.eval s = v) (hown : Own w lo e 1 v n cs)
    (u : Value) (t' : TypeId) (hxe : a.eval x = .slice (some ⟨w.heap.size, 0, none⟩) 1 1) (h1 : u.oneCell' = true)
    (h63 : n + 1 ≤ 9223372036854775807) (hbytes : (n + 1) * bytes ≤ 140737488355328) (hbase : lo ≤ w.heap.size)
    (h : ∀ v' w', Own w' lo e 1 v' (n + 1) (cs ++ [u]) → w.grownBy w' (wblk v) → (∀ k, wblk v' = some k → wblk v = some k ∨ w.heap.size ≤ k) → wpList P ops Q rest (a.put o.dst v') w') :
    wpList P ops Q (o :: rest) a (w.alloc (.cells #[u] t')) := by
  refine wpList_step fun K hK => ?_
  rw [if_pos hw]
  obtain ⟨i, hi1, hz, hsize, hby⟩ := info_parts hi
  obtain ⟨v', w', hr, h2, h3, h4⟩ := run_append_Own (P := P) (w.alloc (.cells #[u] t')) lo t o.type e i z 1 bytes ht hi1 hz hsize hby hzs (by omega) v n cs (hown.alloc _) (.slice (some ⟨w.heap.size, 0, none⟩) 1 1) 0 1 [u] (Rd.made w [u] t' 0 1 1 rfl (Nat.zero_le _) (by decide)) (by simpa using h1) (by unfold maxLen; omega) hbytes (by simp; omega)
  have hga := World.grownBy_alloc w (.cells #[u] t') none
  unfold Oper.wp execOp
  simp only [ho, resolve, invoke, builtin, Sem.run_bind, Sem.run_pure, Result.andThen_ok, List.map_toArray, List.map_cons, List.map_nil, hs, hxe, hr]
  refine hK _ _ (h v' w' h2 ?_ ?_)
  · exact grownBy_trans (row := wblk v) ⟨hga.os, hga.tape, hga.output, hga.size, fun k hk _ => hga.block k hk (fun e => by cases e)⟩ h3 (fun x hx => .inl hx)
  · intro k hk'
    rcases h4 k hk' with h | h
    · exact .inl h
    · right; simp at h; omega

set_option maxHeartbeats 8000000 in
theorem randomPhase_any {hi : Nat} (w : World) (rb p : Nat) (lo : Nat) (v : Value) (t : List (List Int)) (hr : Rdh hi w rb p) (hp : p ≤ 1000000) (hv : IntSS w lo v t) (hlo : rb < lo) (hval : validCl t = true) :
    Calls Tryd.prog 67 #[.pointer (some ⟨rb, 0, none⟩), v] w (PhaseDraw w hi rb p) := by
  obtain ⟨ao, cap, rfl, hcap, hm⟩ := hv.form
  have hrb := hr.lt
  obtain ⟨hn1, hn8, _, _⟩ := validCl_iff.1 hval
  obtain ⟨w0, hw0⟩ : ∃ w0, w0 = w.alloc (.cells #[] 3) := ⟨_, rfl⟩
  have hB0 : Below w.heap.size w w0 := by rw [hw0]; exact (Below.refl _ _).alloc (Nat.le_refl _) _
  have hO0 : Own w0 w.heap.size 3 1 (.slice (some ⟨w.heap.size, 0, none⟩) 0 0) 0 [] := by rw [hw0]; exact Own.made w [] 3 w.heap.size 1 0 rfl (Nat.le_refl _) (by decide)
  have HW0 := Lib.hid hw0
  have HVAL := Lib.hid hval
  clear hw0 hval
  go_enter Tryd.func67, Tryd.ntmps67
  go_wp2_with fail
  rw [← HW0.out]
  clear HW0
  refine (spec_conflictsOf _ lo _ t (hv.below hB0 (Nat.le_refl _)) HVAL.out).mono ?_; rintro e w1 ⟨vc, rfl, hC, hB1⟩
  have hT1 := hB0.trans (hB1.mono hB0.size)
  have hO1 := hO0.below hB1 (Nat.le_refl _)
  have hr1 := hr.below hT1 hrb
  have hC1 : ConfR w1 (rb + 1) vc t := by
    obtain ⟨b, off, capc, e, h1, h2, h3, h4, h5⟩ := hC
    have hs0 := hB0.size
    refine ⟨b, off, capc, e, h1, h2, by omega, h4, fun a ha => ?_⟩
    obtain ⟨b1, off1, c1, q1, q2, q3, q4, q5, q6⟩ := h5 a ha
    exact ⟨b1, off1, c1, q1, q2, q3, by omega, q5, q6⟩
  have hz1 := hT1.size
  have hG1 : w.grownBy w1 (some rb) := grownBy_of_below hT1 (Nat.le_refl _) _
  clear hO0 hB0 hB1 hC hT1 hv hr
  go_wp2_with fail
  go_at_call 39
  refine (pick_h _ _ _ t.length hr1 (by omega) (by omega)).mono ?_; rintro e w2 ⟨x, rfl, ⟨hx0, hx1, hx2⟩, hr2, hg2⟩
  have hx3 := hx1 (by omega)
  have hO2 : Own w2 w1.heap.size 3 1 (.slice (some ⟨w.heap.size, 0, none⟩) 0 0) ([] : List Int).length (([] : List Int).map (.int .i64)) := .inr ⟨rfl, rfl, _, rfl⟩
  have hrb1 : rb < w1.heap.size := by omega
  obtain ⟨at_, rfl⟩ := Int.eq_ofNat_of_zero_le hx0
  have HC1 := Lib.hid hC1
  have HG1 := Lib.hid hG1
  have HVC : Hid (∃ b off capc, vc = .slice (some ⟨b, off, none⟩) t.length capc) := by obtain ⟨b, off, capc, e, _⟩ := hC1; exact ⟨b, off, capc, e⟩
  obtain ⟨bv, ov, cv, rfl⟩ := HVC.out
  clear hx1 hO1 hr1 hC1 hG1 HVC
  go_wp2_with fail
  go_loopw [5, 8] (fun uv i wo => ∃ k : Nat, ∃ ys : List Int, ∃ p', k ≤ t.length ∧ i = .int .i64 k ∧ Own wo w1.heap.size 3 1 uv ys.length (ys.map (.int .i64)) ∧ ys.length ≤ k ∧ Hid (∀ y ∈ ys, 0 ≤ y ∧ y < t.length) ∧ p' ≤ p + 1 + k ∧ Rdh hi wo rb p' ∧ w1.grownBy wo (some rb)) (fun _ i _ => t.length - (intOf i).toNat)
  case atStart => exact ⟨0, [], _, Nat.zero_le _, rfl, hO2, Nat.le_refl _, fun y hy => by simp at hy, Nat.le_refl _, hr2, hg2⟩
  case round =>
    clear hO2 hr2 hg2
    obtain ⟨k, ys, p', hk, rfl, hO, hyl, HY, hp', hr, hG⟩ := hrel
    by_cases hlt : k < t.length
    · obtain ⟨q, hq⟩ : ∃ q, q = (at_ + k) % t.length := ⟨_, rfl⟩
      have hq1 : q < t.length := by rw [hq]; exact Nat.mod_lt _ (by omega)
      have e1 : ((at_ : Int) + (k : Int)) % (t.length : Int) = (q : Int) := by rw [hq, show ((at_ : Int) + (k : Int)) = ((at_ + k : Nat) : Int) by omega, ← Int.natCast_emod]
      have m3 : ((at_ : Int) + (k : Int)).tmod (t.length : Int) = (q : Int) := by rw [Int.tmod_eq_emod_of_nonneg (by omega), e1]
      have m4 : ¬ (t.length : Int) = 0 := by omega
      have m6 : ¬ t.length = 0 := by omega
      have wr1 : IntKind.i64.wrap ((at_ : Int) + (k : Int)) = (at_ : Int) + (k : Int) := IntWalk.i64_in _ (by omega)
      have HYI : Hid (∀ y ∈ ys ++ [(q : Int)], 0 ≤ y ∧ y < t.length) := fun y hy => by
        rcases List.mem_append.1 hy with h | h
        · exact HY.out y h
        · simp at h; subst h; omega
      clear hq
      go_wp2_with fail
      go_at_call 39
      refine (pick_h _ _ _ 4 hr (by omega) (by omega)).mono ?_; rintro e w3 ⟨x, rfl, ⟨hx0, hx1, hx2⟩, hr3, hg3⟩
      have hO3 := hO.grown hg3 (fun q hq => .inl (by cases hq; exact hrb1))
      have hG3 := grownBy_trans hG hg3 (fun x hx => .inl hx)
      clear hx1 hr hG hO hg3
      by_cases hx0' : 0 < x
      · have d0 : decide (0 < x) = true := decide_eq_true hx0'
        have hz3 := hG3.size
        have HC3 := Lib.hid (HC1.out.grown hG3 (fun q hq => by cases hq; omega))
        clear hx0'
        go_wp2_with fail
        go_at_call 78
        refine (copyInts_any _ _ ys (hO3.ints rfl) (by omega)).mono ?_; rintro e w4 ⟨v4, rfl, hO4, hB4⟩
        have hz4 := hB4.size
        have hr3l := hr3.lt
        go_wp2_with (at_builtin; refine wpList_append_oneG _ (by rfl) _ _ 38 (by rfl) 3 (.int .i64 0) 8 Tryd.underlying38 info_int rfl w3.heap.size _ _ _ (by rfl) hO4 _ _ (by rfl) rfl (by omega) (by omega) hz4 ?_; intro v5 w5 hO5 hg5 _)
        have hB35 : Below w3.heap.size w3 w5 := hB4.trans (below_of_grownBy hg5 hz4 (fun q hq => (hO4.wblk hq).1))
        have HC5 := HC3.out.below hB35 (Nat.le_refl _)
        have hI5 : Ints w5 0 v5 (ys ++ [(q : Int)]) := by
          have := hO5.rd.mono (Nat.zero_le _)
          unfold Ints; simpa using this
        have hO35 := hO3.below hB35 (Nat.le_refl _)
        have hr5 := hr3.below hB35 hr3.lt
        have hG5 := grownBy_trans hG3 (grownBy_of_below hB35 (Nat.le_refl _) (some rb)) (fun x hx => .inl hx)
        clear hO3 hr3 hG3 hB4 hO4 hO5 hg5 hB35
        refine (spec_clear _ _ 0 _ _ t (ys ++ [(q : Int)]) HC5 hI5 (fun i hi => HYI.out _ (getD_in hi))).mono ?_; rintro e w6 ⟨rfl, hB6⟩
        have hO6 := hO35.below hB6 (Nat.le_refl _)
        have hr6 := hr5.below hB6 hr5.lt
        have hG6 := grownBy_trans hG5 (grownBy_of_below hB6 (Nat.le_refl _) (some rb)) (fun x hx => .inl hx)
        have hz6 := hG6.size
        clear hO35 hr5 hG5 hB6 hI5 HC5
        cases hap : apartB t (ys ++ [(q : Int)])
        · clear hap
          go_wp2_with fail
          go_roundw
          case rel => exact ⟨k + 1, ys, _, by omega, by go_num, hO6, by omega, HY, by omega, hr6, hG6⟩
          case measure => simp [intOf]; omega
        · clear hap
          go_wp2_with (at_builtin; refine wpList_append_one _ rfl _ _ 38 rfl 3 (.int .i64 0) 8 Tryd.underlying38 info_int rfl w1.heap.size _ _ _ rfl hO6 _ _ rfl rfl (by omega) (by omega) hz6 ?_; intro v7 w7 hO7 hg7 _)
          have hr7 := hr6.grown hg7 (wblk_le hO6 hrb1)
          have hG7 := grownBy_trans hG6 hg7 (fun q hq => .inr (hO6.wblk hq).1)
          have hO7' : Own w7 w1.heap.size 3 1 v7 (ys ++ [(q : Int)]).length ((ys ++ [(q : Int)]).map (.int .i64)) := by simpa using hO7
          clear hO6 hO7 hr6 hG6 hg7
          go_roundw
          case rel => exact ⟨k + 1, ys ++ [(q : Int)], _, by omega, by go_num, hO7', by simp; omega, HYI, by omega, hr7, hG7⟩
          case measure => simp [intOf]; omega
      · have d0 : decide (0 < x) = false := decide_eq_false hx0'
        clear hx0'
        go_wp2_with fail
        go_roundw
        case rel => exact ⟨k + 1, ys, _, by omega, by go_num, hO3, by omega, HY, by omega, hr3, hG3⟩
        case measure => simp [intOf]; omega
    · have hT := grownBy_trans HG1.out hG (fun x hx => .inl hx)
      have hzT := hT.size
      go_wp2_with fail
      go_at_call 79
      refine (sorted_any _ _ ys (hO.ints rfl) (by omega)).mono ?_; rintro e w8 ⟨v8, zs, rfl, hO8, hzl, hzin, hB8⟩
      have hr8 := hr.below hB8 hr.lt
      have HF : Hid (Own w8 w.heap.size 3 1 v8 zs.length (zs.map (.int .i64)) ∧ zs.length ≤ 8 ∧ tame zs ∧ Rdh hi w8 rb p' ∧ w.grownBy w8 (some rb)) :=
        ⟨hO8.mono hzT, by omega, fun z hz => by have := HY.out z (hzin z hz); omega, hr8, grownBy_trans hT (grownBy_of_below hB8 (Nat.le_refl _) (some rb)) (fun x hx => .inl hx)⟩
      clear hO8 hzin hB8 hO hr hG hT
      go_wp2_with fail
      go_ret
      exact ⟨_, zs, p', rfl, HF.out.1, HF.out.2.1, HF.out.2.2.1, by omega, HF.out.2.2.2.1, HF.out.2.2.2.2⟩
def PhaseAny (w : World) (hi rb p : Nat) (e : Ending) (w' : World) : Prop :=
  ∃ v', ∃ ys : List Int, ∃ p', e = .returned v' ∧ Ints w' w.heap.size v' ys ∧ ys.length ≤ 9 ∧ p' ≤ p + 30 ∧ Rdh hi w' rb p' ∧ w.grownBy w' (some rb)
theorem anyPhase_any {hi : Nat} (w : World) (rb p : Nat) (lo : Nat) (v : Value) (t : List (List Int)) (hr : Rdh hi w rb p) (hp : p ≤ 1000000) (hv : IntSS w lo v t) (hlo : rb < lo) (hval : validCl t = true) :
    Calls Tryd.prog 58 #[.pointer (some ⟨rb, 0, none⟩), v] w (PhaseAny w hi rb p) := by
  have hrb := hr.lt
  have HV := Lib.hid hval
  have HI := Lib.hid hv
  obtain ⟨ao, cap, rfl, hcap, hm⟩ := hv.form
  clear hval hv
  go_enter Tryd.func58, Tryd.ntmps58
  go_wp2_with fail
  refine (spec_validClearance_H _ lo _ t true HI.out HV.out).mono ?_; rintro e w1 ⟨rfl, hB1⟩
  have hr1 := hr.below hB1 hrb
  have hz1 := hB1.size
  go_wp2_with fail
  go_at_call 67
  refine (randomPhase_any _ rb p lo _ t hr1 hp (HI.out.below hB1 (Nat.le_refl _)) hlo HV.out).mono ?_; rintro e w2 ⟨v2, ys, p2, rfl, hO2, hl2, ht2, hp2, hr2, hg2⟩
  have HG2 := Lib.hid (grownBy_trans (grownBy_of_below hB1 (Nat.le_refl _) (some rb)) hg2 (fun x hx => .inl hx))
  have HT2 := Lib.hid ht2
  clear hr1 hr hB1 hg2 ht2
  go_wp2_with fail
  go_at_call 69
  refine (spoil_h _ rb p2 _ ys 8 hr2 (by omega) (hO2.ints rfl) (by omega) HT2.out (by omega)).mono ?_; rintro e w3 ⟨v3, zs, p3, rfl, hI3, hl3, ht3, hp3, hr3, hg3⟩
  have HF : Hid (Ints w3 w.heap.size v3 zs ∧ zs.length ≤ 9 ∧ p3 ≤ p + 30 ∧ Rdh hi w3 rb p3 ∧ w.grownBy w3 (some rb)) :=
    ⟨hI3.mono HG2.out.size, by omega, by omega, hr3, grownBy_trans HG2.out hg3 (fun x hx => .inl hx)⟩
  clear hO2 hr2 hI3 ht3 hr3 hg3
  go_wp2_with fail
  go_ret
  exact ⟨_, zs, p3, rfl, HF.out⟩

def ClearAny (w : World) (hi rb p : Nat) (e : Ending) (w' : World) : Prop :=
  ∃ v' t p', e = .returned v' ∧ IntSS w' w.heap.size v' t ∧ (t.length ≤ 8 ∧ ∀ i, i < t.length → (t.getD i []).length ≤ 8) ∧ p' ≤ p + 1010 ∧ Rdh hi w' rb p' ∧ w.grownBy w' (some rb)

/-- Behind the first row. -/
theorem IntSS.drop1 {w : World} {lo g n cap : Nat} {t : List (List Int)} (h : IntSS w lo (.slice (some ⟨g, 0, none⟩) n cap) t) (hn : 1 ≤ t.length) {a : Option Addr} (ha : 1 < t.length → a = some ⟨g, 0 + 1, none⟩) (hne : a ≠ none) :
    IntSS w lo (.slice a (t.length - 1) (cap - 1)) (t.drop 1) := by
  obtain ⟨hs, h1, h2⟩ := h
  have hl := h1.1
  obtain ⟨_, _, e, _⟩ := h1.form
  cases e
  have := Rd.drop (k := 1) h1 hn ha hne
  refine ⟨hs.drop 1, by simpa using this, fun i hi => ?_⟩
  have hi' : i + 1 < t.length := by simp at hi; omega
  have e1 : (hs.drop 1).getD i .nilFunc = hs.getD (i + 1) .nilFunc := by simp [List.getD_eq_getElem?_getD, Nat.add_comm]
  have e2 : (t.drop 1).getD i [] = t.getD (i + 1) [] := by simp [List.getD_eq_getElem?_getD, Nat.add_comm]
  rw [e1, e2]; exact h2 (i + 1) hi'

set_option maxHeartbeats 8000000 in
theorem anyClear_any {hi : Nat} (w : World) (rb p : Nat) (hr : Rdh hi w rb p) (hp : p ≤ 900000) :
    Calls Tryd.prog 59 #[.pointer (some ⟨rb, 0, none⟩)] w (ClearAny w hi rb p) := by
  have hrb := hr.lt
  go_enter Tryd.func59, Tryd.ntmps59
  go_wp2_with fail
  go_at_call 57
  refine (one_LR w rb p [4, 5, 3, 6, 2, 1, 8] _ 7 rfl hr (by omega) (by omega) (by omega)).mono ?_; rintro e w1 ⟨n, rfl, hx, hr1, hg1⟩
  have hx' := hx.out
  simp at hx'
  obtain ⟨n, rfl⟩ : ∃ m : Nat, n = m := ⟨n.toNat, by omega⟩
  have hn1 : 1 ≤ n := by omega
  have hn8 : n ≤ 8 := by omega
  have hz1 := hg1.size
  clear hx hx' hr
  go_wp2_with fail
  go_at_call 56
  refine (randomClear_any _ rb _ n hr1 (by omega) hn1 hn8).mono ?_; rintro e w2 ⟨v2, t, p2, rfl, hX2, hv2, hl2, hp2, hr2, hg2⟩
  have hG2 := grownBy_trans hg1 hg2 (fun x hx => .inl hx)
  have hX2 := hX2.mono hz1
  have hrow : ∀ j, j < n → (t.getD j []).length = n := fun j hj => by
    have := (rowOk_iff.1 ((validCl_iff.1 hv2).2.2.1 j (by rw [hl2]; exact hj))).1
    rw [this, hl2]
  obtain ⟨hs2, hX2⟩ := hX2
  obtain ⟨ao, cap, rfl, hcap, hm⟩ := hX2.1.form
  rw [hl2] at hcap ⊢
  have HL := Lib.hid hl2
  have HROW := Lib.hid hrow
  have HX2 : Hid (OwnXD w2 w.heap.size (.slice ao n cap) hs2 t) := by
    have : OwnXD w2 w.heap.size (.slice ao t.length cap) hs2 t := hX2
    rw [hl2] at this; exact this
  clear hr1 hg1 hg2 hv2 hrow hl2 hX2
  go_wp2_with fail
  go_at_call 39
  refine (pick_h _ _ _ 24 hr2 (by omega) (by omega)).mono ?_; rintro e w3 ⟨x, rfl, _, hr3, hg3⟩
  have hX3 := HX2.out.grown hg3 (fun q hq => by cases hq; exact hrb)
  have hG3 := grownBy_trans hG2 hg3 (fun x hx => .inl hx)
  have hz3 := hG3.size
  clear hr2 hg3 hG2 HX2
  by_cases hx0 : x = 0
  · have d0 : (x == 0) = true := by rw [hx0]; rfl
    clear hx0
    obtain ⟨g', cap', gi, ci, ev, eh, _, _, hci, hcm, hgl, hgil, hgis, hgs, hne, s1, hfr, s2, hset⟩ := hX3.row (i := 0) (by rw [HL.out]; omega) (by rw [HROW.out 0 (by omega)]; omega)
    have ea : ao = some ⟨g', 0, none⟩ := by injection ev
    subst ea
    clear ev
    rw [HROW.out 0 (by omega)] at s1 hci hset
    have f0 := hfr 0
    have t0 := s2 0 (by rw [HROW.out 0 (by omega)]; omega)
    obtain ⟨hX4, hg4⟩ := hset 0 1 (by omega)
    have HF : Hid (IntSS (w3.setCell ⟨gi, 0, none⟩ (.int .i64 1)) w.heap.size (.slice (some ⟨g', 0, none⟩) n cap) (tset t 0 0 1) ∧ ((tset t 0 0 1).length ≤ 8 ∧ ∀ i, i < (tset t 0 0 1).length → ((tset t 0 0 1).getD i []).length ≤ 8) ∧ p2 + 1 ≤ p + 1010 ∧ Rdh hi (w3.setCell ⟨gi, 0, none⟩ (.int .i64 1)) rb (p2 + 1) ∧ w.grownBy (w3.setCell ⟨gi, 0, none⟩ (.int .i64 1)) (some rb)) := by
      refine ⟨hX4.ss.ss, ⟨by rw [tset_len, HL.out]; omega, fun i hi => ?_⟩, by omega, hr3.grown hg4 (fun q hq => by cases hq; omega), grownBy_trans hG3 hg4 (fun q hq => .inr (by cases hq; exact hgil))⟩
      rw [tset_len, HL.out] at hi
      rw [tset_rowlen (by rw [HL.out]; exact hi), HROW.out i hi]; exact hn8
    clear hfr s2 hset hX4 hg4 hX3 hr3 hG3
    go_wp2_with fail
    go_ret
    exact ⟨_, _, _, rfl, HF.out⟩
  · have d0 : (x == 0) = false := beq_eq_false_iff_ne.mpr hx0
    by_cases hx1 : x = 1
    · have d1 : (x == 1) = true := by rw [hx1]; rfl
      clear hx0 hx1
      obtain ⟨g', cap', gi, ci, ev, eh, _, _, hci, hcm, hgl, hgil, hgis, hgs, hne, s1, hfr, s2, hset⟩ := hX3.row (i := n - 1) (by rw [HL.out]; omega) (by rw [HROW.out (n - 1) (by omega)]; omega)
      have ea : ao = some ⟨g', 0, none⟩ := by injection ev
      subst ea
      clear ev
      rw [HROW.out (n - 1) (by omega)] at eh s1 hci
      have wr1 : IntKind.i64.wrap ((n : Int) - 1) = (n : Int) - 1 := IntWalk.i64_in _ (by omega)
      have e1 : ((n : Int) - 1).toNat = n - 1 := by omega
      have g1 : 0 ≤ (n : Int) - 1 := by omega
      have g2 : (n : Int) - 1 < (n : Int) := by omega
      have g3 : (1 : Int) ≤ (n : Int) := by omega
      have g4 : (0 : Int) < (n : Int) := by omega
      have g5 : 0 < n := by omega
      have HX3 := Lib.hid hX3
      have HEH := Lib.hid eh
      have HG3 := Lib.hid hG3
      clear hfr s2 hset eh hX3 hG3
      go_wp2_with fail
      go_region_held3 (fun w' => w'.cell? ⟨g', n - 1, none⟩ = some (.slice (some ⟨gi, 0, none⟩) n ci))
        (first | exact HS5.out | exact (World.cell?_setCell_far _ _ _ _ (Ne.symm hne)).trans HS5.out | assumption | go_keep)
        ((go_at_call 57; refine (one_LR _ rb _ [0, 5, 6, -1] _ 4 rfl (hr3.below (Below.drew (Below.refl w3.heap.size w3)) hr3.lt) (by omega) (by omega) (by omega)).mono ?_; rintro e w5 ⟨y, rfl, hy, hr5, hg5⟩; have hG35 : w3.grownBy w5 (some rb) := grownBy_trans (grownBy_of_below (Below.drew (Below.refl w3.heap.size w3)) (Nat.le_refl _) (some rb)) hg5 (fun x hx => .inl hx); have hX5 := HX3.out.grown hG35 (fun q hq => by cases hq; exact hrb); obtain ⟨g5, cap5, gi', ci', ev, eh, _, _, _, _, _, _, _, _, _, s5, hfr, s52, hset5⟩ := hX5.row (i := n - 1) (by rw [HL.out]; omega) (by rw [HROW.out (n - 1) (by omega)]; omega); obtain ⟨rfl, rfl⟩ := slice_inj ev; clear ev; rw [HROW.out (n - 1) (by omega)] at eh s5 hset5; rw [HEH.out] at eh; cases eh; have HS5 := Lib.hid s5; have f5 := hfr 0; have t5 := s52 0 (by rw [HROW.out (n - 1) (by omega)]; omega); have HSET5 := Lib.hid (hset5 0); clear hfr s52 hset5 s5))
      obtain ⟨hX6, hg6⟩ := HSET5.out y (by omega)
      have HF : Hid (IntSS (w5.setCell ⟨gi, 0, none⟩ (.int .i64 y)) w.heap.size (.slice (some ⟨g', 0, none⟩) n cap) (tset t (n - 1) 0 y) ∧ ((tset t (n - 1) 0 y).length ≤ 8 ∧ ∀ i, i < (tset t (n - 1) 0 y).length → ((tset t (n - 1) 0 y).getD i []).length ≤ 8) ∧ p2 + 1 + 1 ≤ p + 1010 ∧ Rdh hi (w5.setCell ⟨gi, 0, none⟩ (.int .i64 y)) rb (p2 + 1 + 1) ∧ w.grownBy (w5.setCell ⟨gi, 0, none⟩ (.int .i64 y)) (some rb)) := by
        refine ⟨hX6.ss.ss, ⟨by rw [tset_len, HL.out]; omega, fun i hi => ?_⟩, by omega, hr5.grown hg6 (fun q hq => by cases hq; omega), grownBy_trans (grownBy_trans HG3.out hG35 (fun x hx => .inl hx)) hg6 (fun q hq => .inr (by cases hq; exact hgil))⟩
        rw [tset_len, HL.out] at hi
        rw [tset_rowlen (by rw [HL.out]; exact hi), HROW.out i hi]; exact hn8
      clear hX6 hg6 hX5 hr5 hG35 hg5 hr3 HX3 HG3 HSET5 HS5 f5 t5
      go_wp2
      go_ret
      exact ⟨_, _, _, rfl, HF.out⟩
    · have d1 : (x == 1) = false := beq_eq_false_iff_ne.mpr hx1
      by_cases hx2 : x = 2
      · have d2 : (x == 2) = true := by rw [hx2]; rfl
        clear hx0 hx1 hx2
        have hI := hX3.ss.ss
        obtain ⟨g, rfl, _⟩ := hX3.1.parts (by rw [HL.out]; omega)
        have hdl : ∀ i, i < (t.drop 1).length → ((t.drop 1).getD i []).length ≤ 8 := fun i hi => by
          have hi' : i + 1 < n := by simp [HL.out] at hi; omega
          have e2 : (t.drop 1).getD i [] = t.getD (i + 1) [] := by simp [List.getD_eq_getElem?_getD, Nat.add_comm]
          rw [e2, HROW.out (i + 1) hi']; exact hn8
        have HDL : Hid ((t.drop 1).length ≤ 8 ∧ ∀ i, i < (t.drop 1).length → ((t.drop 1).getD i []).length ≤ 8) := ⟨by simp [HL.out]; omega, hdl⟩
        have HD : Hid (∀ a : Option Addr, (1 < n → a = some ⟨g, 0 + 1, none⟩) → a ≠ none → IntSS w3 w.heap.size (.slice a (n - 1) (cap - 1)) (t.drop 1)) := fun a h1 h2 => by
          have := IntSS.drop1 hI (by rw [HL.out]; exact hn1) (a := a) (by rw [HL.out]; exact h1) h2
          rw [HL.out] at this; exact this
        have hn1i : (1 : Int) ≤ (n : Int) := by omega
        clear hI hX3 hdl
        by_cases hc1 : cap = 1
        · have HD1 := Lib.hid (HD.out (some ⟨g, 0, none⟩) (fun h => by omega) (by simp))
          subst hc1
          obtain rfl : n = 1 := by omega
          clear HD
          go_wp2_with fail
          go_ret
          exact ⟨_, t.drop 1, _, rfl, HD1.out, HDL.out, by omega, hr3, hG3⟩
        · have HD1 := Lib.hid (HD.out (some ⟨g, 0 + 1, none⟩) (fun h => rfl) (by simp))
          clear HD
          go_wp2_with fail
          go_ret
          exact ⟨_, t.drop 1, _, rfl, HD1.out, HDL.out, by omega, hr3, hG3⟩
      · have d2 : (x == 2) = false := beq_eq_false_iff_ne.mpr hx2
        clear hx0 hx1 hx2
        have HF : Hid (IntSS w3 w.heap.size (.slice ao n cap) t ∧ (t.length ≤ 8 ∧ ∀ i, i < t.length → (t.getD i []).length ≤ 8)) := ⟨hX3.ss.ss, by rw [HL.out]; exact hn8, fun i hi => by rw [HL.out] at hi; rw [HROW.out i hi]; exact hn8⟩
        clear hX3
        go_wp2_with fail
        go_ret
        exact ⟨_, t, _, rfl, HF.out.1, HF.out.2, by omega, hr3, hG3⟩

theorem stgCells_snoc {hs : List Value} {ss : List Stg} (hl : hs.length = ss.length) (u : Value) (s : Stg) : stgCells (hs ++ [u]) (ss ++ [s]) = stgCells hs ss ++ [u, .int .i64 s.gr] := by
  unfold stgCells
  rw [List.length_append, List.length_singleton, List.range_succ, List.flatMap_append]
  congr 1
  · unfold List.flatMap
    congr 1
    apply List.map_congr_left
    intro i hi
    have hi' := List.mem_range.1 hi
    rw [getD_snoc_lt (by omega)]
    simp [List.getD_eq_getElem?_getD, List.getElem?_append_left hi']
  · simp [List.getD_eq_getElem?_getD, ← hl]
theorem phsOf_snoc_lt {ss : List Stg} {s : Stg} {j : Nat} (h : j < ss.length) : (phsOf (ss ++ [s])).getD j [] = (phsOf ss).getD j [] := by
  unfold phsOf
  rw [List.map_append]
  simp [List.getD_eq_getElem?_getD, List.getElem?_append_left (show j < (ss.map Stg.ph).length by simpa using h), h]
theorem phsOf_snoc_eq (ss : List Stg) (s : Stg) : (phsOf (ss ++ [s])).getD ss.length [] = s.ph := by
  simp [phsOf, List.getD_eq_getElem?_getD]
theorem RowsO.cong {w : World} {lo : Nat} {hs : List Value} {t t' : List (List Int)} {k : Nat} (h : RowsO w lo hs t k) (ht : ∀ j, j < k → t'.getD j [] = t.getD j []) : RowsO w lo hs t' k :=
  ⟨h.1, fun j hj => by rw [ht j hj]; exact h.2.1 j hj, h.2.2⟩

theorem RowsO.snoc2 {w : World} {lo B : Nat} {hs : List Value} {t : List (List Int)} {k : Nat} {u : Value} (h : RowsO w lo hs t k) (hlt : ∀ j, j < k → ∀ q, wblk (hs.getD j .nilFunc) = some q → q < B) (hO : Own w B 3 1 u (t.getD k []).length ((t.getD k []).map (.int .i64))) (hlo : lo ≤ B) :
    RowsO w lo (hs ++ [u]) t (k + 1) := by
  have old : ∀ j, j < k → (hs ++ [u]).getD j .nilFunc = hs.getD j .nilFunc := fun j hj => getD_snoc_lt (by rw [h.1]; exact hj)
  have new : (hs ++ [u]).getD k .nilFunc = u := by rw [← h.1]; exact getD_snoc_eq hs u
  refine ⟨by simp [h.1], fun j hj => ?_, fun i j hi hj hij => ?_⟩
  · by_cases e : j = k
    · subst e; rw [new]; exact hO.mono hlo
    · rw [old j (by omega)]; exact h.2.1 j (by omega)
  · have key : ∀ j, j < k → Apart u (hs.getD j .nilFunc) := fun j hj q hq hq' => by
      have := (hO.wblk hq).1; have := hlt j hj q hq'; omega
    by_cases ei : i = k
    · subst ei; rw [new, old j (by omega)]; exact key j (by omega)
    · by_cases ej : j = k
      · subst ej; rw [new, old i (by omega)]; exact (key i (by omega)).symm
      · rw [old i (by omega), old j (by omega)]; exact h.2.2 i j (by omega) (by omega) hij
/-- append of one stage, which lies in the block made just before. -/
theorem wpList_append_stg {P : Program} (w : World) {ops : Array Oper} {rest : List Oper} {o : Oper} {a : Act} {Q : Exit → Act → World → Prop} (hgd : o.guard = none) (s x : Operand) (t : TypeId)
    (ho : o.op = .call { callee := .builtin .append, args := #[s, x], argTypes := #[t, t] })
    (e : TypeId) (ht : P.underlying t = some (.slice e)) (hi : (P.info? e).map (fun i => (i.zero, i.size, i.bytes)) = some (some (.agg #[.slice none 0 0, .int .i64 0]), 2, 32))
    (lo : Nat) (v : Value) (n : Nat) (cs : List Value) (hs : a.eval s = v) (hown : Own w lo e 2 v n cs)
    (u g : Value) (t' : TypeId) (H : Nat) (hxe : a.eval x = .slice (some ⟨H, 0, none⟩) 1 1) (hH : w.heap.size = H) (h1 : u.oneCell' = true) (h2 : g.oneCell' = true)
    (h63 : n + 1 ≤ 9223372036854775807) (hbytes : (n + 1) * 32 ≤ 140737488355328) (hbase : lo ≤ w.heap.size)
    (h : ∀ v' w', Own w' lo e 2 v' (n + 1) (cs ++ [u, g]) → w.grownBy w' (wblk v) → (∀ k, wblk v' = some k → wblk v = some k ∨ w.heap.size ≤ k) → wpList P ops Q rest (a.put o.dst v') w') :
    wpList P ops Q (o :: rest) a (w.alloc (.cells #[u, g] t')) := by
  subst hH
  refine wpList_append_Own _ hgd s x t ho e _ 2 32 ht hi rfl (by omega) lo v n cs hs (hown.alloc _) _ 0 1 [u, g] hxe (Rd.made w [u, g] t' 0 2 1 rfl (Nat.zero_le _) (by decide)) (by intro q hq; simp at hq; rcases hq with rfl | rfl <;> assumption) (by unfold maxLen; omega) hbytes (by simp; omega) ?_
  intro v' w' ho' hg hk
  have hga := World.grownBy_alloc w (.cells #[u, g] t') none
  refine h v' w' ho' ?_ ?_
  · exact grownBy_trans (row := wblk v) ⟨hga.os, hga.tape, hga.output, hga.size, fun k hk _ => hga.block k hk (fun e => by cases e)⟩ hg (fun x hx => .inl hx)
  · intro k hk'
    rcases hk k hk' with h | h
    · exact .inl h
    · right; simp at h; omega

def PlanDraw (w : World) (hi rb p : Nat) (vt : Value) (e : Ending) (w' : World) : Prop :=
  ∃ vs ss p', e = .returned (.agg #[vt, vs]) ∧ OwnStg w' w.heap.size vs ss ∧ (1 ≤ ss.length ∧ ss.length ≤ 5 ∧ ∀ i, i < ss.length → (ss.getD i s0).ph.length ≤ 9) ∧ p' ≤ p + 200 ∧ Rdh hi w' rb p' ∧ w.grownBy w' (some rb)

set_option maxHeartbeats 8000000 in
theorem randomPlan_any {hi : Nat} (w : World) (rb p : Nat) (lo : Nat) (v : Value) (t : List (List Int)) (hr : Rdh hi w rb p) (hp : p ≤ 1000000 - 200) (hv : IntSS w lo v t) (hlo : rb < lo) (hval : validCl t = true) :
    Calls Tryd.prog 55 #[.pointer (some ⟨rb, 0, none⟩), v] w (PlanDraw w hi rb p v) := by
  have hrb := hr.lt
  have HVAL := Lib.hid hval
  obtain ⟨ao, cap, rfl, hcap, hm⟩ := hv.form
  have HV := Lib.hid hv
  obtain ⟨w1, hw1⟩ : ∃ x, x = w.alloc (.cells #[.slice none 0 0, .slice none 0 0] 68) := ⟨_, rfl⟩
  have hX1 := Own.made w [.slice none 0 0, .slice none 0 0] 68 w.heap.size 2 1 rfl (Nat.le_refl _) (by decide)
  have hB1 : Below w.heap.size w w1 := by rw [hw1]; exact (Below.refl _ _).alloc (Nat.le_refl _) _
  have hs1 : w1.heap.size = w.heap.size + 1 := by rw [hw1]; simp
  obtain ⟨w2, hw2⟩ : ∃ x, x = w1.alloc (.cells #[.slice ao t.length cap, .slice none 0 0] 68) := ⟨_, rfl⟩
  have hX2 := Own.made w1 [.slice ao t.length cap, .slice none 0 0] 68 w.heap.size 2 1 rfl (by omega) (by decide)
  have hB2 : Below w1.heap.size w1 w2 := by rw [hw2]; exact (Below.refl _ _).alloc (Nat.le_refl _) _
  have hs2 : w2.heap.size = w.heap.size + 2 := by rw [hw2]; simp [hs1]
  obtain ⟨w3, hw3⟩ : ∃ x, x = w2.alloc (.cells #[] 42) := ⟨_, rfl⟩
  have hB3 : Below w2.heap.size w2 w3 := by rw [hw3]; exact (Below.refl _ _).alloc (Nat.le_refl _) _
  have hs3 : w3.heap.size = w.heap.size + 3 := by rw [hw3]; simp [hs2]
  have hT2 := hB1.trans (hB2.mono hB1.size)
  have hT3 := hT2.trans (hB3.mono hT2.size)
  rw [show (w.alloc (Obj.cells [Value.slice none 0 0, Value.slice none 0 0].toArray 68)) = w1 from hw1.symm] at hX1
  rw [show (w1.alloc (Obj.cells [Value.slice ao t.length cap, Value.slice none 0 0].toArray 68)) = w2 from hw2.symm, hs1] at hX2
  have hY1 := (hX1.below hB2 (Nat.le_refl _)).below hB3 (Nat.le_refl _)
  have hY2 := hX2.below hB3 (Nat.le_refl _)
  have hr3 := hr.below hT3 hrb
  have HY1 := Lib.hid hY1
  have HY2 := Lib.hid hY2
  have HT3 := Lib.hid hT3
  have HV3 := Lib.hid (HV.out.below hT3 (Nat.le_refl _))
  have HW1 := Lib.hid hw1
  have HW2 := Lib.hid hw2
  have HW3 := Lib.hid hw3
  have HS3 := Lib.hid hs3
  clear hX1 hX2 hB1 hB2 hB3 hT2 hT3 hs1 hs2 hs3 hw1 hw2 hw3 hY1 hY2 hv hval hr
  go_enter Tryd.func55, Tryd.ntmps55
  go_wp2_with fail
  rw [← HW1.out, ← HW2.out, ← HW3.out]
  clear HW1 HW2 HW3
  have hone := one_LR w3 rb p [2, 3, 2, 4, 1, 5] 3 6 rfl hr3 (by omega) (by omega) (by omega)
  rw [HS3.out] at hone
  refine hone.mono ?_; rintro e w4 ⟨x, rfl, hx, hr4, hg4⟩
  have hx' := hx.out
  simp at hx'
  obtain ⟨N, rfl⟩ : ∃ m : Nat, x = m := ⟨x.toNat, by omega⟩
  have hN1 : 1 ≤ N := by omega
  have hN5 : N ≤ 5 := by omega
  have hO4 : Own w4 (w.heap.size + 3) 42 2 (.slice (some ⟨w.heap.size + 2, 0, none⟩) 0 0) ([] : List Stg).length (stgCells [] []) := .inr ⟨rfl, rfl, _, rfl⟩
  clear hone hx hx' hr3
  go_wp2_with fail
  go_loopw [6, 7] (fun sv i wo => ∃ m : Nat, ∃ ss : List Stg, ∃ hs p', i = .int .i64 m ∧ Own wo (w.heap.size + 3) 42 2 sv ss.length (stgCells hs ss) ∧ Hid (RowsO wo (w.heap.size + 3) hs (phsOf ss) ss.length ∧ (∀ j, j < ss.length → Apart sv (hs.getD j .nilFunc)) ∧ ∀ i, i < ss.length → (ss.getD i s0).ph.length ≤ 9) ∧ ss.length + m = N ∧ p' ≤ p + 1 + 21 * ss.length ∧ Rdh hi wo rb p' ∧ w3.grownBy wo (some rb)) (fun _ i _ => (intOf i).toNat)
  case atStart => exact ⟨N, [], [], p + 1, rfl, hO4, ⟨RowsO.nil _ _ _, fun j hj => absurd hj (Nat.not_lt_zero _), fun j hj => absurd hj (Nat.not_lt_zero _)⟩, by simp, by simp, hr4, hg4⟩
  case round =>
    clear hO4 hr4 hg4
    obtain ⟨m, ss, hs, p', rfl, hO, HR, hN, hp', hr, hG⟩ := hrel
    have hsz := hG.size
    rw [HS3.out] at hsz
    by_cases hm0 : 0 < m
    · have d0 : decide (0 < m) = true := decide_eq_true hm0
      have d0i : decide ((0 : Int) < (m : Int)) = true := decide_eq_true (by omega)
      have hm1 : (m : Int) - 1 = ((m - 1 : Nat) : Int) := by omega
      have HM1 := Lib.hid hm1
      have wr1 : IntKind.i64.wrap ((m : Int) - 1) = (m : Int) - 1 := IntWalk.i64_in _ (by omega)
      have HG := Lib.hid hG
      have HO := Lib.hid hO
      clear hm1 hG hO
      go_wp2_with fail
      go_at_call 67
      refine (randomPhase_any _ rb p' lo _ t hr (by omega) (HV3.out.grown HG.out (fun q hq => by cases hq; exact hlo)) hlo HVAL.out).mono ?_; rintro e w5 ⟨v5, ys, p5, rfl, hO5, hl5, _, hp5, hr5, hg5⟩
      obtain ⟨a5, c5, rfl, _, _⟩ := hO5.form
      have HO5 := Lib.hid hO5
      have HG5 := Lib.hid hg5
      clear hr hO5 hg5
      go_wp2_with fail
      go_at_call 39
      refine (pick_h _ _ _ 9 hr5 (by omega) (by omega)).mono ?_; rintro e w6 ⟨y, rfl, ⟨hy0, hy1, hy2⟩, hr6, hg6⟩
      have hy3 := hy1 (by omega)
      have wr2 : IntKind.i64.wrap (5 + y) = 5 + y := IntWalk.i64_in _ (by omega)
      have hg56 : wr.grownBy w6 (some rb) := grownBy_trans HG5.out hg6 (fun x hx => .inl hx)
      have hO6 := HO.out.grown hg56 (fun q hq => .inl (by cases hq; omega))
      have hR6 := (HR.out.1.grown hg56 (fun q hq => .inl (by cases hq; omega))).cong (t' := phsOf (ss ++ [⟨ys, 5 + y⟩])) (fun j hj => phsOf_snoc_lt hj)
      have hU6 : Own w6 wr.heap.size 3 1 (.slice a5 ys.length c5) ((phsOf (ss ++ [⟨ys, 5 + y⟩])).getD ss.length []).length (((phsOf (ss ++ [⟨ys, 5 + y⟩])).getD ss.length []).map (.int .i64)) := by
        rw [phsOf_snoc_eq]; exact HO5.out.grown hg6 (fun q hq => .inl (by cases hq; omega))
      have hR7 := hR6.snoc2 (fun j hj q hq => (HR.out.1.lt hj hq).2) hU6 hsz
      have hA7 : ∀ j, j < ss.length + 1 → Apart u6 ((hs ++ [Value.slice a5 ys.length c5]).getD j .nilFunc) := by
        intro j hj
        by_cases e : j = ss.length
        · subst e
          rw [← HR.out.1.1, getD_snoc_eq]
          intro q hq hq'
          have := (HO.out.wblk hq).2; have := (hU6.wblk hq').1; omega
        · rw [getD_snoc_lt (by rw [HR.out.1.1]; omega)]; exact HR.out.2.1 j (by omega)
      have hz6 : w.heap.size + 3 ≤ w6.heap.size := Nat.le_trans hsz hg56.size
      have HR7 := Lib.hid hR7
      have HA7 := Lib.hid hA7
      have HG6 := Lib.hid (grownBy_trans HG.out hg56 (fun x hx => .inl hx))
      clear hy1 hr5 hg6 hg56 hR6 hU6 hR7 hA7 HO5 HG5 HO HG
      go_wp2_with (at_builtin; refine wpList_append_stg _ rfl _ _ 25 rfl 42 Tryd.underlying25 info_stg (w.heap.size + 3) _ _ _ rfl hO6 _ _ _ w6.heap.size rfl rfl rfl rfl (by omega) (by omega) hz6 ?_; intro v' w7 hO7 hg7 hk7)
      have hR8 := HR7.out.grown hg7 (fun q hq => .inr (fun j hj e => HA7.out j hj q hq e))
      have hA8 : ∀ j, j < ss.length + 1 → Apart v' ((hs ++ [Value.slice a5 ys.length c5]).getD j .nilFunc) := by
        intro j hj q hq hq'
        rcases hk7 q hq with h | h
        · exact HA7.out j hj q h hq'
        · have := (HR7.out.lt hj hq').2; omega
      have hO8 : Own w7 (w.heap.size + 3) 42 2 v' (ss ++ [(⟨ys, 5 + y⟩ : Stg)]).length (stgCells (hs ++ [Value.slice a5 ys.length c5]) (ss ++ [(⟨ys, 5 + y⟩ : Stg)])) := by
        rw [stgCells_snoc HR.out.1.1]; simpa using hO7
      have HF : Hid (RowsO w7 (w.heap.size + 3) (hs ++ [Value.slice a5 ys.length c5]) (phsOf (ss ++ [(⟨ys, 5 + y⟩ : Stg)])) (ss ++ [(⟨ys, 5 + y⟩ : Stg)]).length ∧ (∀ j, j < (ss ++ [(⟨ys, 5 + y⟩ : Stg)]).length → Apart v' ((hs ++ [Value.slice a5 ys.length c5]).getD j .nilFunc)) ∧ ∀ i, i < (ss ++ [(⟨ys, 5 + y⟩ : Stg)]).length → ((ss ++ [(⟨ys, 5 + y⟩ : Stg)]).getD i s0).ph.length ≤ 9) := by
        refine ⟨by simpa using hR8, fun j hj => hA8 j (by simpa using hj), fun i hi => ?_⟩
        by_cases e : i = ss.length
        · subst e; simp [List.getD_eq_getElem?_getD]; omega
        · have hi' : i < ss.length := by simp at hi; omega
          have := HR.out.2.2 i hi'
          simpa [List.getD_eq_getElem?_getD, List.getElem?_append_left hi'] using this
      have hr7 := hr6.grown hg7 (wblk_le hO6 (by omega))
      have hG7 := grownBy_trans HG6.out hg7 (fun q hq => .inr (by rw [HS3.out]; exact (hO6.wblk hq).1))
      clear hO6 hO7 hg7 hk7 hR8 hA8 hr6
      go_roundw
      case rel => exact ⟨m - 1, ss ++ [(⟨ys, 5 + y⟩ : Stg)], _, p5 + 1, by rw [HM1.out], hO8, HF, by simp; omega, by simp; omega, hr7, hG7⟩
      case measure => simp [intOf]; omega
    · obtain rfl : m = 0 := by omega
      have d0 : decide ((0 : Nat) < 0) = false := by decide
      have d0i : decide ((0 : Int) < ((0 : Nat) : Int)) = false := by decide
      have d0j : decide ((0 : Int) < 0) = false := by decide
      obtain ⟨a9, c9, rfl, _, _⟩ := hO.form
      have hY1 : Own wr w.heap.size _ 2 (.slice (some ⟨w.heap.size, 0, none⟩) 1 1) 1 _ := HY1.out.grown hG (fun q hq => .inl (by cases hq; exact hrb))
      have hY2 : Own wr w.heap.size _ 2 (.slice (some ⟨w.heap.size + 1, 0, none⟩) 1 1) 1 _ := HY2.out.grown hG (fun q hq => .inl (by cases hq; exact hrb))
      obtain ⟨_, e1, _, z1, p1, f1, _⟩ := hY1.parts (by omega)
      cases e1
      obtain ⟨_, e1, _, z2, p2, f2, _⟩ := hY2.parts (by omega)
      cases e1
      have q10 := p1 0 (by simp)
      have q11 := p1 1 (by simp)
      have q20 := p2 0 (by simp)
      have q21 := p2 1 (by simp)
      have r10 := f1 0
      have r11 := f1 1
      have r20 := f2 0
      have r21 := f2 1
      simp only [List.getElem_cons_zero, List.getElem_cons_succ] at q10 q11 q20 q21
      have HF0 : Hid (Own wr (w.heap.size + 3) 42 2 (.slice a9 ss.length c9) ss.length (stgCells hs ss) ∧ Rdh hi wr rb p' ∧ w.grownBy wr (some rb)) := ⟨hO, hr, grownBy_trans (grownBy_of_below HT3.out (Nat.le_refl _) (some rb)) hG (fun x hx => .inl hx)⟩
      have HF : Hid (∀ u1 u2 u3 : Value, OwnStg (((wr.setCell ⟨w.heap.size + 1, 1, none⟩ u1).setCell ⟨w.heap.size, 0, none⟩ u2).setCell ⟨w.heap.size, 1, none⟩ u3) w.heap.size (.slice a9 ss.length c9) ss ∧ Rdh hi (((wr.setCell ⟨w.heap.size + 1, 1, none⟩ u1).setCell ⟨w.heap.size, 0, none⟩ u2).setCell ⟨w.heap.size, 1, none⟩ u3) rb p' ∧
          w.grownBy (((wr.setCell ⟨w.heap.size + 1, 1, none⟩ u1).setCell ⟨w.heap.size, 0, none⟩ u2).setCell ⟨w.heap.size, 1, none⟩ u3) (some rb)) := by
        intro u1 u2 u3
        have one : ∀ (W : World) (b o : Nat) (u : Value), b < w.heap.size + 3 → w.heap.size ≤ b → (OwnStg W (w.heap.size + 3) (.slice a9 ss.length c9) ss ∧ Rdh hi W rb p' ∧ w.grownBy W (some rb)) →
            (OwnStg (W.setCell ⟨b, o, none⟩ u) (w.heap.size + 3) (.slice a9 ss.length c9) ss ∧ Rdh hi (W.setCell ⟨b, o, none⟩ u) rb p' ∧ w.grownBy (W.setCell ⟨b, o, none⟩ u) (some rb)) := by
          intro W b o u h1 h2 ⟨h3, h4, h5⟩
          have hg : W.grownBy (W.setCell ⟨b, o, none⟩ u) (some b) := cell_grown (b' := b) u o
          exact ⟨h3.grown hg (fun k hk => by cases hk; exact h1), h4.grown hg (fun k hk => by cases hk; omega), grownBy_trans h5 hg (fun q hq => .inr (by cases hq; exact h2))⟩
        have hstart : OwnStg wr (w.heap.size + 3) (.slice a9 ss.length c9) ss := ⟨hs, HF0.out.1, HR.out.1, HR.out.2.1⟩
        have := one _ w.heap.size 1 u3 (by omega) (by omega) (one _ w.heap.size 0 u2 (by omega) (by omega) (one _ (w.heap.size + 1) 1 u1 (by omega) (by omega) ⟨hstart, HF0.out.2⟩))
        exact ⟨this.1.mono (by omega), this.2.1, this.2.2⟩
      have hne1 : w.heap.size + 1 ≠ w.heap.size := by omega
      clear p1 p2 f1 f2 hY1 hY2 HY1 HY2 hO hr hG
      go_wp2_with fail
      refine bodyPost_ret (v := .agg #[.slice ao t.length cap, .slice a9 ss.length c9]) (by simp [results, Tryd.results55, go_sem, q10, q11, q20, q21, r10, r11, r20, r21]) rfl ?_
      exact ⟨_, ss, p', rfl, (HF.out _ _ _).1, ⟨by omega, by omega, HR.out.2.2⟩, by omega, (HF.out _ _ _).2.1, (HF.out _ _ _).2.2⟩
theorem stgCells_get (hs : List Value) (ss : List Stg) {j : Nat} (hj : j < ss.length) : (stgCells hs ss)[j * 2]? = some (hs.getD j .nilFunc) ∧ (stgCells hs ss)[j * 2 + 1]? = some (.int .i64 (ss.getD j s0).gr) := by
  unfold stgCells
  have a := flat2_get (f := fun i => ([hs.getD i .nilFunc, .int .i64 (ss.getD i s0).gr] : List Value)) (fun _ => rfl) ss.length j 0 hj (by omega)
  have b := flat2_get (f := fun i => ([hs.getD i .nilFunc, .int .i64 (ss.getD i s0).gr] : List Value)) (fun _ => rfl) ss.length j 1 hj (by omega)
  exact ⟨by simpa using a, by simpa using b⟩
def setGr (ss : List Stg) (x : Int) : List Stg := ss.set 0 ⟨(ss.getD 0 s0).ph, x⟩
def setPh (ss : List Stg) (ys : List Int) : List Stg := ss.set 0 ⟨ys, (ss.getD 0 s0).gr⟩
theorem set0_get {ss : List Stg} (h : 0 < ss.length) (s : Stg) (j : Nat) : (ss.set 0 s).getD j s0 = if j = 0 then s else ss.getD j s0 := by
  by_cases e : j = 0
  · subst e; simp [List.getD_eq_getElem?_getD, h]
  · rw [if_neg e]; simp [List.getD_eq_getElem?_getD, List.getElem?_set_ne (fun h => e h.symm)]
theorem stg_setGr {hs : List Value} {ss : List Stg} (h : 0 < ss.length) (x : Int) : (stgCells hs ss).set 1 (.int .i64 x) = stgCells hs (setGr ss x) := by
  refine stgCells_eq (by unfold setGr; simp [stgCells_len]) (fun j hj => ?_)
  have hj' : j < ss.length := by unfold setGr at hj; simpa using hj
  obtain ⟨a, b⟩ := stgCells_get hs ss hj'
  rw [List.getElem?_set_ne (by omega)]
  refine ⟨a, ?_⟩
  unfold setGr; rw [set0_get h]
  by_cases e : j = 0
  · subst e; rw [if_pos rfl, Nat.zero_mul, Nat.zero_add, List.getElem?_set_self (by rw [stgCells_len]; omega)]
  · rw [if_neg e, List.getElem?_set_ne (by omega)]; exact b
theorem stg_setPh {hs : List Value} {ss : List Stg} (h : 0 < ss.length) (hl : hs.length = ss.length) (u : Value) (ys : List Int) : (stgCells hs ss).set 0 u = stgCells (hs.set 0 u) (setPh ss ys) := by
  refine stgCells_eq (by unfold setPh; simp [stgCells_len]) (fun j hj => ?_)
  have hj' : j < ss.length := by unfold setPh at hj; simpa using hj
  obtain ⟨a, b⟩ := stgCells_get hs ss hj'
  unfold setPh; rw [set0_get h]
  by_cases e : j = 0
  · subst e
    rw [if_pos rfl]
    refine ⟨?_, ?_⟩
    · rw [Nat.zero_mul, List.getElem?_set_self (by rw [stgCells_len]; omega)]
      simp [List.getD_eq_getElem?_getD, hl, h]
    · rw [List.getElem?_set_ne (by omega)]; exact b
  · rw [if_neg e]
    refine ⟨?_, ?_⟩
    · rw [List.getElem?_set_ne (by omega), a]
      simp [List.getD_eq_getElem?_getD, List.getElem?_set_ne (fun h => e h.symm)]
    · rw [List.getElem?_set_ne (by omega)]; exact b
/-- Stages whose first green is written. -/
theorem OwnStg.setGreen {w : World} {lo gs len cap : Nat} {ss : List Stg} (h : OwnStg w lo (.slice (some ⟨gs, 0, none⟩) len cap) ss) (hn : 0 < ss.length) (x : Int) :
    StgS (w.setCell ⟨gs, 1, none⟩ (.int .i64 x)) lo (.slice (some ⟨gs, 0, none⟩) len cap) (setGr ss x) ∧ w.grownBy (w.setCell ⟨gs, 1, none⟩ (.int .i64 x)) (some gs) := by
  obtain ⟨hs, hO, hR, hA⟩ := h
  obtain ⟨hS, hg⟩ := hO.store hn 1 (.int .i64 x)
  have hlen : (setGr ss x).length = ss.length := by simp [setGr]
  obtain ⟨_, _, e, hc, _⟩ := hO.form
  cases e
  have hR2 := hR.grown hg (fun q hq => .inr (fun j hj e => by cases hq; exact hA j hj gs (by rw [wblk, if_neg (by omega)]) e))
  rw [stg_setGr hn] at hS
  refine ⟨⟨hs, by have h := hS.rd; unfold stgCells at h; rw [hlen] at h ⊢; exact h, fun i hi => ?_⟩, hg⟩
  rw [hlen] at hi
  have := (hR2.2.1 i hi).rd
  rw [phsOf_get hi] at this
  have e : ((setGr ss x).getD i s0).ph = (ss.getD i s0).ph := by
    unfold setGr; rw [set0_get hn]; split
    · subst i; rfl
    · rfl
  rw [e]; exact this
/-- Stages whose first phase is written. -/
theorem OwnStg.setPhase {w : World} {lo lo' gs len cap : Nat} {ss : List Stg} {u : Value} {ys : List Int} (h : OwnStg w lo (.slice (some ⟨gs, 0, none⟩) len cap) ss) (hn : 0 < ss.length) (hu : Ints w lo' u ys) (hgs : gs < lo') (hlo : lo ≤ lo') :
    StgS (w.setCell ⟨gs, 0, none⟩ u) lo (.slice (some ⟨gs, 0, none⟩) len cap) (setPh ss ys) ∧ w.grownBy (w.setCell ⟨gs, 0, none⟩ u) (some gs) := by
  obtain ⟨hs, hO, hR, hA⟩ := h
  obtain ⟨hS, hg⟩ := hO.store hn 0 u
  have hlen : (setPh ss ys).length = ss.length := by simp [setPh]
  obtain ⟨_, _, e, hc, _⟩ := hO.form
  cases e
  have hR2 := hR.grown hg (fun q hq => .inr (fun j hj e => by cases hq; exact hA j hj gs (by rw [wblk, if_neg (by omega)]) e))
  rw [stg_setPh hn hR.1 u ys] at hS
  refine ⟨⟨hs.set 0 u, by have h := hS.rd; unfold stgCells at h; rw [hlen] at h ⊢; exact h, fun i hi => ?_⟩, hg⟩
  rw [hlen] at hi
  by_cases e : i = 0
  · subst e
    have e1 : (hs.set 0 u).getD 0 .nilFunc = u := by simp [List.getD_eq_getElem?_getD, hR.1, hn]
    have e2 : ((setPh ss ys).getD 0 s0).ph = ys := by unfold setPh; rw [set0_get hn, if_pos rfl]
    rw [e1, e2]
    exact Rd.mono (Rd.grown hu hg (fun q hq => .inl (by cases hq; exact hgs)) (by decide)) hlo
  · have e1 : (hs.set 0 u).getD i .nilFunc = hs.getD i .nilFunc := by simp [List.getD_eq_getElem?_getD, List.getElem?_set_ne (fun h => e h.symm)]
    have e2 : ((setPh ss ys).getD i s0).ph = (ss.getD i s0).ph := by unfold setPh; rw [set0_get hn, if_neg e]
    rw [e1, e2]
    have := (hR2.2.1 i hi).rd
    rw [phsOf_get hi] at this
    exact this

/-- What a drawn plan takes. -/
structure PlDr (p : Pln) : Prop where
  c : p.cl.length ≤ 8
  r : ∀ i, i < p.cl.length → (p.cl.getD i []).length ≤ 8
  s1 : 1 ≤ p.st.length
  s : p.st.length ≤ 5
  h : ∀ i, i < p.st.length → (p.st.getD i s0).ph.length ≤ 9
def AnyPlan (w : World) (hi rb p : Nat) (e : Ending) (w' : World) : Prop :=
  ∃ v' pl p', e = .returned v' ∧ PlanR w' w.heap.size v' pl ∧ PlDr pl ∧ p' ≤ p + 2500 ∧ Rdh hi w' rb p' ∧ w.grownBy w' (some rb)

set_option maxHeartbeats 16000000 in
theorem anyPlan_any {hi : Nat} (w : World) (rb p : Nat) (hr : Rdh hi w rb p) (hp : p ≤ 800000) :
    Calls Tryd.prog 36 #[.pointer (some ⟨rb, 0, none⟩)] w (AnyPlan w hi rb p) := by
  have hrb := hr.lt
  obtain ⟨w1, hw1⟩ : ∃ x, x = w.alloc (.cells #[.slice none 0 0, .slice none 0 0] 68) := ⟨_, rfl⟩
  have hX1 := Own.made w [.slice none 0 0, .slice none 0 0] 68 w.heap.size 2 1 rfl (Nat.le_refl _) (by decide)
  have hB1 : Below w.heap.size w w1 := by rw [hw1]; exact (Below.refl _ _).alloc (Nat.le_refl _) _
  have hs1 : w1.heap.size = w.heap.size + 1 := by rw [hw1]; simp
  rw [show (w.alloc (Obj.cells [Value.slice none 0 0, Value.slice none 0 0].toArray 68)) = w1 from hw1.symm] at hX1
  have hr1 := hr.below hB1 hrb
  have HX1 := Lib.hid hX1
  have HS1 := Lib.hid hs1
  have HW1 := Lib.hid hw1
  have HB1 := Lib.hid hB1
  clear hX1 hs1 hw1 hB1 hr
  go_enter Tryd.func36, Tryd.ntmps36
  go_wp2_with fail
  rw [← HW1.out]
  clear HW1
  have hone := one_LR w1 rb p [4, 3, 5, 2, 1, 6] 3 6 rfl hr1 (by omega) (by omega) (by omega)
  rw [HS1.out] at hone
  refine hone.mono ?_; rintro e w2 ⟨x, rfl, hx, hr2, hg2⟩
  have hx' := hx.out
  simp at hx'
  obtain ⟨n, rfl⟩ : ∃ m : Nat, x = m := ⟨x.toNat, by omega⟩
  have hn1 : 1 ≤ n := by omega
  have hn8 : n ≤ 8 := by omega
  have hz2 : w.heap.size + 1 ≤ w2.heap.size := by have := hg2.size; rw [HS1.out] at this; exact this
  clear hone hx hx' hr1
  go_wp2_with fail
  go_at_call 56
  refine (randomClear_any _ rb _ n hr2 (by omega) hn1 hn8).mono ?_; rintro e w3 ⟨v3, t, p3, rfl, hX3, hv3, hl3, hp3, hr3, hg3⟩
  have HV3 := Lib.hid hv3
  have HL3 := Lib.hid hl3
  have hz3 : w.heap.size + 1 ≤ w3.heap.size := Nat.le_trans hz2 hg3.size
  have HX3 := Lib.hid hX3.ss
  have HX3u := Lib.hid hX3.up
  have HG3 := Lib.hid (grownBy_trans hg2 hg3 (fun x hx => .inl hx))
  have HROW : Hid (∀ j, j < t.length → (t.getD j []).length ≤ 8) := fun j hj => by
    have := (rowOk_iff.1 ((validCl_iff.1 hv3).2.2.1 j hj)).1
    rw [this, hl3]; exact hn8
  clear hr2 hg2 hv3 hl3 hX3 hg3
  go_wp2_with fail
  go_at_call 55
  refine (randomPlan_any _ rb p3 w2.heap.size _ t hr3 (by omega) HX3.out (by omega) HV3.out).mono ?_; rintro e w4 ⟨vs, ss, p4, rfl, hO4, ⟨hn1s, hn5s, hph⟩, hp4, hr4, hg4⟩
  have hz4 : w.heap.size + 1 ≤ w4.heap.size := Nat.le_trans hz3 hg4.size
  have HG4 := Lib.hid (grownBy_trans HG3.out hg4 (fun x hx => .inl hx))
  have HC4 : Hid (OwnSSh w4 w2.heap.size w3.heap.size v3 t) := HX3u.out.grown hg4 (fun q hq => .inl (by cases hq; omega))
  obtain ⟨ac, cc, rfl, _, _⟩ := HC4.out.own.ss.form
  obtain ⟨as_, cs_, rfl, hcs1, hcs2⟩ := hO4.stg.form
  have hO4' : OwnStg w4 (w.heap.size + 1) (.slice as_ ss.length cs_) ss := hO4.mono hz3
  obtain ⟨gs, rfl, hgs0, hgs1⟩ : ∃ gs, as_ = some ⟨gs, 0, none⟩ ∧ w3.heap.size ≤ gs ∧ gs < w4.heap.size := by
    obtain ⟨hs, hO, _⟩ := hO4
    obtain ⟨g, e, h', h, _⟩ := hO.parts (by omega)
    exact ⟨g, e, h', h⟩
  obtain ⟨w5, hw5⟩ : ∃ x, x = w4.alloc (.cells #[.slice ac t.length cc, .slice (some ⟨gs, 0, none⟩) ss.length cs_] 68) := ⟨_, rfl⟩
  have hX5 := Own.made w4 [.slice ac t.length cc, .slice (some ⟨gs, 0, none⟩) ss.length cs_] 68 w4.heap.size 2 1 rfl (Nat.le_refl _) (by decide)
  rw [show (w4.alloc (Obj.cells [Value.slice ac t.length cc, Value.slice (some ⟨gs, 0, none⟩) ss.length cs_].toArray 68)) = w5 from hw5.symm] at hX5
  have hB5 : Below w4.heap.size w4 w5 := by rw [hw5]; exact (Below.refl _ _).alloc (Nat.le_refl _) _
  have hr5 := hr4.below hB5 hr4.lt
  have HX5 := Lib.hid hX5
  have HY5 : Hid (Own w5 w.heap.size 68 2 (.slice (some ⟨w.heap.size, 0, none⟩) 1 1) 1 [.slice none 0 0, .slice none 0 0]) := (HX1.out.grown HG4.out (fun q hq => .inl (by cases hq; exact hrb))).below hB5 (Nat.le_refl _)
  have HC5 := Lib.hid (HC4.out.below hB5 (Nat.le_refl _))
  have HO5 := Lib.hid (hO4'.below hB5 (Nat.le_refl _))
  have HG5 : Hid (w.grownBy w5 (some rb)) := grownBy_trans (grownBy_trans (grownBy_of_below HB1.out (Nat.le_refl _) (some rb)) HG4.out (fun x hx => .inl hx)) (grownBy_of_below hB5 (Nat.le_refl _) (some rb)) (fun x hx => .inl hx)
  have HW5 := Lib.hid hw5
  have HSTG4 := Lib.hid hO4'.stg
  have HG45 : Hid (w4.grownBy w5 (some rb)) := grownBy_of_below hB5 (Nat.le_refl _) (some rb)
  have HPH := Lib.hid hph
  have hrb4 : rb < w4.heap.size := by omega
  clear hX5 hB5 hw5 hO4 hO4' hr4 hr3 hg4 HX1 HG3 HG4 HC4 HX3 HX3u HB1 hph
  go_wp2_with fail
  rw [← HW5.out]
  clear HW5
  refine (pick_h _ _ _ 24 hr5 (by omega) (by omega)).mono ?_; rintro e w6 ⟨x, rfl, _, hr6, hg6⟩
  have HX6 := Lib.hid (HX5.out.grown hg6 (fun q hq => .inl (by cases hq; exact hrb4)))
  have HY6 := Lib.hid (HY5.out.grown hg6 (fun q hq => .inl (by cases hq; exact hrb)))
  have HC6 := Lib.hid (HC5.out.grown hg6 (fun q hq => .inl (by cases hq; omega)))
  have HO6 := Lib.hid (HO5.out.grown hg6 (fun q hq => by cases hq; omega))
  have HG6 := Lib.hid (grownBy_trans HG5.out hg6 (fun x hx => .inl hx))
  have HG46 := Lib.hid (grownBy_trans HG45.out hg6 (fun x hx => .inl hx))
  obtain ⟨_, e1, _, z6, p6, f6, _⟩ := HX6.out.parts (by omega)
  cases e1
  have b0 := p6 0 (by simp)
  have b1 := p6 1 (by simp)
  have fb0 := f6 0
  simp only [List.getElem_cons_zero, List.getElem_cons_succ] at b0 b1
  have HGS : Hid (gs < w4.heap.size ∧ gs < w6.heap.size ∧ w3.heap.size ≤ gs ∧ w.heap.size + 1 ≤ gs) := ⟨hgs1, by omega, hgs0, by omega⟩
  have hgne : gs ≠ w4.heap.size := by omega
  clear p6 f6 hr5 hg6 HX5 HY5 HC5 HO5 HG5 hgs1 hgs0
  -- the end, whatever the case: the plan is loaded and stored into the result
  have TL : Hid (∀ (W : World) (pl : Pln) (vc' vs' : Value) (p' : Nat), PlanR W (w.heap.size + 1) (.agg #[vc', vs']) pl → PlDr pl → p' ≤ p + 2500 → Rdh hi W rb p' → w.grownBy W (some rb) →
      ∀ u1 u2 : Value, AnyPlan w hi rb p (.returned (.agg #[vc', vs'])) ((W.setCell ⟨w.heap.size, 0, none⟩ u1).setCell ⟨w.heap.size, 1, none⟩ u2)) := by
    intro W pl vc' vs' p' h1 h2 h3 h4 h5 u1 u2
    have one : ∀ (W : World) (o : Nat) (u : Value), (PlanR W (w.heap.size + 1) (.agg #[vc', vs']) pl ∧ Rdh hi W rb p' ∧ w.grownBy W (some rb)) → (PlanR (W.setCell ⟨w.heap.size, o, none⟩ u) (w.heap.size + 1) (.agg #[vc', vs']) pl ∧ Rdh hi (W.setCell ⟨w.heap.size, o, none⟩ u) rb p' ∧ w.grownBy (W.setCell ⟨w.heap.size, o, none⟩ u) (some rb)) := by
      intro W o u ⟨a, b, c⟩
      have hg : W.grownBy (W.setCell ⟨w.heap.size, o, none⟩ u) (some w.heap.size) := cell_grown (b' := w.heap.size) u o
      exact ⟨a.grown hg (fun q hq => by cases hq; omega), b.grown hg (fun q hq => by cases hq; exact hrb), grownBy_trans c hg (fun q hq => .inr (by cases hq; exact Nat.le_refl _))⟩
    have := one _ 1 u2 (one _ 0 u1 ⟨h1, h4, h5⟩)
    exact ⟨_, pl, p', rfl, this.1.mono (by omega), h2, h3, this.2.1, this.2.2⟩
  have HDR : Hid (PlDr ⟨t, ss⟩) := ⟨by show t.length ≤ 8; rw [HL3.out]; exact hn8, HROW.out, hn1s, hn5s, HPH.out⟩
  by_cases hx0 : x = 0
  · have d0 : (x == 0) = true := by rw [hx0]; rfl
    have d1 : (x == 1) = false := by rw [hx0]; rfl
    have d2 : (x == 2) = false := by rw [hx0]; rfl
    clear hx0
    have s0l : (0 : Int) < (ss.length : Int) := by omega
    have s0n : 0 < ss.length := by omega
    have keepB : ∀ W, w6.grownBy W (some rb) → W.cell? ⟨w4.heap.size, 0, none⟩ = some (.slice ac t.length cc) ∧ W.cell? ⟨w4.heap.size, 1, none⟩ = some (.slice (some ⟨gs, 0, none⟩) ss.length cs_) := fun W h => ⟨(World.cell?_of_block (a := ⟨w4.heap.size, 0, none⟩) (h.block w4.heap.size z6 (fun e => by cases e; omega))).trans b0, (World.cell?_of_block (a := ⟨w4.heap.size, 1, none⟩) (h.block w4.heap.size z6 (fun e => by cases e; omega))).trans b1⟩
    have KB := Lib.hid keepB
    have HRL : Hid (∀ W, Below w6.heap.size w6 W → w6.grownBy W (some rb)) := fun W h => grownBy_of_below h (Nat.le_refl _) _
    clear keepB
    go_wp2_with fail
    go_region_held3 (fun w' => w'.cell? ⟨w4.heap.size, 1, none⟩ = some (.slice (some ⟨gs, 0, none⟩) ss.length cs_))
      (first | exact HK7.out | exact (World.cell?_setCell_far _ _ _ _ hgne).trans HK7.out | assumption | go_keep)
      ((go_at_call 57; refine (one_LR _ rb _ [4, 40, 41] _ 3 rfl (hr6.below (Below.drew (Below.refl w6.heap.size w6)) hr6.lt) (by omega) (by omega) (by omega)).mono ?_; rintro e w7 ⟨y, rfl, _, hr7, hg7⟩; have hG67 : w6.grownBy w7 (some rb) := grownBy_trans (HRL.out _ (Below.drew (Below.refl w6.heap.size w6))) hg7 (fun x hx => .inl hx); have HK7 := Lib.hid (KB.out _ hG67).2; have hO7 := HO6.out.grown hG67 (fun q hq => by cases hq; omega); obtain ⟨hs7, hO7o, _⟩ := hO7; obtain ⟨_, e1, _, z7, p7, f7, _⟩ := hO7o.parts s0n; cases e1; have q71 := p7 1 (by rw [stgCells_len]; omega); have f71 := f7 1; have HG67 := Lib.hid hG67; clear p7 f7 hO7o hg7 hG67))
    have hO7 := HO6.out.grown HG67.out (fun q hq => by cases hq; omega)
    obtain ⟨hS8, hg8⟩ := hO7.setGreen s0n y
    obtain ⟨w8, hw8⟩ : ∃ w8, w8 = w7.setCell ⟨gs, 1, none⟩ (.int .i64 y) := ⟨_, rfl⟩
    rw [← hw8] at hS8 hg8 ⊢
    have hX8 : Own w8 w4.heap.size 68 2 (.slice (some ⟨w4.heap.size, 0, none⟩) 1 1) 1 _ := (HX6.out.grown HG67.out (fun q hq => .inl (by cases hq; exact hrb4))).grown hg8 (fun q hq => .inl (by cases hq; exact HGS.out.1))
    have hY8 : Own w8 w.heap.size 68 2 (.slice (some ⟨w.heap.size, 0, none⟩) 1 1) 1 [.slice none 0 0, .slice none 0 0] := (HY6.out.grown HG67.out (fun q hq => .inl (by cases hq; exact hrb))).grown hg8 (fun q hq => .inr (by have := HGS.out; cases hq; simp [Value.ownBlock]; omega))
    have hC8 : IntSS w8 w2.heap.size (.slice ac t.length cc) t := ((HC6.out.grown HG67.out (fun q hq => .inl (by cases hq; omega))).grown hg8 (fun q hq => .inr (by cases hq; exact HGS.out.2.2.1))).own.ss
    have hr8 := hr7.grown hg8 (fun q hq => by have := HGS.out; cases hq; omega)
    have hG8 := grownBy_trans (grownBy_trans HG6.out HG67.out (fun x hx => .inl hx)) hg8 (fun q hq => .inr (by have := HGS.out; cases hq; omega))
    have hPR : PlanR w8 (w.heap.size + 1) (.agg #[.slice ac t.length cc, .slice (some ⟨gs, 0, none⟩) ss.length cs_]) ⟨t, setGr ss y⟩ := ⟨_, _, rfl, hC8.mono hz2, hS8⟩
    have hDR : PlDr ⟨t, setGr ss y⟩ := by
      have h := HDR.out
      refine ⟨h.c, h.r, by simpa [setGr] using h.s1, by simpa [setGr] using h.s, fun i hi => ?_⟩
      have hi' : i < ss.length := by simpa [setGr] using hi
      show ((setGr ss y).getD i s0).ph.length ≤ 9
      unfold setGr; rw [set0_get s0n]; split
      · exact h.h 0 s0n
      · exact h.h i hi'
    obtain ⟨_, e1, _, z8, p8, _, _⟩ := hX8.parts (by omega)
    cases e1
    have c0 := p8 0 (by simp)
    have c1 := p8 1 (by simp)
    simp only [List.getElem_cons_zero, List.getElem_cons_succ] at c0 c1
    obtain ⟨_, e1, _, z9, p9, f9, _⟩ := (hY8).parts (by omega)
    cases e1
    have r0 := p9 0 (by simp)
    have r1 := p9 1 (by simp)
    have fr0 := f9 0
    have fr1 := f9 1
    simp only [List.getElem_cons_zero, List.getElem_cons_succ] at r0 r1
    have HEND := Lib.hid (TL.out w8 ⟨t, setGr ss y⟩ (.slice ac t.length cc) (.slice (some ⟨gs, 0, none⟩) ss.length cs_) _ hPR hDR (by omega) hr8 hG8)
    clear p9 f9 TL
    clear p8 hX8 hY8 hC8 hS8 hg8 hO7 hw8 hPR hDR hr8 hG8
    go_wp2_with fail
    exact bodyPost_ret (v := .agg #[(.slice ac t.length cc), (.slice (some ⟨gs, 0, none⟩) ss.length cs_)]) (by simp [results, Tryd.results36, go_sem, r0, r1, fr0, fr1]) rfl (HEND.out _ _)
  · have d0 : (x == 0) = false := beq_eq_false_iff_ne.mpr hx0
    by_cases hx1 : x = 1
    · have d1 : (x == 1) = true := by rw [hx1]; rfl
      have d2 : (x == 2) = false := by rw [hx1]; rfl
      clear hx0 hx1
      have s0l : (0 : Int) < (ss.length : Int) := by omega
      have s0n : 0 < ss.length := by omega
      have keepB : ∀ W, w6.grownBy W (some rb) → W.cell? ⟨w4.heap.size, 0, none⟩ = some (.slice ac t.length cc) ∧ W.cell? ⟨w4.heap.size, 1, none⟩ = some (.slice (some ⟨gs, 0, none⟩) ss.length cs_) := fun W h => ⟨(World.cell?_of_block (a := ⟨w4.heap.size, 0, none⟩) (h.block w4.heap.size z6 (fun e => by cases e; omega))).trans b0, (World.cell?_of_block (a := ⟨w4.heap.size, 1, none⟩) (h.block w4.heap.size z6 (fun e => by cases e; omega))).trans b1⟩
      have KB := Lib.hid keepB
      have HRL : Hid (∀ W, Below w6.heap.size w6 W → w6.grownBy W (some rb)) := fun W h => grownBy_of_below h (Nat.le_refl _) _
      clear keepB
      go_wp2_with fail
      go_region_held3 (fun w' => w'.cell? ⟨w4.heap.size, 0, none⟩ = some (.slice ac t.length cc) ∧ w'.cell? ⟨w4.heap.size, 1, none⟩ = some (.slice (some ⟨gs, 0, none⟩) ss.length cs_))
        (first | exact HK7.out | exact ⟨(World.cell?_setCell_far _ _ _ _ hgne).trans HK7.out.1, (World.cell?_setCell_far _ _ _ _ hgne).trans HK7.out.2⟩ | assumption | go_keep)
        ((go_at_call 58; refine (anyPhase_any _ rb _ w2.heap.size _ t (hr6.below (Below.drew (Below.refl w6.heap.size w6)) hr6.lt) (by omega) ((HC6.out.below (Below.drew (Below.refl w6.heap.size w6)) (Nat.le_refl _)).own.ss) (by omega) HV3.out).mono ?_; rintro e w7 ⟨v7, ys, p7, rfl, hI7, hl7, hp7, hr7, hg7⟩; obtain ⟨a7, c7, rfl, _, _⟩ := hI7.form; have hG67 : w6.grownBy w7 (some rb) := grownBy_trans (HRL.out _ (Below.drew (Below.refl w6.heap.size w6))) hg7 (fun x hx => .inl hx); have HK7 := Lib.hid (KB.out _ hG67); have hO7 := HO6.out.grown hG67 (fun q hq => by cases hq; omega); obtain ⟨hs7, hO7o, _⟩ := hO7; obtain ⟨_, e1, _, z7, p7f, f7, _⟩ := hO7o.parts s0n; cases e1; have q71 := p7f 0 (by rw [stgCells_len]; omega); have f71 := f7 0; have HG67 := Lib.hid hG67; have HI7 := Lib.hid hI7; clear p7f f7 hO7o hg7 hG67 hI7))
      have hO7 := HO6.out.grown HG67.out (fun q hq => by cases hq; omega)
      obtain ⟨hS8, hg8⟩ := hO7.setPhase s0n HI7.out (by have := HGS.out; show gs < w6.heap.size; omega) (by have := HGS.out; show w.heap.size + 1 ≤ w6.heap.size; omega)
      obtain ⟨w8, hw8⟩ : ∃ w8, w8 = w7.setCell ⟨gs, 0, none⟩ (.slice a7 ys.length c7) := ⟨_, rfl⟩
      rw [← hw8] at hS8 hg8 ⊢
      have hX8 : Own w8 w4.heap.size 68 2 (.slice (some ⟨w4.heap.size, 0, none⟩) 1 1) 1 _ := (HX6.out.grown HG67.out (fun q hq => .inl (by cases hq; exact hrb4))).grown hg8 (fun q hq => .inl (by cases hq; exact HGS.out.1))
      have hY8 : Own w8 w.heap.size 68 2 (.slice (some ⟨w.heap.size, 0, none⟩) 1 1) 1 [.slice none 0 0, .slice none 0 0] := (HY6.out.grown HG67.out (fun q hq => .inl (by cases hq; exact hrb))).grown hg8 (fun q hq => .inr (by have := HGS.out; cases hq; simp [Value.ownBlock]; omega))
      have hC8 : IntSS w8 w2.heap.size (.slice ac t.length cc) t := ((HC6.out.grown HG67.out (fun q hq => .inl (by cases hq; omega))).grown hg8 (fun q hq => .inr (by cases hq; exact HGS.out.2.2.1))).own.ss
      have hr8 := hr7.grown hg8 (fun q hq => by have := HGS.out; cases hq; omega)
      have hG8 := grownBy_trans (grownBy_trans HG6.out HG67.out (fun x hx => .inl hx)) hg8 (fun q hq => .inr (by have := HGS.out; cases hq; omega))
      have hPR : PlanR w8 (w.heap.size + 1) (.agg #[.slice ac t.length cc, .slice (some ⟨gs, 0, none⟩) ss.length cs_]) ⟨t, setPh ss ys⟩ := ⟨_, _, rfl, hC8.mono hz2, hS8⟩
      have hDR : PlDr ⟨t, setPh ss ys⟩ := by
        have h := HDR.out
        refine ⟨h.c, h.r, by simpa [setPh] using h.s1, by simpa [setPh] using h.s, fun i hi => ?_⟩
        have hi' : i < ss.length := by simpa [setPh] using hi
        show ((setPh ss ys).getD i s0).ph.length ≤ 9
        unfold setPh; rw [set0_get s0n]; split
        · exact hl7
        · exact h.h i hi'
      obtain ⟨_, e1, _, z8, p8, _, _⟩ := hX8.parts (by omega)
      cases e1
      have c0 := p8 0 (by simp)
      have c1 := p8 1 (by simp)
      simp only [List.getElem_cons_zero, List.getElem_cons_succ] at c0 c1
      obtain ⟨_, e1, _, z9, p9, f9, _⟩ := (hY8).parts (by omega)
      cases e1
      have r0 := p9 0 (by simp)
      have r1 := p9 1 (by simp)
      have fr0 := f9 0
      have fr1 := f9 1
      simp only [List.getElem_cons_zero, List.getElem_cons_succ] at r0 r1
      have HEND := Lib.hid (TL.out w8 ⟨t, setPh ss ys⟩ (.slice ac t.length cc) (.slice (some ⟨gs, 0, none⟩) ss.length cs_) _ hPR hDR (by omega) hr8 hG8)
      clear p9 f9 TL
      clear p8 hX8 hY8 hC8 hS8 hg8 hO7 hw8 hPR hDR hr8 hG8
      go_wp2_with fail
      exact bodyPost_ret (v := .agg #[(.slice ac t.length cc), (.slice (some ⟨gs, 0, none⟩) ss.length cs_)]) (by simp [results, Tryd.results36, go_sem, r0, r1, fr0, fr1]) rfl (HEND.out _ _)
    · have d1 : (x == 1) = false := beq_eq_false_iff_ne.mpr hx1
      by_cases hx2 : x = 2
      · have d2 : (x == 2) = true := by rw [hx2]; rfl
        clear hx0 hx1 hx2
        go_wp2_with fail
        go_at_call 59
        refine (anyClear_any _ rb _ hr6 (by omega)).mono ?_; rintro e w7 ⟨v7, t7, p7, rfl, hI7, ht7, hp7, hr7, hg7⟩
        obtain ⟨a7, c7, rfl, _, _⟩ := hI7.form
        obtain ⟨_, e1, _, z7, p7f, f7, _⟩ := (HX6.out.grown hg7 (fun q hq => .inl (by cases hq; exact hrb4))).parts (by omega)
        cases e1
        have k0 := p7f 0 (by simp)
        have k1 := p7f 1 (by simp)
        have fk0 := f7 0
        simp only [List.getElem_cons_zero, List.getElem_cons_succ] at k0 k1
        obtain ⟨hX8, hg8⟩ := (HX6.out.grown hg7 (fun q hq => .inl (by cases hq; exact hrb4))).store (by omega) 0 (.slice a7 t7.length c7)
        obtain ⟨w8, hw8⟩ : ∃ w8, w8 = w7.setCell ⟨w4.heap.size, 0, none⟩ (.slice a7 t7.length c7) := ⟨_, rfl⟩
        rw [← hw8] at hX8 hg8
        have hY8 : Own w8 w.heap.size 68 2 (.slice (some ⟨w.heap.size, 0, none⟩) 1 1) 1 [.slice none 0 0, .slice none 0 0] := (HY6.out.grown hg7 (fun q hq => .inl (by cases hq; exact hrb))).grown hg8 (fun q hq => .inr (by cases hq; simp [Value.ownBlock]; omega))
        have hC8 : IntSS w8 w6.heap.size (.slice a7 t7.length c7) t7 := hI7.grown hg8 (fun q hq => by cases hq; exact z6)
        have hS8 : StgS w8 (w.heap.size + 1) (.slice (some ⟨gs, 0, none⟩) ss.length cs_) ss := by
          exact HSTG4.out.grown (grownBy_trans (grownBy_trans HG46.out hg7 (fun x hx => .inl hx)) hg8 (fun q hq => .inr (by cases hq; exact Nat.le_refl _))) (fun q hq => by cases hq; omega)
        have hr8 := hr7.grown hg8 (fun q hq => by cases hq; omega)
        have hG8 := grownBy_trans (grownBy_trans HG6.out hg7 (fun x hx => .inl hx)) hg8 (fun q hq => .inr (by cases hq; omega))
        have hPR : PlanR w8 (w.heap.size + 1) (.agg #[.slice a7 t7.length c7, .slice (some ⟨gs, 0, none⟩) ss.length cs_]) ⟨t7, ss⟩ := ⟨_, _, rfl, hC8.mono (by omega), hS8⟩
        have hDR : PlDr ⟨t7, ss⟩ := ⟨ht7.1, ht7.2, HDR.out.s1, HDR.out.s, HDR.out.h⟩
        obtain ⟨_, e1, _, z9, p9, f9, _⟩ := (HY6.out.grown hg7 (fun q hq => .inl (by cases hq; exact hrb)) : Own w7 w.heap.size 68 2 (.slice (some ⟨w.heap.size, 0, none⟩) 1 1) 1 [.slice none 0 0, .slice none 0 0]).parts (by omega)
        cases e1
        have r0 := p9 0 (by simp)
        have r1 := p9 1 (by simp)
        have fr0 := f9 0
        have fr1 := f9 1
        simp only [List.getElem_cons_zero, List.getElem_cons_succ] at r0 r1
        have HEND := Lib.hid (TL.out w8 ⟨t7, ss⟩ _ _ p7 hPR hDR (by omega) hr8 hG8)
        rw [hw8] at HEND
        have hne9 : w4.heap.size ≠ w.heap.size := by omega
        clear p7f f7 p9 f9 TL hI7 hg7 hw8 hPR hDR hr8 hG8 hX8 hY8 hC8 hS8 hg8
        go_wp2_with fail
        exact bodyPost_ret (v := .agg #[.slice a7 t7.length c7, .slice (some ⟨gs, 0, none⟩) ss.length cs_]) (by simp [results, Tryd.results36, go_sem, k0, k1, fk0, r0, r1, fr0, fr1]) rfl (HEND.out _ _)
      · have d2 : (x == 2) = false := beq_eq_false_iff_ne.mpr hx2
        clear hx0 hx1 hx2
        have hPR : PlanR w6 (w.heap.size + 1) (.agg #[.slice ac t.length cc, .slice (some ⟨gs, 0, none⟩) ss.length cs_]) ⟨t, ss⟩ := ⟨_, _, rfl, HC6.out.own.ss.mono hz2, HO6.out.stg⟩
        have hDR := HDR.out
        have hG6 := HG6.out
        obtain ⟨_, e1, _, z9, p9, f9, _⟩ := ((HY6.out : Own w6 w.heap.size 68 2 (.slice (some ⟨w.heap.size, 0, none⟩) 1 1) 1 [.slice none 0 0, .slice none 0 0])).parts (by omega)
        cases e1
        have r0 := p9 0 (by simp)
        have r1 := p9 1 (by simp)
        have fr0 := f9 0
        have fr1 := f9 1
        simp only [List.getElem_cons_zero, List.getElem_cons_succ] at r0 r1
        have HEND := Lib.hid (TL.out w6 ⟨t, ss⟩ (.slice ac t.length cc) (.slice (some ⟨gs, 0, none⟩) ss.length cs_) _ hPR hDR (by omega) hr6 hG6)
        clear p9 f9 TL
        clear hPR hDR hG6
        go_wp2_with fail
        exact bodyPost_ret (v := .agg #[(.slice ac t.length cc), (.slice (some ⟨gs, 0, none⟩) ss.length cs_)]) (by simp [results, Tryd.results36, go_sem, r0, r1, fr0, fr1]) rfl (HEND.out _ _)
end Go.Proofs.YteeikhkcdlcnhaaDoor
