/- Smoothing: the closure, impl.SmoothSensor and spec.SmoothSensor, walked. -/
import Derived.Test.YtmckkbokebapcaaSens2
import Derived.Test.YtmckkbokebapcaaSens4
import Derived.Test.YtmckkbokebapcaaRdr2
namespace Go.Proofs.Ytmckkbokebapcaa
open Go.RowKit

theorem smS_succ (xs : List Bool) (h k : Nat) : smS xs h (k + 1) = if xs.getD k false = (smS xs h k).1 then ((smS xs h k).1, 0) else if (smS xs h k).2 + 1 = h then (xs.getD k false, 0) else ((smS xs h k).1, (smS xs h k).2 + 1) := rfl

/-- The three captured variables of the closure lie in blocks b, b + 1, b + 2: hold, state, differing. -/
def Cap (w : World) (b h d : Nat) (s : Bool) : Prop :=
  w.heap[b]? = some (.cells #[.int .i64 h] 3 (0, 0)) ∧ w.heap[b + 1]? = some (.cells #[.bool s] 4 (0, 0)) ∧ w.heap[b + 2]? = some (.cells #[.int .i64 d] 3 (0, 0))

theorem Cap.grown {w w' : World} {b h d : Nat} {s : Bool} {row : Option Nat} (hc : Cap w b h d s) (hg : w.grownBy w' row) (hr : ∀ k, row = some k → b + 2 < k) : Cap w' b h d s := by
  obtain ⟨h1, h2, h3⟩ := hc
  have l1 := (Array.getElem?_eq_some_iff.1 h1).1
  have l2 := (Array.getElem?_eq_some_iff.1 h2).1
  have l3 := (Array.getElem?_eq_some_iff.1 h3).1
  refine ⟨?_, ?_, ?_⟩
  · rw [hg.block _ l1 (fun e => by have := hr _ e.symm; omega)]; exact h1
  · rw [hg.block _ l2 (fun e => by have := hr _ e.symm; omega)]; exact h2
  · rw [hg.block _ l3 (fun e => by have := hr _ e.symm; omega)]; exact h3

theorem newSmoother_any (w : World) (h : Nat) :
    Calls Try.prog 40 #[.int .i64 h] w fun e w' =>
      e = .returned (.func (.func 42) #[] #[.pointer (some ⟨w.heap.size + 1, 0, none⟩), .pointer (some ⟨w.heap.size + 2, 0, none⟩), .pointer (some ⟨w.heap.size, 0, none⟩)]) ∧ Cap w' w.heap.size h 0 false ∧ w'.heap.size = w.heap.size + 3 ∧ Below w.heap.size w w' := by
  go_enter Try.func40, Try.ntmps40
  go_wp2
  go_ret
  refine ⟨rfl, ⟨?_, ?_, ?_⟩, by simp, by repeat (first | exact Below.refl _ _ | (refine Below.alloc ?_ (by simp <;> omega) _))⟩
  · rw [heap_alloc_old _ _ (by simp <;> omega), heap_alloc_old _ _ (by simp)]
    exact heap_alloc_new w _
  · rw [heap_alloc_old _ _ (by simp)]
    have := heap_alloc_new (w.alloc (.cells #[.int .i64 h] 3)) (.cells #[.bool false] 4)
    simpa using this
  · have := heap_alloc_new ((w.alloc (.cells #[.int .i64 h] 3)).alloc (.cells #[.bool false] 4)) (.cells #[.int .i64 0] 3)
    simpa using this

def SmPost (b h d : Nat) (s r : Bool) (w : World) (e : Ending) (w' : World) : Prop :=
  ∃ s' d', (s', d') = (if r = s then (s, 0) else if d + 1 = h then (r, 0) else (s, d + 1)) ∧ e = .returned (.bool s') ∧ Cap w' b h d' s' ∧ Chg (fun k => k = b + 1 ∨ k = b + 2) w w'

theorem smoother_call (w : World) (b h d : Nat) (s r : Bool) (hc : Cap w b h d s) (hd : d < h) (hh : h ≤ 9) :
    Calls Try.prog 42 #[.bool r, .pointer (some ⟨b + 1, 0, none⟩), .pointer (some ⟨b + 2, 0, none⟩), .pointer (some ⟨b, 0, none⟩)] w (SmPost b h d s r w) := by
  obtain ⟨c1, c2, c3⟩ := hc
  have e1 : w.cell? ⟨b, 0, none⟩ = some (.int .i64 h) := by simp [World.cell?, c1]
  have e2 : w.cell? ⟨b + 1, 0, none⟩ = some (.bool s) := by simp [World.cell?, c2]
  have e3 : w.cell? ⟨b + 2, 0, none⟩ = some (.int .i64 d) := by simp [World.cell?, c3]
  have f2 : w.frozen? ⟨b + 1, 0, none⟩ = false := by simp [World.frozen?, c2]
  have f3 : w.frozen? ⟨b + 2, 0, none⟩ = false := by simp [World.frozen?, c3]
  have st2 : ∀ (w : World) (x y : Bool), w.heap[b + 1]? = some (.cells #[.bool x] 4 (0, 0)) → (w.setCell ⟨b + 1, 0, none⟩ (.bool y)).heap[b + 1]? = some (.cells #[.bool y] 4 (0, 0)) := fun w x y h => by
    simp [World.setCell, Array.getElem?_modify, h]
  have st3 : ∀ (w : World) (x y : Int), w.heap[b + 2]? = some (.cells #[.int .i64 x] 3 (0, 0)) → (w.setCell ⟨b + 2, 0, none⟩ (.int .i64 y)).heap[b + 2]? = some (.cells #[.int .i64 y] 3 (0, 0)) := fun w x y h => by
    simp [World.setCell, Array.getElem?_modify, h]
  have ot : ∀ (w : World) (a : Addr) (u : Value) k, k ≠ a.block → (w.setCell a u).heap[k]? = w.heap[k]? := fun w a u k h => Below.heap_setCell _ _ _ _ h
  have C1 := Lib.hid c1; have C2 := Lib.hid c2; have C3 := Lib.hid c3; have S2 := Lib.hid st2; have S3 := Lib.hid st3; have OT := Lib.hid ot
  clear c1 c2 c3 st2 st3 ot
  by_cases hrs : r = s
  · subst hrs
    have t1 : (r == r) = true := by simp
    go_enter Try.func42, Try.ntmps42
    go_wp2
    go_ret
    refine ⟨r, 0, by simp, rfl, ⟨?_, ?_, ?_⟩, (Chg.refl _ _).setCell _ (.inr rfl) _⟩
    · rw [OT.out _ _ _ _ (by simp)]; exact C1.out
    · rw [OT.out _ _ _ _ (by simp)]; exact C2.out
    · exact S3.out _ _ _ C3.out
  · have t1 : (r == s) = false := by cases r <;> cases s <;> simp_all
    by_cases hdh : d + 1 = h
    · have t2 : ((d : Int) + 1 == (h : Int)) = true := by simp; omega
      have HD := Lib.hid hdh
      have HR := Lib.hid hrs
      clear hdh hrs
      go_enter Try.func42, Try.ntmps42
      go_wp2
      go_ret
      refine ⟨r, 0, by rw [if_neg HR.out, if_pos HD.out], rfl, ⟨?_, ?_, ?_⟩, (((Chg.refl _ _).setCell _ (.inr rfl) _).setCell _ (.inl rfl) _).setCell _ (.inr rfl) _⟩
      · rw [OT.out _ _ _ _ (by simp), OT.out _ _ _ _ (by simp), OT.out _ _ _ _ (by simp)]; exact C1.out
      · rw [OT.out _ _ _ _ (by simp)]; refine S2.out _ s _ ?_; rw [OT.out _ _ _ _ (by simp)]; exact C2.out
      · refine S3.out _ ((d : Int) + 1) _ ?_; rw [OT.out _ _ _ _ (by simp)]; exact S3.out _ _ _ C3.out
    · have t2 : ((d : Int) + 1 == (h : Int)) = false := by simp; omega
      have HD := Lib.hid hdh
      have HR := Lib.hid hrs
      clear hdh hrs
      go_enter Try.func42, Try.ntmps42
      go_wp2
      go_ret
      refine ⟨s, d + 1, by rw [if_neg HR.out, if_neg HD.out], rfl, ⟨?_, ?_, ?_⟩, ((Chg.refl _ _).setCell _ (.inr rfl) _)⟩
      · rw [OT.out _ _ _ _ (by simp)]; exact C1.out
      · rw [OT.out _ _ _ _ (by simp)]; exact C2.out
      · exact S3.out _ _ _ C3.out

def sm (xs : List Bool) (n : Int) : List Bool := if xs.length ≤ 150 ∧ 1 ≤ n ∧ n ≤ 9 then smOut xs n.toNat xs.length else []
theorem sm_len (xs : List Bool) (n : Int) : (sm xs n).length ≤ 150 ∧ (sm xs n).length ≤ xs.length := by
  unfold sm; split
  · rw [smOut_len]; omega
  · simp

theorem impl_smooth (w : World) (v : Value) (xs : List Bool) (n : Int) (hv : Bools w 0 v xs) :
    Calls Try.prog 26 #[v, .int .i64 n] w fun e w' => ∃ v', e = .returned v' ∧ Own w' w.heap.size 4 1 v' (sm xs n).length ((sm xs n).map .bool) ∧ Below w.heap.size w w' := by
  obtain ⟨ao, cap, rfl, hcap, hm⟩ := hv.form
  by_cases h1 : xs.length ≤ 150 ∧ 1 ≤ n ∧ n ≤ 9
  · have HS : Hid (sm xs n = smOut xs n.toNat xs.length) := by unfold Hid sm; rw [if_pos h1]
    obtain ⟨h1, h2, h3⟩ := h1
    obtain ⟨h, rfl⟩ : ∃ m : Nat, n = m := ⟨n.toNat, by omega⟩
    simp only [Int.toNat_natCast] at HS
    have ht : (decide ((1 : Int) ≤ h) && decide ((h : Int) ≤ 9)) = true := by simp; omega
    obtain ⟨i0, hi, hz0, hz1, hz2⟩ := info_parts info_bool
    go_enter Try.func26, Try.ntmps26
    go_wp2_with (first
      | (go_at_call 33; refine (within_any _ _ _ _).mono ?_; rintro e w' ⟨rfl, rfl⟩; rw [ht])
      | (go_at_call 40; refine (newSmoother_any _ h).mono ?_; rintro e w1 ⟨rfl, hC, hs1, hB1⟩)
      | (at_make; refine wpList_make_own _ rfl _ _ 22 rfl w1.heap.size 4 i0 (.bool false) 1 Try.underlying22 hi hz0 hz1 .i64 .i64 _ xs.length rfl rfl (by omega) (by rw [hz2]; omega) (by unfold maxLen; omega) (Nat.le_refl _) ?_; intro w2 hown hg2))
    have hO : Own w2 (w.heap.size + 3) 4 1 (.slice (some ⟨w.heap.size + 3, 0, none⟩) 0 xs.length) 0 [] := by
      have := hown; rw [hs1] at this; exact .inl this
    have hC2 := hC.grown hg2 (fun k hk => by cases hk)
    have hB2 : Below w.heap.size w w2 := hB1.trans (below_of_grownBy hg2 (by omega) (fun k hk => by cases hk))
    have hz2 := hg2.size
    clear hown hC hg2 hB1
    go_loopw [6, 24] (fun v i wo => ∃ k : Nat, k ≤ xs.length ∧ i = .int .i64 k ∧ Own wo (w.heap.size + 3) 4 1 v k ((smOut xs h k).map .bool) ∧ Cap wo w.heap.size h (smS xs h k).2 (smS xs h k).1 ∧ Below w.heap.size w wo ∧ w.heap.size + 3 ≤ wo.heap.size)
      (fun _ i _ => xs.length - (intOf i).toNat)
    case atStart => exact ⟨0, Nat.zero_le _, rfl, hO, hC2, hB2, by omega⟩
    case round =>
      clear hO hC2 hB2 hz2 hs1
      obtain ⟨k, hk, rfl, hO, hC, hB, hsz⟩ := hrel
      by_cases hkn : k < xs.length
      · have hr' := Rd.below hv hB (Nat.le_refl _) (by decide)
        obtain ⟨_, _, _, hc⟩ := hr'.cellMap false
        have hc2 := hc (by omega)
        clear hc hr'
        obtain ⟨b, off, rfl, _, hb, hc⟩ := hc2
        have hck := hc k hkn
        clear hc
        obtain ⟨c, hcc⟩ : ∃ c, c = xs.getD k false := ⟨_, rfl⟩
        rw [← hcc] at hck
        have HT := Lib.hid (smOut_succ xs h k)
        have hd := smS_lt xs (h := h) (by omega) k
        have hss := smS_succ xs h k
        rw [← hcc] at hss
        have HSS := Lib.hid hss
        clear hcc hss
        go_wp2_with (first
          | (go_at_call 42; refine (smoother_call _ _ h _ _ c hC hd (by omega)).mono ?_; rintro e w3 ⟨s', d', heq, rfl, hC', hchg⟩; have hO' := hO.chg hchg (fun k hk => (by rcases hk with h | h <;> (left; omega))); have hz3 := hchg.size; rw [← HSS.out] at heq; have HEQ := Lib.hid heq; clear heq)
          | (at_builtin; refine wpList_append_one _ rfl _ _ 22 rfl 4 (.bool false) 1 Try.underlying22 info_bool rfl (w.heap.size + 3) _ _ _ rfl hO' _ _ rfl rfl (by omega) (by omega) (by omega) ?_; intro v' w4 hO4 hg4 _))
        have hg4s := hg4.size
        go_roundw
        case rel => exact ⟨k + 1, by omega, by go_num, by (rw [HT.out, List.map_append, ← HEQ.out]; exact hO4), by (rw [← HEQ.out]; exact hC'.grown hg4 (fun x hx => by have := (hO'.wblk hx).1; omega)), (hB.trans (below_of_chg hchg (by omega) (fun k hk => by rcases hk with h | h <;> omega))).trans (below_of_grownBy hg4 (by omega) (fun x hx => by have := (hO'.wblk hx).1; omega)), by omega⟩
        case measure => simp [intOf]; omega
      · go_wp2
        go_ret
        refine ⟨_, rfl, ?_, hB⟩
        obtain rfl : k = xs.length := by omega
        rw [HS.out, smOut_len]
        exact hO.mono (by omega)
  · have HS : Hid (sm xs n = []) := by unfold Hid sm; rw [if_neg h1]
    by_cases h0 : xs.length ≤ 150
    · have ht : (decide ((1 : Int) ≤ n) && decide (n ≤ 9)) = false := by simp; omega
      clear h1
      go_enter Try.func26, Try.ntmps26
      go_wp2_with (go_at_call 33; refine (within_any _ _ _ _).mono ?_; rintro e w' ⟨rfl, rfl⟩; rw [ht])
      go_ret
      exact ⟨_, rfl, by rw [HS.out]; exact Own.nil _ _ _ _, Below.refl _ _⟩
    · clear h1
      go_enter Try.func26, Try.ntmps26
      go_wp2_with (go_at_call 33; refine (within_any _ _ _ _).mono ?_; rintro e w' ⟨rfl, rfl⟩)
      go_ret
      exact ⟨_, rfl, by rw [HS.out]; exact Own.nil _ _ _ _, Below.refl _ _⟩

theorem spec_smooth0 (w : World) (v : Value) (xs : List Bool) (h : Nat) (hv : Bools w 0 v xs) (hh : 1 ≤ h) (hh' : h ≤ 9) (hl : xs.length ≤ 150) :
    Calls Try.prog 39 #[v, .int .i64 h] w fun e w' => ∃ v', e = .returned v' ∧ Own w' w.heap.size 4 1 v' xs.length ((smOut xs h xs.length).map .bool) ∧ Below w.heap.size w w' := by
  obtain ⟨ao, cap, rfl, hcap, hm⟩ := hv.form
  have hO := Own.made w [] 4 w.heap.size 1 0 rfl (Nat.le_refl _) (by decide)
  have hB1 : Below w.heap.size w (w.alloc (.cells #[] 4)) := (Below.refl _ _).alloc (Nat.le_refl _) _
  go_enter Try.func39, Try.ntmps39
  go_wp2
  go_loopw [5, 6, 7, 8] (fun v st d i wo => ∃ k : Nat, k ≤ xs.length ∧ i = .int .i64 k ∧ st = .bool (smS xs h k).1 ∧ d = .int .i64 (smS xs h k).2 ∧ Own wo w.heap.size 4 1 v k ((smOut xs h k).map .bool) ∧ Below w.heap.size w wo ∧ w.heap.size ≤ wo.heap.size)
      (fun _ _ _ i _ => xs.length - (intOf i).toNat)
  case atStart => exact ⟨0, Nat.zero_le _, rfl, rfl, rfl, hO, hB1, by simp⟩
  case round =>
    clear hO hB1
    obtain ⟨k, hk, rfl, rfl, rfl, hO, hB, hsz⟩ := hrel
    by_cases hkn : k < xs.length
    · have hr' := Rd.below hv hB (Nat.le_refl _) (by decide)
      obtain ⟨_, _, _, hc⟩ := hr'.cellMap false
      have hc2 := hc (by omega)
      clear hc hr'
      obtain ⟨b, off, rfl, _, hb, hc⟩ := hc2
      have hck := hc k hkn
      clear hc
      have HT := Lib.hid (smOut_succ xs h k)
      have hss := smS_succ xs h k
      have hd := smS_lt xs hh k
      obtain ⟨c, hcc⟩ : ∃ c, c = xs.getD k false := ⟨_, rfl⟩
      rw [← hcc] at hck hss
      obtain ⟨s, hs⟩ : ∃ s, s = (smS xs h k).1 := ⟨_, rfl⟩
      obtain ⟨d, hdd⟩ : ∃ d, d = (smS xs h k).2 := ⟨_, rfl⟩
      rw [← hs, ← hdd] at hss ⊢
      rw [← hdd] at hd
      clear hcc hs hdd
      by_cases e : c = s
      · subst e
        have HS : Hid (smS xs h (k + 1) = (c, 0)) := by unfold Hid; rw [hss, if_pos rfl]
        have t1 : (!(c == c)) = false := by simp
        clear hss
        go_wp2_with (at_builtin; refine wpList_append_one _ rfl _ _ 22 rfl 4 (.bool false) 1 Try.underlying22 info_bool rfl w.heap.size _ _ _ rfl hO _ _ rfl rfl (by omega) (by omega) (by omega) ?_; intro v' w4 hO4 hg4 _)
        have hg4s := hg4.size
        go_roundw
        case rel => exact ⟨k + 1, by omega, by go_num, by (rw [HS.out]), by (rw [HS.out]; first | rfl | go_num), by (rw [HT.out, List.map_append, HS.out]; exact hO4), (hB.trans (below_of_grownBy hg4 (by omega) (fun x hx => by have := (hO.wblk hx).1; omega))), by omega⟩
        case measure => simp [intOf]; omega
      · have t1 : (!(c == s)) = true := by cases c <;> cases s <;> simp_all
        by_cases e2 : d + 1 = h
        · have HS : Hid (smS xs h (k + 1) = (c, 0)) := by unfold Hid; rw [hss, if_neg e, if_pos e2]
          clear hss e
          have e3 : (h : Int) ≤ d + 1 := by omega
          clear e2
          go_wp2_with (at_builtin; refine wpList_append_one _ rfl _ _ 22 rfl 4 (.bool false) 1 Try.underlying22 info_bool rfl w.heap.size _ _ _ rfl hO _ _ rfl rfl (by omega) (by omega) (by omega) ?_; intro v' w4 hO4 hg4 _)
          have hg4s := hg4.size
          go_roundw
          case rel => exact ⟨k + 1, by omega, by go_num, by (rw [HS.out]), by (rw [HS.out]; first | rfl | go_num), by (rw [HT.out, List.map_append, HS.out]; exact hO4), (hB.trans (below_of_grownBy hg4 (by omega) (fun x hx => by have := (hO.wblk hx).1; omega))), by omega⟩
          case measure => simp [intOf]; omega
        · have HS : Hid (smS xs h (k + 1) = (s, d + 1)) := by unfold Hid; rw [hss, if_neg e, if_neg e2]
          clear hss e
          have e3 : ¬ (h : Int) ≤ d + 1 := by omega
          clear e2
          go_wp2_with (at_builtin; refine wpList_append_one _ rfl _ _ 22 rfl 4 (.bool false) 1 Try.underlying22 info_bool rfl w.heap.size _ _ _ rfl hO _ _ rfl rfl (by omega) (by omega) (by omega) ?_; intro v' w4 hO4 hg4 _)
          have hg4s := hg4.size
          go_roundw
          case rel => exact ⟨k + 1, by omega, by go_num, by (rw [HS.out]), by (rw [HS.out]; first | rfl | go_num), by (rw [HT.out, List.map_append, HS.out]; exact hO4), (hB.trans (below_of_grownBy hg4 (by omega) (fun x hx => by have := (hO.wblk hx).1; omega))), by omega⟩
          case measure => simp [intOf]; omega
    · go_wp2
      go_ret
      obtain rfl : k = xs.length := by omega
      exact ⟨_, rfl, hO, hB⟩

theorem spec_smooth (w : World) (v : Value) (xs : List Bool) (n : Int) (hv : Bools w 0 v xs) :
    Calls Try.prog 25 #[v, .int .i64 n] w fun e w' => ∃ v', e = .returned v' ∧ Own w' w.heap.size 4 1 v' (sm xs n).length ((sm xs n).map .bool) ∧ Below w.heap.size w w' := by
  have hv0 := hv
  obtain ⟨ao, cap, rfl, hcap, hm⟩ := hv.form
  by_cases h1 : xs.length ≤ 150 ∧ 1 ≤ n ∧ n ≤ 9
  · have HS : Hid (sm xs n = smOut xs n.toNat xs.length) := by unfold Hid sm; rw [if_pos h1]
    obtain ⟨h1, h2, h3⟩ := h1
    obtain ⟨h, rfl⟩ : ∃ m : Nat, n = m := ⟨n.toNat, by omega⟩
    simp only [Int.toNat_natCast] at HS
    have ht : (decide ((1 : Int) ≤ h) && decide ((h : Int) ≤ 9)) = true := by simp; omega
    have ht2 : decide ((xs.length : Int) ≤ 150) = true := by simp; omega
    go_enter Try.func25, Try.ntmps25
    go_wp2_with (first
      | (go_at_call 32; refine (inRange_any _ _ _ _).mono ?_; rintro e w' ⟨rfl, rfl⟩; rw [ht])
      | (go_at_call 31; refine (validSignals_any w 0 _ xs hv0).mono ?_; rintro e w' ⟨rfl, rfl⟩; rw [ht2])
      | (go_at_call 39; refine (spec_smooth0 w _ xs h hv0 (by omega) (by omega) h1).mono ?_; rintro e w1 ⟨v1, rfl, hO, hB⟩))
    go_ret
    exact ⟨_, rfl, by rw [HS.out, smOut_len]; exact hO, hB⟩
  · have HS : Hid (sm xs n = []) := by unfold Hid sm; rw [if_neg h1]
    by_cases h0 : xs.length ≤ 150
    · have ht : (decide ((1 : Int) ≤ n) && decide (n ≤ 9)) = false := by simp; omega
      have ht2 : decide ((xs.length : Int) ≤ 150) = true := by simp; omega
      clear h1
      go_enter Try.func25, Try.ntmps25
      go_wp2_with (first
        | (go_at_call 32; refine (inRange_any _ _ _ _).mono ?_; rintro e w' ⟨rfl, rfl⟩; rw [ht])
        | (go_at_call 31; refine (validSignals_any w 0 _ xs hv0).mono ?_; rintro e w' ⟨rfl, rfl⟩; rw [ht2]))
      go_ret
      exact ⟨_, rfl, by rw [HS.out]; exact Own.nil _ _ _ _, Below.refl _ _⟩
    · clear h1
      have ht2 : decide ((xs.length : Int) ≤ 150) = false := by simp; omega
      go_enter Try.func25, Try.ntmps25
      go_wp2_with (first
        | (go_at_call 31; refine (validSignals_any w 0 _ xs hv0).mono ?_; rintro e w' ⟨rfl, rfl⟩; rw [ht2]))
      go_ret
      exact ⟨_, rfl, by rw [HS.out]; exact Own.nil _ _ _ _, Below.refl _ _⟩
end Go.Proofs.Ytmckkbokebapcaa
