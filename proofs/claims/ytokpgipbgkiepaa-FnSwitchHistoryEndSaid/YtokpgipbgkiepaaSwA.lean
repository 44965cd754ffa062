/- slices.Equal, slices.EqualFunc, GreenAt of the reference: each proved once. greenAt of the reference. Plans that are switched: plain functions; no program. validSwitch, switchedGreen, SwitchedGreen: the program's. sameClear, bridge, switched, SwitchedGreen: the reference's. SwitchedGreen: the reference's; SwitchHistory: both. -/
import Derived.Test.YtokpgipbgkiepaaPlU
import Derived.Test.YtokpgipbgkiepaaPlP
import Derived.Test.YtokpgipbgkiepaaCp3
import Derived.Test.YtokpgipbgkiepaaSpoil
import Derived.IntWalk
import Derived.Test.YtokpgipbgkiepaaPlN
import Derived.Deep.RegionHeld3
import Derived.Test.YtokpgipbgkiepaaGr3
import Derived.Test.YtokpgipbgkiepaaPlL
namespace Go.Proofs.Ytokpgipbgkiepaa

section
open Go.RowKit
set_option linter.unusedVariables false
set_option linter.unusedSimpArgs false

theorem ints_ext {l m : List Int} (hl : l.length = m.length) (h : ∀ i, i < l.length → l.getD i 0 = m.getD i 0) : l = m := by
  apply List.ext_getElem hl
  intro i h1 h2
  have := h i h1
  simpa [List.getD_eq_getElem?_getD, h1, h2] using this

set_option maxHeartbeats 2000000 in
theorem equalSl_any (w : World) (lo lo' : Nat) (va vb : Value) (xs ys : List Int) (ha : Ints w lo va xs) (hb : Ints w lo' vb ys) :
    Calls Try.prog 114 #[va, vb] w fun e w' => e = .returned (.bool (decide (xs = ys))) ∧ Below w.heap.size w w' := by
  obtain ⟨ao, cap, rfl, hcap, hm⟩ := ha.form
  obtain ⟨ao', cap', rfl, hcap', hm'⟩ := hb.form
  have HA := Lib.hid ha
  have HB := Lib.hid hb
  clear ha hb
  by_cases hl : xs.length = ys.length
  · have t1 : ((xs.length : Int) != (ys.length : Int)) = false := by rw [hl]; simp
    have t2 : (!((xs.length : Int) == (ys.length : Int))) = false := by rw [hl]; simp
    have t3 : (xs.length == ys.length) = true := by rw [hl]; simp
    have HL := Lib.hid hl
    have hl1 : xs.length ≤ ys.length := by omega
    clear hl
    go_enter Try.func114, Try.ntmps114
    go_wp2_with fail
    go_loopw [13] (fun i wo => ∃ k : Nat, k ≤ xs.length ∧ i = .int .i64 k ∧ Hid (∀ j, j < k → xs.getD j 0 = ys.getD j 0) ∧ Below w.heap.size w wo) (fun i _ => xs.length - (intOf i).toNat)
    case atStart => exact ⟨0, Nat.zero_le _, rfl, fun j hj => absurd hj (Nat.not_lt_zero _), Below.refl _ _⟩
    case round =>
      obtain ⟨k, hk, rfl, HE, hB⟩ := hrel
      by_cases hlt : k < xs.length
      · obtain ⟨b0, off, rfl, _, hb, hc⟩ := (Rd.below HA.out hB (Nat.le_refl _) (by decide) : Ints wr lo _ xs).spot 0 (by omega)
        obtain ⟨b1, off1, rfl, _, hb1, hc1⟩ := (Rd.below HB.out hB (Nat.le_refl _) (by decide) : Ints wr lo' _ ys).spot 0 (by omega)
        have p1 := hc k hlt
        have p2 := hc1 k (by omega)
        obtain ⟨x, hx⟩ : ∃ x, x = xs.getD k 0 := ⟨_, rfl⟩
        obtain ⟨y, hy⟩ : ∃ y, y = ys.getD k 0 := ⟨_, rfl⟩
        rw [← hx] at p1
        rw [← hy] at p2
        have HX := Lib.hid hx
        have HY := Lib.hid hy
        have k0 : (0 : Int) ≤ (k : Int) := by omega
        have k1 : (k : Int) < (xs.length : Int) := by omega
        have k2 : (k : Int) < (ys.length : Int) := by omega
        clear hc hc1 hx hy
        by_cases he : x = y
        · have te : (x != y) = false := by simp [he]
          have te2 : (!(x == y)) = false := by simp [he]
          have HEQ := Lib.hid he
          clear he
          go_wp2_with fail
          go_quiet (fail)
          go_wp2
          go_roundw
          case rel => exact ⟨k + 1, by omega, by go_num, fun j hj => by
            by_cases h : j = k
            · subst h; rw [← HX.out, ← HY.out]; exact HEQ.out
            · exact HE.out j (by omega), below_drewN hB _⟩
          case measure => simp [intOf]; omega
        · have te : (x != y) = true := by simp [he]
          have te2 : (!(x == y)) = true := by simp [he]
          have HD : Hid (decide (xs = ys) = false) := decide_eq_false (fun h => he (by rw [HX.out, HY.out, h]))
          clear he
          go_wp2_with fail
          go_quiet (fail)
          go_wp2
          go_ret
          exact ⟨ret_bool HD.out.symm, below_drewN hB _⟩
      · obtain rfl : k = xs.length := by omega
        have HD : Hid (decide (xs = ys) = true) := decide_eq_true (ints_ext HL.out HE.out)
        go_wp2
        go_ret
        exact ⟨ret_bool HD.out.symm, hB⟩
  · have t1 : ((xs.length : Int) != (ys.length : Int)) = true := by simp; omega
    have t2 : (!((xs.length : Int) == (ys.length : Int))) = true := by simp; omega
    have t3 : (xs.length == ys.length) = false := beq_eq_false_iff_ne.mpr hl
    have HD : Hid (decide (xs = ys) = false) := decide_eq_false (fun h => hl (by rw [h]))
    clear hl
    go_enter Try.func114, Try.ntmps114
    go_wp2_with fail
    go_ret
    exact ⟨ret_bool HD.out.symm, Below.refl _ _⟩

set_option maxHeartbeats 2000000 in
theorem equalFunc_any (w : World) (lo lo' : Nat) (va vb : Value) (t u : List (List Int)) (ha : IntSS w lo va t) (hb : IntSS w lo' vb u) :
    Calls Try.prog 113 #[va, vb, .func (.func 114) #[] #[]] w fun e w' => e = .returned (.bool (decide (t = u))) ∧ Below w.heap.size w w' := by
  obtain ⟨ao, cap, rfl, hcap, hm⟩ := ha.form
  obtain ⟨ao', cap', rfl, hcap', hm'⟩ := hb.form
  have HA := Lib.hid ha
  have HB := Lib.hid hb
  clear ha hb
  by_cases hl : t.length = u.length
  · have t1 : ((t.length : Int) != (u.length : Int)) = false := by rw [hl]; simp
    have t2 : (!((t.length : Int) == (u.length : Int))) = false := by rw [hl]; simp
    have t3 : (t.length == u.length) = true := by rw [hl]; simp
    have HL := Lib.hid hl
    have hl1 : t.length ≤ u.length := by omega
    clear hl
    go_enter Try.func113, Try.ntmps113
    go_wp2_with fail
    go_loopw [17] (fun i wo => ∃ k : Nat, k ≤ t.length ∧ i = .int .i64 k ∧ Hid (∀ j, j < k → t.getD j [] = u.getD j []) ∧ Below w.heap.size w wo) (fun i _ => t.length - (intOf i).toNat)
    case atStart => exact ⟨0, Nat.zero_le _, rfl, fun j hj => absurd hj (Nat.not_lt_zero _), Below.refl _ _⟩
    case round =>
      obtain ⟨k, hk, rfl, HE, hB⟩ := hrel
      by_cases hlt : k < t.length
      · obtain ⟨b0, off, rfl, _, hb, hc⟩ := (HA.out.below hB (Nat.le_refl _)).spot (by omega)
        obtain ⟨b1, off1, rfl, _, hb1, hc1⟩ := (HB.out.below hB (Nat.le_refl _)).spot (by omega)
        obtain ⟨a1, c1, p1, hI1⟩ := hc k hlt
        obtain ⟨a2, c2, p2, hI2⟩ := hc1 k (by omega)
        obtain ⟨x, hx⟩ : ∃ x, x = t.getD k [] := ⟨_, rfl⟩
        obtain ⟨y, hy⟩ : ∃ y, y = u.getD k [] := ⟨_, rfl⟩
        rw [← hx] at p1 hI1
        rw [← hy] at p2 hI2
        have HX := Lib.hid hx
        have HY := Lib.hid hy
        have HI1 := Lib.hid hI1
        have HI2 := Lib.hid hI2
        have k0 : (0 : Int) ≤ (k : Int) := by omega
        have k1 : (k : Int) < (t.length : Int) := by omega
        have k2 : (k : Int) < (u.length : Int) := by omega
        clear hc hc1 hx hy hI1 hI2
        go_wp2_with fail
        refine (equalSl_any _ lo lo' _ _ x y HI1.out HI2.out).mono ?_; rintro e w2 ⟨rfl, hB2⟩
        have hT := hB.trans (hB2.mono hB.size)
        by_cases he : x = y
        · have te : decide (x = y) = true := decide_eq_true he
          have HEQ := Lib.hid he
          rw [te]
          clear he te hB hB2
          go_wp2_with fail
          go_roundw
          case rel => exact ⟨k + 1, by omega, by go_num, fun j hj => by
            by_cases h : j = k
            · subst h; rw [← HX.out, ← HY.out]; exact HEQ.out
            · exact HE.out j (by omega), hT⟩
          case measure => simp [intOf]; omega
        · have te : decide (x = y) = false := decide_eq_false he
          have HD : Hid (decide (t = u) = false) := decide_eq_false (fun h => he (by rw [HX.out, HY.out, h]))
          rw [te]
          clear he te hB hB2
          go_wp2_with fail
          go_ret
          exact ⟨ret_bool HD.out.symm, hT⟩
      · obtain rfl : k = t.length := by omega
        have HD : Hid (decide (t = u) = true) := decide_eq_true (ss_ext HL.out HE.out)
        go_wp2
        go_ret
        exact ⟨ret_bool HD.out.symm, hB⟩
  · have t1 : ((t.length : Int) != (u.length : Int)) = true := by simp; omega
    have t2 : (!((t.length : Int) == (u.length : Int))) = true := by simp; omega
    have t3 : (t.length == u.length) = false := beq_eq_false_iff_ne.mpr hl
    have HD : Hid (decide (t = u) = false) := decide_eq_false (fun h => hl (by rw [h]))
    clear hl
    go_enter Try.func113, Try.ntmps113
    go_wp2_with fail
    go_ret
    exact ⟨ret_bool HD.out.symm, Below.refl _ _⟩
end

section
open Go.RowKit
set_option linter.unusedVariables false
set_option linter.unusedSimpArgs false

def gfil (ph nx : List Int) (n : Nat) : List Int := (upto n).filter fun m => hasB ph m && hasB nx m
theorem gfil_succ (ph nx : List Int) (n : Nat) : gfil ph nx (n + 1) = gfil ph nx n ++ if hasB ph n && hasB nx n then [(n : Int)] else [] := by
  unfold gfil; rw [upto_succ, List.filter_append]; simp [List.filter_cons]
theorem gfil_len (ph nx : List Int) : ∀ n, (gfil ph nx n).length ≤ n := by
  intro n
  unfold gfil
  have := List.length_filter_le (fun m => hasB ph m && hasB nx m) (upto n)
  simp only [upto, List.length_map, List.length_range] at this
  exact this

set_option maxHeartbeats 8000000 in
set_option maxRecDepth 100000 in
theorem spec_greenAt (w : World) (lo : Nat) (vp : Value) (p : Pln) (s : Int) (hp : PlanR w lo vp p) (hval : validP p = true) (hs0 : 0 ≤ s) (hs1 : s < cyc p) :
    Calls Try.prog 115 #[vp, .int .i64 s] w (OwnRet w (grn p s)) := by
  have hp0 := hp
  obtain ⟨vc, vs, rfl, hc, hs⟩ := hp
  obtain ⟨hvc, h1, h5, _⟩ := validP_iff.1 hval
  have hcl8 := (validCl_iff.1 hvc).2.1
  obtain ⟨ao, cap, rfl, hcap, hm⟩ := hs.form
  obtain ⟨aoc, capc, rfl, hcapc, hmc⟩ := hc.form
  obtain ⟨b, off, rfl, _, hb, hx⟩ := hs.spot (by omega)
  obtain ⟨hi, hlo, hhi⟩ := stgAt_spec hval hs0 hs1
  obtain ⟨i, hie⟩ : ∃ i, i = stgAt p s := ⟨_, rfl⟩
  rw [← hie] at hi hlo hhi
  obtain ⟨q, hq⟩ : ∃ q, q = (i + 1) % p.st.length := ⟨_, rfl⟩
  have hq1 : q < p.st.length := by rw [hq]; exact Nat.mod_lt _ (by omega)
  obtain ⟨g1w, ai, ci, c0w, hI0⟩ := hx i hi
  obtain ⟨_, aj, cj, c1w, hI1⟩ := hx q hq1
  have hm0 := (validP_st hval hi).1
  have e1 : (((i : Int) + 1) % (p.st.length : Int)).toNat = q := by rw [hq, show ((i : Int) + 1) = ((i + 1 : Nat) : Int) by omega, ← Int.natCast_emod, Int.toNat_natCast]
  have m1 : 0 ≤ ((i : Int) + 1) % (p.st.length : Int) := Int.emod_nonneg _ (by omega)
  have m2 : ((i : Int) + 1) % (p.st.length : Int) < (p.st.length : Int) := Int.emod_lt_of_pos _ (by omega)
  have m3 : ((i : Int) + 1).tmod (p.st.length : Int) = ((i : Int) + 1) % (p.st.length : Int) := Int.tmod_eq_emod_of_nonneg (by omega)
  have m4 : ¬ (p.st.length : Int) = 0 := by omega
  have m6 : ¬ p.st.length = 0 := by omega
  have m5 : 0 ≤ (i : Int) + 1 := by omega
  have wr1 : IntKind.i64.wrap ((i : Int) + 1) = (i : Int) + 1 := IntWalk.i64_in _ (by omega)
  have i0 : (0 : Int) ≤ (i : Int) := by omega
  have i1 : (i : Int) < (p.st.length : Int) := by omega
  obtain ⟨w0, hw0, hB0, x0, x1, hz0⟩ := plan_box w (.slice aoc p.cl.length capc) (.slice (some ⟨b, off, none⟩) p.st.length cap)
  obtain ⟨ph, hph⟩ : ∃ ph, ph = (p.st.getD i s0).ph := ⟨_, rfl⟩
  obtain ⟨nx, hnx⟩ : ∃ nx, nx = (p.st.getD q s0).ph := ⟨_, rfl⟩
  obtain ⟨gr, hgr⟩ : ∃ gr, gr = (p.st.getD i s0).gr := ⟨_, rfl⟩
  obtain ⟨ps, hps⟩ : ∃ x, x = s - beg p i := ⟨_, rfl⟩
  have hgrn : grn p s = if ps < gr then ph else gfil ph nx p.cl.length := by
    unfold grn gfil; rw [← hie, hgr, hps, upto_filter (by rw [hph]; exact hm0), hph, hnx, hq]; rfl
  rw [← hph] at c0w hI0 hm0
  rw [← hgr] at g1w
  rw [← hnx] at c1w hI1
  have hpl := movesB_len hm0 (by omega)
  have HGRN := Lib.hid hgrn
  have HI0 := Lib.hid hI0
  have HI1 := Lib.hid hI1
  have HP0 := Lib.hid hp0
  have HB0 := Lib.hid hB0
  have HV := Lib.hid hval
  have HIE := Lib.hid hie
  have HPS := Lib.hid hps
  have KA : Hid (∀ W, Below w0.heap.size w0 W → (W.cell? ⟨w.heap.size, 0, none⟩ = some (.slice aoc p.cl.length capc) ∧ W.cell? ⟨w.heap.size, 1, none⟩ = some (.slice (some ⟨b, off, none⟩) p.st.length cap)) ∧ W.cell? ⟨b, off + i * 2, none⟩ = some (.slice ai ph.length ci) ∧ W.cell? ⟨b, off + i * 2 + 1, none⟩ = some (.int .i64 gr) ∧ W.cell? ⟨b, off + q * 2, none⟩ = some (.slice aj nx.length cj)) := fun W h => by
    have hT := hB0.trans (h.mono hB0.size)
    exact ⟨⟨(h.cell (p := ⟨w.heap.size, 0, none⟩) hz0).trans x0, (h.cell (p := ⟨w.heap.size, 1, none⟩) hz0).trans x1⟩, (hT.cell (p := ⟨b, off + i * 2, none⟩) hb).trans c0w, (hT.cell (p := ⟨b, off + i * 2 + 1, none⟩) hb).trans g1w, (hT.cell (p := ⟨b, off + q * 2, none⟩) hb).trans c1w⟩
  have hn8 : ph.length ≤ 8 := by omega
  clear hx hq c0w c1w g1w hI0 hI1 hm0 hgrn hph hnx hgr hps hie hc hs hval hvc hB0 hp0 x0 x1 hi hlo hhi hpl
  go_enter Try.func115, Try.ntmps115
  go_wp2_with fail
  rw [← hw0]
  clear hw0
  refine (spec_stageAt _ lo _ p s (HP0.out.below HB0.out (Nat.le_refl _)) HV.out hs0 hs1).mono ?_; rintro e w1 ⟨rfl, hB1⟩
  rw [← HIE.out, ← HPS.out]
  have HB1 := Lib.hid hB1
  obtain ⟨⟨u0, u1⟩, u2, u3, u4⟩ := KA.out _ hB1
  clear hB1
  by_cases hlt : ps < gr
  · have d1 : decide (ps < gr) = true := decide_eq_true hlt
    have HE : Hid (grn p s = ph) := by unfold Hid; rw [HGRN.out, if_pos hlt]
    clear hlt u4
    go_wp2_with fail
    refine (copyInts_any _ _ ph (Rd.mono (Rd.below HI0.out (HB0.out.trans (HB1.out.mono HB0.out.size)) (Nat.le_refl _) (by decide)) (Nat.zero_le _)) (by omega)).mono ?_; rintro e w2 ⟨v2, rfl, hO2, hB2⟩
    have hT := HB0.out.trans ((HB1.out.trans (hB2.mono HB1.out.size)).mono HB0.out.size)
    have HO2 := Lib.hid (hO2.mono (Nat.le_trans HB0.out.size HB1.out.size))
    clear hO2 hB2 u0 u1 u2 u3
    go_wp2_with fail
    go_ret
    exact ⟨_, rfl, by rw [HE.out]; exact HO2.out, hT⟩
  · have d1 : decide (ps < gr) = false := decide_eq_false hlt
    have HE : Hid (grn p s = gfil ph nx p.cl.length) := by unfold Hid; rw [HGRN.out, if_neg hlt]
    have hb1 : b < w1.heap.size := World.block_lt_of_cell? w1 ⟨b, off + i * 2, none⟩ u2
    have HT1 := Lib.hid (HB0.out.trans (HB1.out.mono HB0.out.size))
    clear hlt
    go_wp2_with fail
    go_quiet (fail)
    clear d1 u3 u4
    go_wp2_with fail
    go_loopw [8, 9] (fun sv iv wo => ∃ m : Nat, m ≤ p.cl.length ∧ iv = .int .i64 m ∧ Hid (Own wo w1.heap.size 3 1 sv (gfil ph nx m).length ((gfil ph nx m).map (.int .i64))) ∧ Hid (Below w1.heap.size w1 wo)) (fun _ iv _ => p.cl.length - (intOf iv).toNat)
    case atStart => exact ⟨0, Nat.zero_le _, rfl, .inr ⟨rfl, rfl, _, rfl⟩, (below_drewN (Below.refl _ _) _).alloc (Nat.le_refl _) _⟩
    case round =>
      clear u0 u1 u2
      obtain ⟨m, hm, rfl, HO, HB⟩ := hrel
      have HT := Lib.hid (HT1.out.trans (HB.out.mono HT1.out.size))
      obtain ⟨⟨u0, u1⟩, u2, u3, u4⟩ := KA.out _ (HB1.out.trans (HB.out.mono HB1.out.size))
      clear u3 u4
      by_cases hlt : m < p.cl.length
      · have hI0 : Hid (Ints wr 0 (.slice ai ph.length ci) ph) := Rd.mono (Rd.below HI0.out HT.out (Nat.le_refl _) (by decide)) (Nat.zero_le _)
        have hI1 : Hid (Ints wr 0 (.slice aj nx.length cj) nx) := Rd.mono (Rd.below HI1.out HT.out (Nat.le_refl _) (by decide)) (Nat.zero_le _)
        have HGS := Lib.hid (gfil_succ ph nx m)
        obtain ⟨r1, hr1⟩ : ∃ r, r = hasB ph m := ⟨_, rfl⟩
        obtain ⟨r2, hr2⟩ : ∃ r, r = hasB nx m := ⟨_, rfl⟩
        have HR1 := Lib.hid hr1
        have HR2 := Lib.hid hr2
        clear hr1 hr2
        go_wp2_with fail
        refine (isIn_H _ 0 _ ph m r1 hI0.out HR1.out.symm).mono ?_; rintro e _ ⟨rfl, rfl⟩
        cases r1
        · go_wp2_with fail
          go_roundw
          case rel => exact ⟨m + 1, by omega, by go_num, by rw [HGS.out, ← HR1.out]; unfold Hid; simpa using HO.out, HB⟩
          case measure => simp [intOf]; omega
        · go_wp2_with fail
          refine (isIn_H _ 0 _ nx m r2 hI1.out HR2.out.symm).mono ?_; rintro e _ ⟨rfl, rfl⟩
          cases r2
          · go_wp2_with fail
            go_roundw
            case rel => exact ⟨m + 1, by omega, by go_num, by rw [HGS.out, ← HR1.out, ← HR2.out]; unfold Hid; simpa using HO.out, HB⟩
            case measure => simp [intOf]; omega
          · have hO := HO.out
            have hsz := HB.out.size
            have hgl := gfil_len ph nx m
            go_wp2_with (at_builtin; refine wpList_append_one _ rfl _ _ 27 rfl 3 (.int .i64 0) 8 Try.underlying27 info_int rfl w1.heap.size _ _ _ rfl hO _ _ rfl rfl (by omega) (by omega) hsz ?_; intro v' w3 hO3 hg3 _)
            have HB3 : Hid (Below w1.heap.size w1 w3) := HB.out.trans (below_of_grownBy hg3 hsz (fun k hk => (hO.wblk hk).1))
            have HO3 := Lib.hid hO3
            clear hO3 hg3 hO
            go_wp2
            go_roundw
            case rel => exact ⟨m + 1, by omega, by go_num, by rw [HGS.out, ← HR1.out, ← HR2.out]; unfold Hid; simpa using HO3.out, HB3⟩
            case measure => simp [intOf]; omega
      · obtain rfl : m = p.cl.length := by omega
        have HF : Hid (Own wr w.heap.size 3 1 u8 (grn p s).length ((grn p s).map (.int .i64))) := by rw [HE.out]; exact HO.out.mono (Nat.le_trans HB0.out.size HB1.out.size)
        go_wp2_with fail
        go_ret
        exact ⟨_, rfl, HF.out, HT.out⟩
end

section
set_option linter.unusedVariables false
set_option linter.unusedSimpArgs false

def br (a b : Pln) : Int := change a.cl (phA a 0) (phA b 0)
/-- The movements with green if a is replaced by b at the second T. -/
def swg (a b : Pln) (T s : Int) : List Int :=
  if s < T then grn a (s % cyc a) else if s < T + 5 then phA a 0 else if s < T + 5 + br a b then [] else grn b ((s - (T + 5 + br a b)) % cyc b)
def sameC (a b : Pln) : Bool := validP a && (validP b && decide (a.cl = b.cl))
def swV (a b : Pln) (f : Int) : Bool := sameC a b && inR f 0 9999
def swO (a b : Pln) (f s : Int) : List Int := if swV a b f = true ∧ inR s 0 9999 = true then swg a b (swt (cyc a) f) s else []
def spanB (first count : Int) : Bool := inR first 0 9999 && (inR count 0 150 && decide (first + count - 1 ≤ 9999))
def shO (a b : Pln) (f first count : Int) : List (List Int) := if swV a b f = true ∧ spanB first count = true then (List.range count.toNat).map fun (i : Nat) => swg a b (swt (cyc a) f) (first + (i : Int)) else []

theorem sameC_iff {a b : Pln} : sameC a b = true ↔ validP a = true ∧ validP b = true ∧ a.cl = b.cl := by
  simp [sameC]
theorem ph_st {p : Pln} (h : validP p = true) : 0 < p.st.length := by have := (validP_iff.1 h).2.1; omega
theorem br_bd {a b : Pln} (ha : validP a = true) (hb : validP b = true) (hc : a.cl = b.cl) : 0 ≤ br a b ∧ br a b ≤ 5 := by
  have h1 := (validP_st ha (ph_st ha)).1
  have h2 := (validP_st hb (ph_st hb)).1
  rw [← hc] at h2
  exact chg_bd (validP_iff.1 ha).1 h1 h2 _ (Nat.le_refl _)
theorem swt_nums {p : Pln} (h : validP p = true) {f : Int} (hf : inR f 0 9999 = true) : 0 ≤ swt (cyc p) f ∧ swt (cyc p) f ≤ 10224 := by
  obtain ⟨h1, h2⟩ := inR_iff.1 hf
  have hc := cyc_bd h
  have := swt_bd (c := cyc p) hc.1 h1
  omega
theorem swg_len {a b : Pln} {T s : Int} (ha : validP a = true) (hb : validP b = true) (hs : 0 ≤ s) (hT : 0 ≤ T) (hr : 0 ≤ br a b) : (swg a b T s).length ≤ 8 := by
  have hca := cyc_bd ha
  have hcb := cyc_bd hb
  unfold swg
  split
  · exact grn_len ha (Int.emod_nonneg _ (by omega)) (Int.emod_lt_of_pos _ (by omega))
  · split
    · have h8 := (validCl_iff.1 (validP_iff.1 ha).1).2.1
      have := movesB_len (validP_st ha (ph_st ha)).1 (by omega)
      unfold phA; omega
    · split
      · simp
      · exact grn_len hb (Int.emod_nonneg _ (by omega)) (Int.emod_lt_of_pos _ (by omega))
end

section
open Go.RowKit
set_option linter.unusedVariables false
set_option linter.unusedSimpArgs false

/-- Two boxes of plans, one behind the other. -/
theorem two_box (w : World) (a0 a1 b0 b1 : Value) (T : TypeId) : ∃ w0, w0 = (w.alloc (.cells #[a0, a1] T)).alloc (.cells #[b0, b1] T) ∧ Below w.heap.size w w0 ∧ w.heap.size + 1 < w0.heap.size ∧
    ∀ W, Below w0.heap.size w0 W → (W.cell? ⟨w.heap.size, 0, none⟩ = some a0 ∧ W.cell? ⟨w.heap.size, 1, none⟩ = some a1) ∧ (W.cell? ⟨w.heap.size + 1, 0, none⟩ = some b0 ∧ W.cell? ⟨w.heap.size + 1, 1, none⟩ = some b1) := by
  obtain ⟨w1, hw1⟩ : ∃ x, x = w.alloc (.cells #[a0, a1] T) := ⟨_, rfl⟩
  have s1 : w1.heap.size = w.heap.size + 1 := by rw [hw1]; simp
  have hB1 : Below w.heap.size w w1 := by rw [hw1]; exact (Below.refl _ _).alloc (Nat.le_refl _) _
  have x0 : w1.cell? ⟨w.heap.size, 0, none⟩ = some a0 := by rw [hw1, cell_of_row _ w.heap.size 0 #[a0, a1] T (0, 0) (heap_alloc_new w _)]; simp
  have x1 : w1.cell? ⟨w.heap.size, 1, none⟩ = some a1 := by rw [hw1, cell_of_row _ w.heap.size 1 #[a0, a1] T (0, 0) (heap_alloc_new w _)]; simp
  refine ⟨w1.alloc (.cells #[b0, b1] T), by rw [hw1], hB1.alloc hB1.size _, by simp [s1], fun W h => ?_⟩
  have hB2 : Below w1.heap.size w1 W := ((Below.refl _ _).alloc (Nat.le_refl _) _).trans (h.mono (by simp))
  have y0 : (w1.alloc (.cells #[b0, b1] T)).cell? ⟨w1.heap.size, 0, none⟩ = some b0 := by rw [cell_of_row _ w1.heap.size 0 #[b0, b1] T (0, 0) (heap_alloc_new w1 _)]; simp
  have y1 : (w1.alloc (.cells #[b0, b1] T)).cell? ⟨w1.heap.size, 1, none⟩ = some b1 := by rw [cell_of_row _ w1.heap.size 1 #[b0, b1] T (0, 0) (heap_alloc_new w1 _)]; simp
  have l1 : w.heap.size < w1.heap.size := by omega
  have l2 : w1.heap.size < (w1.alloc (.cells #[b0, b1] T)).heap.size := by simp
  refine ⟨⟨(hB2.cell (p := ⟨w.heap.size, 0, none⟩) l1).trans x0, (hB2.cell (p := ⟨w.heap.size, 1, none⟩) l1).trans x1⟩, ?_, ?_⟩
  · rw [← s1]; exact (h.cell (p := ⟨w1.heap.size, 0, none⟩) l2).trans y0
  · rw [← s1]; exact (h.cell (p := ⟨w1.heap.size, 1, none⟩) l2).trans y1

theorem PlanR.aggs {w : World} {lo : Nat} {v : Value} {p : Pln} (h : PlanR w lo v p) : ∃ a0 c0 a1 c1, v = .agg #[.slice a0 p.cl.length c0, .slice a1 p.st.length c1] ∧ IntSS w lo (.slice a0 p.cl.length c0) p.cl ∧ StgS w lo (.slice a1 p.st.length c1) p.st := by
  obtain ⟨vc, vs, rfl, hc, hs⟩ := h
  obtain ⟨a0, c0, rfl, _, _⟩ := hc.form
  obtain ⟨a1, c1, rfl, _, _⟩ := hs.form
  exact ⟨a0, c0, a1, c1, rfl, hc, hs⟩

set_option maxHeartbeats 4000000 in
theorem impl_validSwitch (w : World) (lo lo' : Nat) (va vb : Value) (a b : Pln) (f : Int) (ha : PlanR w lo va a) (hb : PlanR w lo' vb b) :
    Calls Try.prog 87 #[va, vb, .int .i64 f] w fun e w' => e = .returned (.bool (swV a b f)) ∧ Below w.heap.size w w' := by
  have ha0 := ha
  have hb0 := hb
  obtain ⟨a0, c0, a1, c1, rfl, hac, has⟩ := ha.aggs
  obtain ⟨b0, d0, b1, d1, rfl, hbc, hbs⟩ := hb.aggs
  obtain ⟨w0, hw0, hB0, hz0, K⟩ := two_box w (.slice a0 a.cl.length c0) (.slice a1 a.st.length c1) (.slice b0 b.cl.length d0) (.slice b1 b.st.length d1) 26
  have HK := Lib.hid K
  have HA := Lib.hid ha0
  have HB := Lib.hid hb0
  have HAC := Lib.hid hac
  have HBC := Lib.hid hbc
  have HB0 := Lib.hid hB0
  obtain ⟨r1, hr1⟩ : ∃ r, r = validP a := ⟨_, rfl⟩
  obtain ⟨r2, hr2⟩ : ∃ r, r = validP b := ⟨_, rfl⟩
  obtain ⟨r3, hr3⟩ : ∃ r, r = decide (a.cl = b.cl) := ⟨_, rfl⟩
  obtain ⟨r4, hr4⟩ : ∃ r, r = inR f 0 9999 := ⟨_, rfl⟩
  have HSV : Hid (swV a b f = (r1 && (r2 && r3) && r4)) := by unfold Hid swV sameC; rw [hr1, hr2, hr3, hr4]
  have HR1 := Lib.hid hr1
  have HR2 := Lib.hid hr2
  have HR3 := Lib.hid hr3
  have HR4 := Lib.hid hr4
  rw [HSV.out]
  clear K ha0 hb0 ha hb hac has hbc hbs hB0 hr1 hr2 hr3 hr4 HSV
  go_enter Try.func87, Try.ntmps87
  go_wp2_with fail
  rw [← hw0]; clear hw0
  refine (impl_validPlan _ lo _ a (HA.out.below HB0.out (Nat.le_refl _))).mono ?_; rintro e w1 ⟨rfl, hB1⟩
  rw [← HR1.out]
  have HT1 := Lib.hid hB1
  obtain ⟨⟨u0, u1⟩, u2, u3⟩ := HK.out _ hB1
  clear hB1
  cases r1
  · go_wp2_with fail
    go_ret
    exact ⟨rfl, HB0.out.trans (HT1.out.mono HB0.out.size)⟩
  · go_wp2_with fail
    refine (impl_validPlan _ lo' _ b (HB.out.below (HB0.out.trans (HT1.out.mono HB0.out.size)) (Nat.le_refl _))).mono ?_; rintro e w2 ⟨rfl, hB2⟩
    rw [← HR2.out]
    have HT2 := Lib.hid (HT1.out.trans (hB2.mono HT1.out.size))
    clear hB2 u0 u1 u2 u3
    obtain ⟨⟨u0, u1⟩, u2, u3⟩ := HK.out _ HT2.out
    cases r2
    · go_wp2_with fail
      go_ret
      exact ⟨rfl, HB0.out.trans (HT2.out.mono HB0.out.size)⟩
    · have hTT := HB0.out.trans (HT2.out.mono HB0.out.size)
      have HTT := Lib.hid hTT
      clear hTT
      go_wp2_with fail
      refine (equalFunc_any _ lo lo' _ _ a.cl b.cl (HAC.out.below HTT.out (Nat.le_refl _)) (HBC.out.below HTT.out (Nat.le_refl _))).mono ?_; rintro e w3 ⟨rfl, hB3⟩
      rw [← HR3.out]
      have HT3 := Lib.hid (HTT.out.trans (hB3.mono HTT.out.size))
      clear hB3 u0 u1 u2 u3
      cases r3
      · go_wp2_with fail
        go_ret
        exact ⟨rfl, HT3.out⟩
      · go_wp2_with fail
        refine (within_dec f 0 9999 r4 _ HR4.out.symm).mono ?_; rintro e _ ⟨rfl, rfl⟩
        cases r4
        · go_wp2_with fail
          go_ret
          exact ⟨rfl, HT3.out⟩
        · go_wp2_with fail
          go_ret
          exact ⟨rfl, HT3.out⟩

theorem StgS.first {w : World} {lo : Nat} {t : List Stg} {ao : Option Addr} {len cap : Nat} (h : StgS w lo (.slice ao len cap) t) (hn : 0 < t.length) :
    ∃ b off ai ci, ao = some ⟨b, off, none⟩ ∧ b < w.heap.size ∧ w.cell? ⟨b, off, none⟩ = some (.slice ai (t.getD 0 s0).ph.length ci) ∧ Ints w lo (.slice ai (t.getD 0 s0).ph.length ci) (t.getD 0 s0).ph := by
  obtain ⟨b, off, e, _, h2, h3⟩ := h.spot hn
  obtain ⟨_, ai, ci, h4, h5⟩ := h3 0 hn
  exact ⟨b, off, ai, ci, e, h2, by simpa using h4, h5⟩

set_option maxHeartbeats 8000000 in
set_option maxRecDepth 100000 in
theorem impl_switchedGreenI (w : World) (lo lo' : Nat) (va vb : Value) (a b : Pln) (T s : Int) (ha : PlanR w lo va a) (hb : PlanR w lo' vb b) (hab : sameC a b = true) (hT : 0 ≤ T ∧ T ≤ 20000) (hs : 0 ≤ s ∧ s ≤ 9999) :
    Calls Try.prog 88 #[va, vb, .int .i64 T, .int .i64 s] w (OwnRet w (swg a b T s)) := by
  obtain ⟨hva, hvb, hcl⟩ := sameC_iff.1 hab
  have ha0 := ha
  have hb0 := hb
  obtain ⟨a0, c0, a1, c1, rfl, hac, has⟩ := ha.aggs
  obtain ⟨b0, d0, b1, d1, rfl, hbc, hbs⟩ := hb.aggs
  obtain ⟨ba, oa, ai, ci, rfl, hba, xa, hIa⟩ := has.first (ph_st hva)
  obtain ⟨bb, ob, bi, di, rfl, hbb, xb, hIb⟩ := hbs.first (ph_st hvb)
  obtain ⟨w0, hw0, hB0, hz0, K⟩ := two_box w (.slice a0 a.cl.length c0) (.slice (some ⟨ba, oa, none⟩) a.st.length c1) (.slice b0 b.cl.length d0) (.slice (some ⟨bb, ob, none⟩) b.st.length d1) 26
  have hbr := br_bd hva hvb hcl
  have hma := (validP_st hva (ph_st hva)).1
  have hmb := (validP_st hvb (ph_st hvb)).1
  rw [← hcl] at hmb
  have hla : 0 < a.st.length := ph_st hva
  have hlb : 0 < b.st.length := ph_st hvb
  have hlen := movesB_len hma (by omega)
  have hcl8 := (validCl_iff.1 (validP_iff.1 hva).1).2.1
  obtain ⟨pa, hpa⟩ : ∃ x, x = (a.st.getD 0 s0).ph := ⟨_, rfl⟩
  obtain ⟨pb, hpb⟩ : ∃ x, x = (b.st.getD 0 s0).ph := ⟨_, rfl⟩
  obtain ⟨r, hr⟩ : ∃ x, x = br a b := ⟨_, rfl⟩
  have hbr2 : r = change a.cl pa pb := by rw [hr, hpa, hpb]; rfl
  have hsw : swg a b T s = if s < T then grn a (s % cyc a) else if s < T + 5 then pa else if s < T + 5 + r then [] else grn b ((s - (T + 5 + r)) % cyc b) := by
    unfold swg; rw [hr, hpa]; rfl
  rw [← hpa] at xa hIa hma hlen
  rw [← hpb] at xb hIb hmb
  rw [← hr] at hbr
  have HK : Hid (∀ W, Below w0.heap.size w0 W → ((W.cell? ⟨w.heap.size, 0, none⟩ = some (.slice a0 a.cl.length c0) ∧ W.cell? ⟨w.heap.size, 1, none⟩ = some (.slice (some ⟨ba, oa, none⟩) a.st.length c1)) ∧ (W.cell? ⟨w.heap.size + 1, 0, none⟩ = some (.slice b0 b.cl.length d0) ∧ W.cell? ⟨w.heap.size + 1, 1, none⟩ = some (.slice (some ⟨bb, ob, none⟩) b.st.length d1))) ∧ W.cell? ⟨ba, oa, none⟩ = some (.slice ai pa.length ci) ∧ W.cell? ⟨bb, ob, none⟩ = some (.slice bi pb.length di)) := fun W h => by
    have hT := hB0.trans (h.mono hB0.size)
    exact ⟨K W h, (hT.cell (p := ⟨ba, oa, none⟩) hba).trans xa, (hT.cell (p := ⟨bb, ob, none⟩) hbb).trans xb⟩
  have HA := Lib.hid (ha0.below hB0 (Nat.le_refl _))
  have HB := Lib.hid (hb0.below hB0 (Nat.le_refl _))
  have HAC := Lib.hid (hac.below hB0 (Nat.le_refl _))
  have HIA : Hid (Ints w0 lo (.slice ai pa.length ci) pa) := Rd.below hIa hB0 (Nat.le_refl _) (by decide)
  have HIB : Hid (Ints w0 lo' (.slice bi pb.length di) pb) := Rd.below hIb hB0 (Nat.le_refl _) (by decide)
  have HB0 := Lib.hid hB0
  have HVA := Lib.hid hva
  have HVB := Lib.hid hvb
  have HMA := Lib.hid hma
  have HMB := Lib.hid hmb
  have HSW := Lib.hid hsw
  have HBR := Lib.hid hbr2
  have wt1 : IntKind.i64.wrap (T + 5) = T + 5 := IntWalk.i64_in _ (by omega)
  have wt2 : IntKind.i64.wrap (T + 5 + r) = T + 5 + r := IntWalk.i64_in _ (by omega)
  have hl8 : pa.length ≤ 8 := by omega
  clear K ha0 hb0 ha hb hac has hbc hbs hB0 hva hvb hcl hab hma hmb hlen hcl8 hpa hpb hr hbr2 hsw xb hIa hIb
  have hba1 : ba < w.heap.size + 1 := by omega
  go_enter Try.func88, Try.ntmps88
  go_wp2_with fail
  rw [← hw0]; clear hw0 xa hba1
  obtain ⟨⟨⟨u0, u1⟩, u2, u3⟩, u4, u5⟩ := HK.out _ (Below.refl _ _)
  by_cases c1' : s < T
  · have t1 : decide (s < T) = true := decide_eq_true c1'
    have HE : Hid (swg a b T s = grnO a s) := by unfold Hid grnO; rw [HSW.out, if_pos c1', if_pos ⟨HVA.out, inR_iff.2 hs⟩]
    clear c1'
    go_quiet ((go_at_call 97; exact quiet_eq ((impl_changeOf _ lo lo lo' _ _ _ a.cl pa pb (HAC.out.below (below_drewN (Below.refl _ _) _) (Nat.le_refl _)) (validP_iff.1 HVA.out).1 (Rd.drewN HIA.out _) (Rd.drewN HIB.out _) HMA.out HMB.out).mono (fun e w' h => ⟨h.1.trans (ret_int HBR.out.symm), h.2⟩))))
    go_wp2_with fail
    refine (impl_greenAt _ lo _ a s ((HA.out).below (below_drewN (Below.refl _ _) _) (Nat.le_refl _))).mono ?_; rintro e w2 ⟨v2, rfl, hO, hB⟩
    rw [← HE.out] at hO
    have HO := Lib.hid (hO.mono HB0.out.size)
    have HT2 := Lib.hid (HB0.out.trans (((below_drewN (Below.refl _ _) _).trans hB).mono HB0.out.size))
    clear hO hB
    go_wp2_with fail
    go_ret
    exact ⟨_, rfl, HO.out, HT2.out⟩
  · have t1 : decide (s < T) = false := decide_eq_false c1'
    by_cases c2' : s < T + 5
    · have t2 : decide (s < T + 5) = true := decide_eq_true c2'
      have HE : Hid (swg a b T s = pa) := by unfold Hid; rw [HSW.out, if_neg c1', if_pos c2']
      clear c1' c2'
      go_quiet ((go_at_call 97; exact quiet_eq ((impl_changeOf _ lo lo lo' _ _ _ a.cl pa pb (HAC.out.below (below_drewN (Below.refl _ _) _) (Nat.le_refl _)) (validP_iff.1 HVA.out).1 (Rd.drewN HIA.out _) (Rd.drewN HIB.out _) HMA.out HMB.out).mono (fun e w' h => ⟨h.1.trans (ret_int HBR.out.symm), h.2⟩))))
      go_wp2_with fail
      refine (clone_any _ lo _ pa (Rd.drewN HIA.out _) (by omega)).mono ?_; rintro e w2 ⟨v2, rfl, hO, hB⟩
      rw [← HE.out] at hO
      have HO := Lib.hid (hO.mono HB0.out.size)
      have HT2 := Lib.hid (HB0.out.trans (((below_drewN (Below.refl _ _) _).trans hB).mono HB0.out.size))
      clear hO hB
      go_wp2_with fail
      go_ret
      exact ⟨_, rfl, HO.out, HT2.out⟩
    · have t2 : decide (s < T + 5) = false := decide_eq_false c2'
      by_cases c3' : s < T + 5 + r
      · have t3 : decide (s < T + 5 + r) = true := decide_eq_true c3'
        have HE : Hid (swg a b T s = []) := by unfold Hid; rw [HSW.out, if_neg c1', if_neg c2', if_pos c3']
        clear c1' c2' c3'
        go_quiet ((go_at_call 97; exact quiet_eq ((impl_changeOf _ lo lo lo' _ _ _ a.cl pa pb (HAC.out.below (below_drewN (Below.refl _ _) _) (Nat.le_refl _)) (validP_iff.1 HVA.out).1 (Rd.drewN HIA.out _) (Rd.drewN HIB.out _) HMA.out HMB.out).mono (fun e w' h => ⟨h.1.trans (ret_int HBR.out.symm), h.2⟩))))
        go_wp2_with fail
        go_ret
        exact ⟨_, rfl, by rw [HE.out]; exact Own.nil _ _ _ _, HB0.out.trans ((below_drewN (Below.refl _ _) _).mono HB0.out.size)⟩
      · have t3 : decide (s < T + 5 + r) = false := decide_eq_false c3'
        have HE : Hid (swg a b T s = grnO b (s - (T + 5 + r))) := by unfold Hid grnO; rw [HSW.out, if_neg c1', if_neg c2', if_neg c3', if_pos ⟨HVB.out, inR_iff.2 ⟨by omega, by omega⟩⟩]
        have wd : IntKind.i64.wrap (s - (T + 5 + r)) = s - (T + 5 + r) := IntWalk.i64_in _ (by omega)
        clear c1' c2' c3'
        go_quiet ((go_at_call 97; exact quiet_eq ((impl_changeOf _ lo lo lo' _ _ _ a.cl pa pb (HAC.out.below (below_drewN (Below.refl _ _) _) (Nat.le_refl _)) (validP_iff.1 HVA.out).1 (Rd.drewN HIA.out _) (Rd.drewN HIB.out _) HMA.out HMB.out).mono (fun e w' h => ⟨h.1.trans (ret_int HBR.out.symm), h.2⟩))))
        go_wp2_with fail
        refine (impl_greenAt _ lo' _ b (s - (T + 5 + r)) ((HB.out).below (below_drewN (Below.refl _ _) _) (Nat.le_refl _))).mono ?_; rintro e w2 ⟨v2, rfl, hO, hB⟩
        rw [← HE.out] at hO
        have HO := Lib.hid (hO.mono HB0.out.size)
        have HT2 := Lib.hid (HB0.out.trans (((below_drewN (Below.refl _ _) _).trans hB).mono HB0.out.size))
        clear hO hB
        go_wp2_with fail
        go_ret
        exact ⟨_, rfl, HO.out, HT2.out⟩

theorem swT_eq {a : Pln} {f : Int} (ha : validP a = true) (hf : inR f 0 9999 = true) : swT a f = swt (cyc a) f := by unfold swT; rw [if_pos ⟨ha, hf⟩]

set_option maxHeartbeats 8000000 in
set_option maxRecDepth 100000 in
theorem impl_SwitchedGreen (w : World) (lo lo' : Nat) (va vb : Value) (a b : Pln) (f s : Int) (ha : PlanR w lo va a) (hb : PlanR w lo' vb b) :
    Calls Try.prog 36 #[va, vb, .int .i64 f, .int .i64 s] w (OwnRet w (swO a b f s)) := by
  have ha0 := ha
  have hb0 := hb
  obtain ⟨a0, c0, a1, c1, rfl, hac, has⟩ := ha.aggs
  obtain ⟨b0, d0, b1, d1, rfl, hbc, hbs⟩ := hb.aggs
  obtain ⟨w0, hw0, hB0, hz0, K⟩ := two_box w (.slice a0 a.cl.length c0) (.slice a1 a.st.length c1) (.slice b0 b.cl.length d0) (.slice b1 b.st.length d1) 26
  have HK := Lib.hid K
  have HA := Lib.hid (ha0.below hB0 (Nat.le_refl _))
  have HB := Lib.hid (hb0.below hB0 (Nat.le_refl _))
  have HB0 := Lib.hid hB0
  obtain ⟨r1, hr1⟩ : ∃ r, r = swV a b f := ⟨_, rfl⟩
  obtain ⟨r2, hr2⟩ : ∃ r, r = inR s 0 9999 := ⟨_, rfl⟩
  have HSO : Hid (swO a b f s = if r1 = true ∧ r2 = true then swg a b (swt (cyc a) f) s else []) := by unfold Hid swO; rw [hr1, hr2]
  have HR1 := Lib.hid hr1
  have HR2 := Lib.hid hr2
  clear K ha0 hb0 ha hb hac has hbc hbs hB0 hr1 hr2
  go_enter Try.func36, Try.ntmps36
  go_wp2_with fail
  rw [← hw0]; clear hw0
  refine (impl_validSwitch _ lo lo' _ _ a b f HA.out HB.out).mono ?_; rintro e w1 ⟨rfl, hB1⟩
  rw [← HR1.out]
  have HT1 := Lib.hid hB1
  clear hB1
  cases r1
  · have HE : Hid (swO a b f s = []) := by unfold Hid; rw [HSO.out, if_neg (by simp)]
    go_wp2_with fail
    go_ret
    exact ⟨_, rfl, by rw [HE.out]; exact Own.nil _ _ _ _, HB0.out.trans (HT1.out.mono HB0.out.size)⟩
  · go_wp2_with fail
    refine (within_dec s 0 9999 r2 _ HR2.out.symm).mono ?_; rintro e _ ⟨rfl, rfl⟩
    cases r2
    · have HE : Hid (swO a b f s = []) := by unfold Hid; rw [HSO.out, if_neg (by simp)]
      go_wp2_with fail
      go_ret
      exact ⟨_, rfl, by rw [HE.out]; exact Own.nil _ _ _ _, HB0.out.trans (HT1.out.mono HB0.out.size)⟩
    · have HE : Hid (swO a b f s = swg a b (swt (cyc a) f) s) := by unfold Hid; rw [HSO.out, if_pos (by simp)]
      have hsv := HR1.out.symm
      unfold swV at hsv
      rw [Bool.and_eq_true] at hsv
      obtain ⟨hab, hf⟩ := hsv
      have hsb := inR_iff.1 HR2.out.symm
      have HAB := Lib.hid hab
      have HTE := Lib.hid (swT_eq (sameC_iff.1 hab).1 hf)
      have hTb := swt_nums (sameC_iff.1 hab).1 hf
      have KC : Hid (∀ W, Below w1.heap.size w1 W → (W.cell? ⟨w.heap.size, 0, none⟩ = some (.slice a0 a.cl.length c0) ∧ W.cell? ⟨w.heap.size, 1, none⟩ = some (.slice a1 a.st.length c1)) ∧ (W.cell? ⟨w.heap.size + 1, 0, none⟩ = some (.slice b0 b.cl.length d0) ∧ W.cell? ⟨w.heap.size + 1, 1, none⟩ = some (.slice b1 b.st.length d1))) := fun W h => HK.out _ (HT1.out.trans (h.mono HT1.out.size))
      obtain ⟨T, hT⟩ : ∃ T, T = swt (cyc a) f := ⟨_, rfl⟩
      rw [← hT] at hTb
      have HTT := Lib.hid hT
      have HA1 := Lib.hid (HA.out.below HT1.out (Nat.le_refl _))
      have HB1 := Lib.hid (HB.out.below HT1.out (Nat.le_refl _))
      clear hab hf hT
      obtain ⟨⟨u0, u1⟩, u2, u3⟩ := KC.out _ (Below.refl _ _)
      go_wp2_with fail
      go_region_held3 (fun W => (W.cell? ⟨w.heap.size, 0, none⟩ = some (.slice a0 a.cl.length c0) ∧ W.cell? ⟨w.heap.size, 1, none⟩ = some (.slice a1 a.st.length c1)) ∧ (W.cell? ⟨w.heap.size + 1, 0, none⟩ = some (.slice b0 b.cl.length d0) ∧ W.cell? ⟨w.heap.size + 1, 1, none⟩ = some (.slice b1 b.st.length d1)))
        (first | exact KC.out _ hB5 | exact KC.out _ hB4 | exact KC.out _ (Below.refl _ _) | go_keep | assumption)
        ((first
          | (go_at_call 40; refine (impl_switchTime _ lo _ a f (HA1.out.below (Below.drew (Below.refl w1.heap.size w1)) (Nat.le_refl _))).mono ?_; rintro e w4 ⟨rfl, hB4'⟩; rw [HTE.out, ← HTT.out]; have hB4 : Below w1.heap.size w1 w4 := (Below.drew (Below.refl w1.heap.size w1)).trans hB4')
          | (go_at_call 88; refine (impl_switchedGreenI _ lo lo' _ _ a b T s (HA1.out.below hB4 (Nat.le_refl _)) (HB1.out.below hB4 (Nat.le_refl _)) HAB.out (by omega) hsb).mono ?_; rintro e w5 ⟨v5, rfl, hO5, hB5'⟩; have hB5 : Below w1.heap.size w1 w5 := hB4.trans (hB5'.mono hB4.size))))
      have hTF := HB0.out.trans ((HT1.out.trans (hB5.mono HT1.out.size)).mono HB0.out.size)
      have hTF4 := HB0.out.trans ((HT1.out.trans (hB4.mono HT1.out.size)).mono HB0.out.size)
      have HO5 : Hid (Own w5 w.heap.size 3 1 v5 (swO a b f s).length ((swO a b f s).map (.int .i64))) := by rw [HE.out, ← HTT.out]; exact hO5.mono hTF4.size
      clear hO5 hB5' hB4'
      go_wp2
      go_ret
      exact ⟨_, rfl, HO5.out, hTF⟩
end

section
open Go.RowKit
set_option linter.unusedVariables false
set_option linter.unusedSimpArgs false

theorem validCl_row {t : List (List Int)} (h : validCl t = true) {i : Nat} (hi : i < t.length) : (t.getD i []).length = t.length := (rowOk_iff.1 ((validCl_iff.1 h).2.2.1 i hi)).1

set_option maxHeartbeats 8000000 in
set_option maxRecDepth 100000 in
theorem spec_sameClear (w : World) (lo lo' : Nat) (va vb : Value) (a b : Pln) (ha : PlanR w lo va a) (hb : PlanR w lo' vb b) :
    Calls Try.prog 89 #[va, vb] w fun e w' => e = .returned (.bool (sameC a b)) ∧ Below w.heap.size w w' := by
  have ha0 := ha
  have hb0 := hb
  obtain ⟨a0, c0, a1, c1, rfl, hac, has⟩ := ha.aggs
  obtain ⟨b0, d0, b1, d1, rfl, hbc, hbs⟩ := hb.aggs
  obtain ⟨w0, hw0, hB0, hz0, K⟩ := two_box w (.slice a0 a.cl.length c0) (.slice a1 a.st.length c1) (.slice b0 b.cl.length d0) (.slice b1 b.st.length d1) 26
  obtain ⟨_, _, _, hca1, hca2⟩ := hac.form
  obtain ⟨_, _, _, hcb1, hcb2⟩ := hbc.form
  have HK := Lib.hid K
  have HA := Lib.hid (ha0.below hB0 (Nat.le_refl _))
  have HB := Lib.hid (hb0.below hB0 (Nat.le_refl _))
  have HAC := Lib.hid (hac.below hB0 (Nat.le_refl _))
  have HBC := Lib.hid (hbc.below hB0 (Nat.le_refl _))
  have HB0 := Lib.hid hB0
  obtain ⟨r1, hr1⟩ : ∃ r, r = validP a := ⟨_, rfl⟩
  obtain ⟨r2, hr2⟩ : ∃ r, r = validP b := ⟨_, rfl⟩
  have HSO : Hid (sameC a b = (r1 && (r2 && decide (a.cl = b.cl)))) := by unfold Hid sameC; rw [hr1, hr2]
  have HR1 := Lib.hid hr1
  have HR2 := Lib.hid hr2
  clear K ha0 hb0 ha hb hac has hbc hbs hB0 hr1 hr2
  go_enter Try.func89, Try.ntmps89
  go_wp2_with fail
  rw [← hw0]; clear hw0
  refine (spec_validPlan _ lo _ a HA.out).mono ?_; rintro e w1 ⟨rfl, hB1⟩
  rw [← HR1.out]
  have HT1 := Lib.hid hB1
  obtain ⟨⟨u0, u1⟩, u2, u3⟩ := HK.out _ hB1
  clear hB1
  cases r1
  · have HE : Hid (sameC a b = false) := by unfold Hid; rw [HSO.out]; rfl
    go_wp2_with fail
    go_ret
    exact ⟨ret_bool HE.out.symm, HB0.out.trans (HT1.out.mono HB0.out.size)⟩
  · go_wp2_with fail
    refine (spec_validPlan _ lo' _ b (HB.out.below HT1.out (Nat.le_refl _))).mono ?_; rintro e w2 ⟨rfl, hB2⟩
    rw [← HR2.out]
    have HT2 := Lib.hid (HT1.out.trans (hB2.mono HT1.out.size))
    clear hB2 u0 u1 u2 u3
    obtain ⟨⟨u0, u1⟩, u2, u3⟩ := HK.out _ HT2.out
    cases r2
    · have HE : Hid (sameC a b = false) := by unfold Hid; rw [HSO.out]; rfl
      go_wp2_with fail
      go_ret
      exact ⟨ret_bool HE.out.symm, HB0.out.trans (HT2.out.mono HB0.out.size)⟩
    · have HVA := Lib.hid (validP_iff.1 HR1.out.symm).1
      have HVB := Lib.hid (validP_iff.1 HR2.out.symm).1
      by_cases hl : a.cl.length = b.cl.length
      · have t1 : ((a.cl.length : Int) != (b.cl.length : Int)) = false := by rw [hl]; simp
        have t2 : (!((a.cl.length : Int) == (b.cl.length : Int))) = false := by rw [hl]; simp
        have t3 : (a.cl.length == b.cl.length) = true := by rw [hl]; simp
        have HL := Lib.hid hl
        have hl1 : a.cl.length ≤ b.cl.length := by omega
        clear hl
        go_wp2_with fail
        clear u0 u1 u2 u3
        go_loopw [5] (fun iv wo => ∃ i : Nat, i ≤ a.cl.length ∧ iv = .int .i64 i ∧ Hid (∀ j, j < i → a.cl.getD j [] = b.cl.getD j []) ∧ Hid (Below w0.heap.size w0 wo)) (fun iv _ => a.cl.length - (intOf iv).toNat)
        case atStart => exact ⟨0, Nat.zero_le _, rfl, fun j hj => absurd hj (Nat.not_lt_zero _), HT2.out⟩
        case round =>
          obtain ⟨i, hi, rfl, HE, HB3⟩ := hrel
          obtain ⟨⟨u0, u1⟩, u2, u3⟩ := HK.out _ HB3.out
          by_cases hlt : i < a.cl.length
          · go_wp2_with fail
            go_loopw [6] (fun kv wo => ∃ k : Nat, k ≤ a.cl.length ∧ kv = .int .i64 k ∧ Hid (∀ j, j < k → (a.cl.getD i []).getD j 0 = (b.cl.getD i []).getD j 0) ∧ Hid (Below w0.heap.size w0 wo)) (fun kv _ => a.cl.length - (intOf kv).toNat)
            case atStart => exact ⟨0, Nat.zero_le _, rfl, fun j hj => absurd hj (Nat.not_lt_zero _), HB3⟩
            case round =>
              clear u0 u1 u2 u3
              obtain ⟨k, hk, rfl, HE2, HB4⟩ := hrel
              obtain ⟨⟨u0, u1⟩, u2, u3⟩ := HK.out _ HB4.out
              have hra := validCl_row HVA.out hlt
              have hrb : (b.cl.getD i []).length = b.cl.length := validCl_row HVB.out (by omega)
              by_cases hltk : k < a.cl.length
              · obtain ⟨g, o, rfl, _, hg, hc⟩ := (HAC.out.below HB4.out (Nat.le_refl _)).spot (by omega)
                obtain ⟨g2, o2, rfl, _, hg2, hc2⟩ := (HBC.out.below HB4.out (Nat.le_refl _)).spot (by omega)
                obtain ⟨x1, y1, p1, hI1⟩ := hc i hlt
                obtain ⟨x2, y2, p2, hI2⟩ := hc2 i (by omega)
                obtain ⟨h1, o3, rfl, _, _, q1⟩ := hI1.spot 0 (by omega)
                obtain ⟨h2, o4, rfl, _, _, q2⟩ := hI2.spot 0 (by omega)
                have s1 := q1 k (by omega)
                have s2 := q2 k (by omega)
                have ml1 : a.cl.length ≤ y1 ∧ y1 ≤ 9223372036854775807 := by obtain ⟨_, _, e, h3, h4⟩ := Rd.form hI1; cases e; exact ⟨by omega, h4⟩
                have ml2 : a.cl.length ≤ y2 ∧ y2 ≤ 9223372036854775807 := by obtain ⟨_, _, e, h3, h4⟩ := Rd.form hI2; cases e; exact ⟨by omega, h4⟩
                rw [hra] at p1 hI1
                rw [hrb, ← HL.out] at p2 hI2
                obtain ⟨x, hx⟩ : ∃ x, x = (a.cl.getD i []).getD k 0 := ⟨_, rfl⟩
                obtain ⟨y, hy⟩ : ∃ x, x = (b.cl.getD i []).getD k 0 := ⟨_, rfl⟩
                rw [← hx] at s1
                rw [← hy] at s2
                have HX := Lib.hid hx
                have HY := Lib.hid hy
                have i0 : (0 : Int) ≤ (i : Int) := by omega
                have i1 : (i : Int) < (a.cl.length : Int) := by omega
                have i2 : (i : Int) < (b.cl.length : Int) := by omega
                have k0 : (0 : Int) ≤ (k : Int) := by omega
                have k1 : (k : Int) < (a.cl.length : Int) := by omega
                have hltb : k < b.cl.length := by omega
                have hltb2 : i < b.cl.length := by omega
                clear hc hc2 hI1 hI2 q1 q2 hx hy hra hrb
                by_cases he : x = y
                · have te : (x != y) = false := by simp [he]
                  have te2 : (!(x == y)) = false := by simp [he]
                  have HEQ := Lib.hid he
                  clear he
                  go_wp2_with fail
                  go_quiet (fail)
                  go_wp2
                  go_roundw
                  case rel => exact ⟨k + 1, by omega, by go_num, fun j hj => by
                    by_cases h : j = k
                    · subst h; rw [← HX.out, ← HY.out]; exact HEQ.out
                    · exact HE2.out j (by omega), below_drewN HB4.out _⟩
                  case measure => simp [intOf]; omega
                · have te : (x != y) = true := by simp [he]
                  have te2 : (!(x == y)) = true := by simp [he]
                  have HD : Hid (sameC a b = false) := by
                    unfold Hid; rw [HSO.out, decide_eq_false (fun h => he (by rw [HX.out, HY.out, h]))]; rfl
                  clear he
                  go_wp2_with fail
                  go_quiet (fail)
                  go_wp2
                  go_ret
                  exact ⟨ret_bool HD.out.symm, below_drewN (HB0.out.trans (HB4.out.mono HB0.out.size)) _⟩
              · obtain rfl : k = a.cl.length := by omega
                have HEI : Hid (a.cl.getD i [] = b.cl.getD i []) := ints_ext (by rw [hra, hrb, HL.out]) (fun j hj => HE2.out j (by omega))
                clear hra hrb
                go_wp2_with fail
                go_roundw
                case rel => exact ⟨i + 1, by omega, by go_num, fun j hj => by
                  by_cases h : j = i
                  · subst h; exact HEI.out
                  · exact HE.out j (by omega), HB4⟩
                case measure => simp [intOf]; omega
          · obtain rfl : i = a.cl.length := by omega
            have HD : Hid (sameC a b = true) := by unfold Hid; rw [HSO.out, decide_eq_true (ss_ext HL.out HE.out)]; rfl
            go_wp2_with fail
            go_ret
            exact ⟨ret_bool HD.out.symm, HB0.out.trans (HB3.out.mono HB0.out.size)⟩
      · have t1 : ((a.cl.length : Int) != (b.cl.length : Int)) = true := by simp; omega
        have t2 : (!((a.cl.length : Int) == (b.cl.length : Int))) = true := by simp; omega
        have t3 : (a.cl.length == b.cl.length) = false := beq_eq_false_iff_ne.mpr hl
        have HD : Hid (sameC a b = false) := by unfold Hid; rw [HSO.out, decide_eq_false (fun h => hl (by rw [h]))]; rfl
        clear hl
        go_wp2_with fail
        go_ret
        exact ⟨ret_bool HD.out.symm, HB0.out.trans (HT2.out.mono HB0.out.size)⟩

set_option maxHeartbeats 8000000 in
set_option maxRecDepth 100000 in
theorem spec_bridge (w : World) (lo lo' : Nat) (va vb : Value) (a b : Pln) (ha : PlanR w lo va a) (hb : PlanR w lo' vb b) (hab : sameC a b = true) :
    Calls Try.prog 117 #[va, vb] w fun e w' => e = .returned (.int .i64 (br a b)) ∧ Below w.heap.size w w' := by
  obtain ⟨hva, hvb, hcl⟩ := sameC_iff.1 hab
  have ha0 := ha
  have hb0 := hb
  obtain ⟨a0, c0, a1, c1, rfl, hac, has⟩ := ha.aggs
  obtain ⟨b0, d0, b1, d1, rfl, hbc, hbs⟩ := hb.aggs
  obtain ⟨ba, oa, ai, ci, rfl, hba, xa, hIa⟩ := has.first (ph_st hva)
  obtain ⟨bb, ob, bi, di, rfl, hbb, xb, hIb⟩ := hbs.first (ph_st hvb)
  obtain ⟨w0, hw0, hB0, hz0, K⟩ := two_box w (.slice a0 a.cl.length c0) (.slice (some ⟨ba, oa, none⟩) a.st.length c1) (.slice b0 b.cl.length d0) (.slice (some ⟨bb, ob, none⟩) b.st.length d1) 26
  have hbr := br_bd hva hvb hcl
  have hma := (validP_st hva (ph_st hva)).1
  have hmb := (validP_st hvb (ph_st hvb)).1
  rw [← hcl] at hmb
  have hla : 0 < a.st.length := ph_st hva
  have hlb : 0 < b.st.length := ph_st hvb
  have hlen := movesB_len hma (by omega)
  have hcl8 := (validCl_iff.1 (validP_iff.1 hva).1).2.1
  obtain ⟨pa, hpa⟩ : ∃ x, x = (a.st.getD 0 s0).ph := ⟨_, rfl⟩
  obtain ⟨pb, hpb⟩ : ∃ x, x = (b.st.getD 0 s0).ph := ⟨_, rfl⟩
  have hbr2 : br a b = change a.cl pa pb := by rw [hpa, hpb]; rfl
  obtain ⟨r, hr⟩ : ∃ x, x = br a b := ⟨_, rfl⟩
  have hbr3 : r = change a.cl pa pb := by rw [hr, hbr2]
  rw [← hpa] at xa hIa hma hlen
  rw [← hpb] at xb hIb hmb
  rw [← hr] at hbr
  have HK : Hid (∀ W, Below w0.heap.size w0 W → ((W.cell? ⟨w.heap.size, 0, none⟩ = some (.slice a0 a.cl.length c0) ∧ W.cell? ⟨w.heap.size, 1, none⟩ = some (.slice (some ⟨ba, oa, none⟩) a.st.length c1)) ∧ (W.cell? ⟨w.heap.size + 1, 0, none⟩ = some (.slice b0 b.cl.length d0) ∧ W.cell? ⟨w.heap.size + 1, 1, none⟩ = some (.slice (some ⟨bb, ob, none⟩) b.st.length d1))) ∧ W.cell? ⟨ba, oa, none⟩ = some (.slice ai pa.length ci) ∧ W.cell? ⟨bb, ob, none⟩ = some (.slice bi pb.length di)) := fun W h => by
    have hT := hB0.trans (h.mono hB0.size)
    exact ⟨K W h, (hT.cell (p := ⟨ba, oa, none⟩) hba).trans xa, (hT.cell (p := ⟨bb, ob, none⟩) hbb).trans xb⟩
  have HA := Lib.hid (ha0.below hB0 (Nat.le_refl _))
  have HB := Lib.hid (hb0.below hB0 (Nat.le_refl _))
  have HAC := Lib.hid (hac.below hB0 (Nat.le_refl _))
  have HIA : Hid (Ints w0 lo (.slice ai pa.length ci) pa) := Rd.below hIa hB0 (Nat.le_refl _) (by decide)
  have HIB : Hid (Ints w0 lo' (.slice bi pb.length di) pb) := Rd.below hIb hB0 (Nat.le_refl _) (by decide)
  have HB0 := Lib.hid hB0
  have HVA := Lib.hid hva
  have HVB := Lib.hid hvb
  have HMA := Lib.hid hma
  have HMB := Lib.hid hmb
  have HBR := Lib.hid hbr3
  have HRB := Lib.hid hr
  have HAB := Lib.hid hab
  clear K ha0 hb0 ha hb hac has hbc hbs hB0 hva hvb hcl hab hma hmb hlen hcl8 hpa hpb hbr2 hbr3 hr xa xb hIa hIb
  obtain ⟨⟨⟨u0, u1⟩, u2, u3⟩, u4, u5⟩ := HK.out _ (Below.refl _ _)
  go_enter Try.func117, Try.ntmps117
  go_wp2_with fail
  rw [← hw0]; clear hw0
  go_region_held3 (fun W => ((W.cell? ⟨w.heap.size, 0, none⟩ = some (.slice a0 a.cl.length c0) ∧ W.cell? ⟨w.heap.size, 1, none⟩ = some (.slice (some ⟨ba, oa, none⟩) a.st.length c1)) ∧ (W.cell? ⟨w.heap.size + 1, 0, none⟩ = some (.slice b0 b.cl.length d0) ∧ W.cell? ⟨w.heap.size + 1, 1, none⟩ = some (.slice (some ⟨bb, ob, none⟩) b.st.length d1))) ∧ W.cell? ⟨ba, oa, none⟩ = some (.slice ai pa.length ci) ∧ W.cell? ⟨bb, ob, none⟩ = some (.slice bi pb.length di))
    (first | exact HK.out _ hB5 | exact HK.out _ (Below.refl _ _) | go_keep | assumption)
    ((go_at_call 127; refine (spec_change _ lo lo lo' _ _ _ a.cl pa pb (HAC.out.below (Below.drew (Below.refl w0.heap.size w0)) (Nat.le_refl _)) (validP_iff.1 HVA.out).1 (Rd.below HIA.out (Below.drew (Below.refl w0.heap.size w0)) (Nat.le_refl _) (by decide)) (Rd.below HIB.out (Below.drew (Below.refl w0.heap.size w0)) (Nat.le_refl _) (by decide)) HMA.out HMB.out).mono ?_; rintro e w5 ⟨rfl, hB5'⟩; have hB5 : Below w0.heap.size w0 w5 := (Below.drew (Below.refl w0.heap.size w0)).trans hB5'))
  have hT := HB0.out.trans (hB5.mono HB0.out.size)
  go_wp2
  go_ret
  exact ⟨ret_int (by rw [← HRB.out, HBR.out]), hT⟩

set_option maxHeartbeats 8000000 in
set_option maxRecDepth 100000 in
theorem spec_switched (w : World) (lo lo' : Nat) (va vb : Value) (a b : Pln) (T s : Int) (ha : PlanR w lo va a) (hb : PlanR w lo' vb b) (hab : sameC a b = true) (hT : 0 ≤ T ∧ T ≤ 20000) (hs : 0 ≤ s ∧ s ≤ 9999) :
    Calls Try.prog 91 #[va, vb, .int .i64 T, .int .i64 s] w (OwnRet w (swg a b T s)) := by
  obtain ⟨hva, hvb, hcl⟩ := sameC_iff.1 hab
  have ha0 := ha
  have hb0 := hb
  obtain ⟨a0, c0, a1, c1, rfl, hac, has⟩ := ha.aggs
  obtain ⟨b0, d0, b1, d1, rfl, hbc, hbs⟩ := hb.aggs
  obtain ⟨ba, oa, ai, ci, rfl, hba, xa, hIa⟩ := has.first (ph_st hva)
  obtain ⟨bb, ob, bi, di, rfl, hbb, xb, hIb⟩ := hbs.first (ph_st hvb)
  obtain ⟨w0, hw0, hB0, hz0, K⟩ := two_box w (.slice a0 a.cl.length c0) (.slice (some ⟨ba, oa, none⟩) a.st.length c1) (.slice b0 b.cl.length d0) (.slice (some ⟨bb, ob, none⟩) b.st.length d1) 26
  have hbr := br_bd hva hvb hcl
  have hma := (validP_st hva (ph_st hva)).1
  have hmb := (validP_st hvb (ph_st hvb)).1
  rw [← hcl] at hmb
  have hla : 0 < a.st.length := ph_st hva
  have hlb : 0 < b.st.length := ph_st hvb
  have hlen := movesB_len hma (by omega)
  have hcl8 := (validCl_iff.1 (validP_iff.1 hva).1).2.1
  obtain ⟨pa, hpa⟩ : ∃ x, x = (a.st.getD 0 s0).ph := ⟨_, rfl⟩
  obtain ⟨pb, hpb⟩ : ∃ x, x = (b.st.getD 0 s0).ph := ⟨_, rfl⟩
  have hbr2 : br a b = change a.cl pa pb := by rw [hpa, hpb]; rfl
  obtain ⟨r, hr⟩ : ∃ x, x = br a b := ⟨_, rfl⟩
  have hbr3 : r = change a.cl pa pb := by rw [hr, hbr2]
  have hsw : swg a b T s = if s < T then grn a (s % cyc a) else if s < T + 5 then pa else if s < T + 5 + r then [] else grn b ((s - (T + 5 + r)) % cyc b) := by
    unfold swg; rw [hr, hpa]; rfl
  rw [← hpa] at xa hIa hma hlen
  rw [← hpb] at xb hIb hmb
  rw [← hr] at hbr
  have HK : Hid (∀ W, Below w0.heap.size w0 W → ((W.cell? ⟨w.heap.size, 0, none⟩ = some (.slice a0 a.cl.length c0) ∧ W.cell? ⟨w.heap.size, 1, none⟩ = some (.slice (some ⟨ba, oa, none⟩) a.st.length c1)) ∧ (W.cell? ⟨w.heap.size + 1, 0, none⟩ = some (.slice b0 b.cl.length d0) ∧ W.cell? ⟨w.heap.size + 1, 1, none⟩ = some (.slice (some ⟨bb, ob, none⟩) b.st.length d1))) ∧ W.cell? ⟨ba, oa, none⟩ = some (.slice ai pa.length ci) ∧ W.cell? ⟨bb, ob, none⟩ = some (.slice bi pb.length di)) := fun W h => by
    have hT := hB0.trans (h.mono hB0.size)
    exact ⟨K W h, (hT.cell (p := ⟨ba, oa, none⟩) hba).trans xa, (hT.cell (p := ⟨bb, ob, none⟩) hbb).trans xb⟩
  have HA := Lib.hid (ha0.below hB0 (Nat.le_refl _))
  have HB := Lib.hid (hb0.below hB0 (Nat.le_refl _))
  have HAC := Lib.hid (hac.below hB0 (Nat.le_refl _))
  have HIA : Hid (Ints w0 lo (.slice ai pa.length ci) pa) := Rd.below hIa hB0 (Nat.le_refl _) (by decide)
  have HIB : Hid (Ints w0 lo' (.slice bi pb.length di) pb) := Rd.below hIb hB0 (Nat.le_refl _) (by decide)
  have HB0 := Lib.hid hB0
  have HVA := Lib.hid hva
  have HVB := Lib.hid hvb
  have HMA := Lib.hid hma
  have HMB := Lib.hid hmb
  have HBR := Lib.hid hbr3
  have HRB := Lib.hid hr
  have HAB := Lib.hid hab
  have HSW := Lib.hid hsw
  have hca := cyc_bd hva
  have hcb := cyc_bd hvb
  obtain ⟨na, hna⟩ : ∃ x, x = cyc a := ⟨_, rfl⟩
  obtain ⟨nb, hnb⟩ : ∃ x, x = cyc b := ⟨_, rfl⟩
  rw [← hna] at hca
  rw [← hnb] at hcb
  have HNA := Lib.hid hna
  have HNB := Lib.hid hnb
  have wt1 : IntKind.i64.wrap (T + 5) = T + 5 := IntWalk.i64_in _ (by omega)
  have wt2 : IntKind.i64.wrap (T + 5 + r) = T + 5 + r := IntWalk.i64_in _ (by omega)
  have hl8 : pa.length ≤ 8 := by omega
  clear K ha0 hb0 ha hb hac has hbc hbs hB0 hva hvb hcl hab hma hmb hlen hcl8 hpa hpb hbr2 hbr3 hr hsw xa xb hIa hIb hna hnb
  obtain ⟨⟨⟨u0, u1⟩, u2, u3⟩, u4, u5⟩ := HK.out _ (Below.refl _ _)
  by_cases c1' : s < T
  · have t1 : decide (s < T) = true := decide_eq_true c1'
    have HE : Hid (swg a b T s = grn a (s % na)) := by unfold Hid; rw [HSW.out, if_pos c1', HNA.out]
    have m1 : 0 ≤ s % na := Int.emod_nonneg _ (by omega)
    have m2 : s % na < na := Int.emod_lt_of_pos _ (by omega)
    have m3 : s.tmod na = s % na := Int.tmod_eq_emod_of_nonneg hs.1
    have m4 : ¬ na = 0 := by omega
    clear c1'
    go_enter Try.func91, Try.ntmps91
    go_wp2_with fail
    rw [← hw0]; clear hw0
    go_region_held3 (fun W => ((W.cell? ⟨w.heap.size, 0, none⟩ = some (.slice a0 a.cl.length c0) ∧ W.cell? ⟨w.heap.size, 1, none⟩ = some (.slice (some ⟨ba, oa, none⟩) a.st.length c1)) ∧ (W.cell? ⟨w.heap.size + 1, 0, none⟩ = some (.slice b0 b.cl.length d0) ∧ W.cell? ⟨w.heap.size + 1, 1, none⟩ = some (.slice (some ⟨bb, ob, none⟩) b.st.length d1))) ∧ W.cell? ⟨ba, oa, none⟩ = some (.slice ai pa.length ci) ∧ W.cell? ⟨bb, ob, none⟩ = some (.slice bi pb.length di))
      (first | exact HK.out _ hB5 | exact HK.out _ hB4 | exact HK.out _ (Below.refl _ _) | go_keep | assumption)
      ((first
        | (go_at_call 116; refine (spec_cycle _ lo _ a (HA.out.below (Below.drew (Below.refl w0.heap.size w0)) (Nat.le_refl _)) HVA.out).mono ?_; rintro e w4 ⟨rfl, hB4'⟩; rw [← HNA.out]; have hB4 : Below w0.heap.size w0 w4 := (Below.drew (Below.refl w0.heap.size w0)).trans hB4')
        | (go_at_call 115; refine (spec_greenAt _ lo _ a (s % na) (HA.out.below hB4 (Nat.le_refl _)) HVA.out m1 (by rw [← HNA.out]; exact m2)).mono ?_; rintro e w5 ⟨v5, rfl, hO5, hB5'⟩; have hB5 : Below w0.heap.size w0 w5 := hB4.trans (hB5'.mono hB4.size))))
    rw [← HE.out] at hO5
    have HO5 := Lib.hid (hO5.mono (Nat.le_trans HB0.out.size hB4.size))
    have HT5 := Lib.hid (HB0.out.trans (hB5.mono HB0.out.size))
    clear hO5
    go_wp2
    go_ret
    exact ⟨_, rfl, HO5.out, HT5.out⟩
  · have t1 : decide (s < T) = false := decide_eq_false c1'
    go_enter Try.func91, Try.ntmps91
    go_wp2_with fail
    rw [← hw0]; clear hw0
    refine (spec_bridge _ lo lo' _ _ a b HA.out HB.out HAB.out).mono ?_; rintro e w1 ⟨rfl, hB1⟩
    rw [← HRB.out]
    have HT1 := Lib.hid hB1
    clear u0 u1 u2 u3 u4 u5 hB1
    obtain ⟨⟨⟨u0, u1⟩, u2, u3⟩, u4, u5⟩ := HK.out _ HT1.out
    by_cases c2' : s < T + 5
    · have t2 : decide (s < T + 5) = true := decide_eq_true c2'
      have HE : Hid (swg a b T s = pa) := by unfold Hid; rw [HSW.out, if_neg (by omega), if_pos c2']
      clear c1' c2'
      go_wp2_with fail
      refine (copyInts_any _ _ pa (Rd.mono (Rd.below HIA.out HT1.out (Nat.le_refl _) (by decide)) (Nat.zero_le _)) (by omega)).mono ?_; rintro e w2 ⟨v2, rfl, hO, hB⟩
      rw [← HE.out] at hO
      have HO := Lib.hid (hO.mono (Nat.le_trans HB0.out.size HT1.out.size))
      have HT2 := Lib.hid (HB0.out.trans ((HT1.out.trans (hB.mono HT1.out.size)).mono HB0.out.size))
      clear hO hB
      go_wp2_with fail
      go_ret
      exact ⟨_, rfl, HO.out, HT2.out⟩
    · have t2 : decide (s < T + 5) = false := decide_eq_false c2'
      by_cases c3' : s < T + 5 + r
      · have t3 : decide (s < T + 5 + r) = true := decide_eq_true c3'
        have HE : Hid (swg a b T s = []) := by unfold Hid; rw [HSW.out, if_neg (by omega), if_neg (by omega), if_pos c3']
        have HT2 := Lib.hid (HB0.out.trans (HT1.out.mono HB0.out.size))
        clear c1' c2' c3'
        go_wp2_with fail
        go_ret
        exact ⟨_, rfl, by rw [HE.out]; exact .inr ⟨rfl, rfl, _, rfl⟩, HT2.out.alloc HT2.out.size _⟩
      · have t3 : decide (s < T + 5 + r) = false := decide_eq_false c3'
        have HE : Hid (swg a b T s = grn b ((s - (T + 5 + r)) % nb)) := by unfold Hid; rw [HSW.out, if_neg (by omega), if_neg (by omega), if_neg c3', HNB.out]
        have wd : IntKind.i64.wrap (s - (T + 5 + r)) = s - (T + 5 + r) := IntWalk.i64_in _ (by omega)
        have m1 : 0 ≤ (s - (T + 5 + r)) % nb := Int.emod_nonneg _ (by omega)
        have m2 : (s - (T + 5 + r)) % nb < nb := Int.emod_lt_of_pos _ (by omega)
        have m3 : (s - (T + 5 + r)).tmod nb = (s - (T + 5 + r)) % nb := Int.tmod_eq_emod_of_nonneg (by omega)
        have m4 : ¬ nb = 0 := by omega
        have KB : Hid (∀ W, Below w1.heap.size w1 W → ((W.cell? ⟨w.heap.size, 0, none⟩ = some (.slice a0 a.cl.length c0) ∧ W.cell? ⟨w.heap.size, 1, none⟩ = some (.slice (some ⟨ba, oa, none⟩) a.st.length c1)) ∧ (W.cell? ⟨w.heap.size + 1, 0, none⟩ = some (.slice b0 b.cl.length d0) ∧ W.cell? ⟨w.heap.size + 1, 1, none⟩ = some (.slice (some ⟨bb, ob, none⟩) b.st.length d1))) ∧ W.cell? ⟨ba, oa, none⟩ = some (.slice ai pa.length ci) ∧ W.cell? ⟨bb, ob, none⟩ = some (.slice bi pb.length di)) := fun W h => HK.out _ (HT1.out.trans (h.mono HT1.out.size))
        clear c1' c2' c3'
        go_wp2_with fail
        go_region_held3 (fun W => ((W.cell? ⟨w.heap.size, 0, none⟩ = some (.slice a0 a.cl.length c0) ∧ W.cell? ⟨w.heap.size, 1, none⟩ = some (.slice (some ⟨ba, oa, none⟩) a.st.length c1)) ∧ (W.cell? ⟨w.heap.size + 1, 0, none⟩ = some (.slice b0 b.cl.length d0) ∧ W.cell? ⟨w.heap.size + 1, 1, none⟩ = some (.slice (some ⟨bb, ob, none⟩) b.st.length d1))) ∧ W.cell? ⟨ba, oa, none⟩ = some (.slice ai pa.length ci) ∧ W.cell? ⟨bb, ob, none⟩ = some (.slice bi pb.length di))
          (first | exact KB.out _ hB5 | exact KB.out _ hB4 | exact KB.out _ (Below.refl _ _) | go_keep | assumption)
          ((first
            | (go_at_call 116; refine (spec_cycle _ lo' _ b (HB.out.below (HT1.out.trans ((Below.drew (Below.refl w1.heap.size w1)).mono HT1.out.size)) (Nat.le_refl _)) HVB.out).mono ?_; rintro e w4 ⟨rfl, hB4'⟩; rw [← HNB.out]; have hB4 : Below w1.heap.size w1 w4 := (Below.drew (Below.refl w1.heap.size w1)).trans hB4')
            | (go_at_call 115; refine (spec_greenAt _ lo' _ b ((s - (T + 5 + r)) % nb) (HB.out.below (HT1.out.trans (hB4.mono HT1.out.size)) (Nat.le_refl _)) HVB.out m1 (by rw [← HNB.out]; exact m2)).mono ?_; rintro e w5 ⟨v5, rfl, hO5, hB5'⟩; have hB5 : Below w1.heap.size w1 w5 := hB4.trans (hB5'.mono hB4.size))))
        rw [← HE.out] at hO5
        have HO5 := Lib.hid (hO5.mono (Nat.le_trans HB0.out.size (Nat.le_trans HT1.out.size hB4.size)))
        have HT5 := Lib.hid (HB0.out.trans ((HT1.out.trans (hB5.mono HT1.out.size)).mono HB0.out.size))
        clear hO5
        go_wp2
        go_ret
        exact ⟨_, rfl, HO5.out, HT5.out⟩
end

section
open Go.RowKit
set_option linter.unusedVariables false
set_option linter.unusedSimpArgs false

set_option maxHeartbeats 8000000 in
set_option maxRecDepth 100000 in
theorem spec_SwitchedGreen (w : World) (lo lo' : Nat) (va vb : Value) (a b : Pln) (f s : Int) (ha : PlanR w lo va a) (hb : PlanR w lo' vb b) :
    Calls Try.prog 37 #[va, vb, .int .i64 f, .int .i64 s] w (OwnRet w (swO a b f s)) := by
  have ha0 := ha
  have hb0 := hb
  obtain ⟨a0, c0, a1, c1, rfl, hac, has⟩ := ha.aggs
  obtain ⟨b0, d0, b1, d1, rfl, hbc, hbs⟩ := hb.aggs
  obtain ⟨w0, hw0, hB0, hz0, K⟩ := two_box w (.slice a0 a.cl.length c0) (.slice a1 a.st.length c1) (.slice b0 b.cl.length d0) (.slice b1 b.st.length d1) 26
  have HK := Lib.hid K
  have HA := Lib.hid (ha0.below hB0 (Nat.le_refl _))
  have HB := Lib.hid (hb0.below hB0 (Nat.le_refl _))
  have HB0 := Lib.hid hB0
  obtain ⟨r1, hr1⟩ : ∃ r, r = sameC a b := ⟨_, rfl⟩
  obtain ⟨r3, hr3⟩ : ∃ r, r = inR f 0 9999 := ⟨_, rfl⟩
  obtain ⟨r2, hr2⟩ : ∃ r, r = inR s 0 9999 := ⟨_, rfl⟩
  have HSO : Hid (swO a b f s = if (r1 && r3) = true ∧ r2 = true then swg a b (swt (cyc a) f) s else []) := by unfold Hid swO swV; rw [hr1, hr2, hr3]
  have HR1 := Lib.hid hr1
  have HR2 := Lib.hid hr2
  have HR3 := Lib.hid hr3
  clear K ha0 hb0 ha hb hac has hbc hbs hB0 hr1 hr2 hr3
  go_enter Try.func37, Try.ntmps37
  go_wp2_with fail
  rw [← hw0]; clear hw0
  refine (spec_sameClear _ lo lo' _ _ a b HA.out HB.out).mono ?_; rintro e w1 ⟨rfl, hB1⟩
  rw [← HR1.out]
  have HT1 := Lib.hid hB1
  clear hB1
  cases r1
  · have HE : Hid (swO a b f s = []) := by unfold Hid; rw [HSO.out, if_neg (by simp)]
    go_wp2_with fail
    go_ret
    exact ⟨_, rfl, by rw [HE.out]; exact Own.nil _ _ _ _, HB0.out.trans (HT1.out.mono HB0.out.size)⟩
  · go_wp2_with fail
    refine (inRange_dec f 0 9999 r3 _ HR3.out.symm).mono ?_; rintro e _ ⟨rfl, rfl⟩
    cases r3
    · have HE : Hid (swO a b f s = []) := by unfold Hid; rw [HSO.out, if_neg (by simp)]
      go_wp2_with fail
      go_ret
      exact ⟨_, rfl, by rw [HE.out]; exact Own.nil _ _ _ _, HB0.out.trans (HT1.out.mono HB0.out.size)⟩
    go_wp2_with fail
    refine (inRange_dec s 0 9999 r2 _ HR2.out.symm).mono ?_; rintro e _ ⟨rfl, rfl⟩
    cases r2
    · have HE : Hid (swO a b f s = []) := by unfold Hid; rw [HSO.out, if_neg (by simp)]
      go_wp2_with fail
      go_ret
      exact ⟨_, rfl, by rw [HE.out]; exact Own.nil _ _ _ _, HB0.out.trans (HT1.out.mono HB0.out.size)⟩
    · have HE : Hid (swO a b f s = swg a b (swt (cyc a) f) s) := by unfold Hid; rw [HSO.out, if_pos (by simp)]
      have hab := HR1.out.symm
      have hf := HR3.out.symm
      have hsb := inR_iff.1 HR2.out.symm
      have HAB := Lib.hid hab
      have HTE := Lib.hid (swT_eq (sameC_iff.1 hab).1 hf)
      have hTb := swt_nums (sameC_iff.1 hab).1 hf
      have KC : Hid (∀ W, Below w1.heap.size w1 W → (W.cell? ⟨w.heap.size, 0, none⟩ = some (.slice a0 a.cl.length c0) ∧ W.cell? ⟨w.heap.size, 1, none⟩ = some (.slice a1 a.st.length c1)) ∧ (W.cell? ⟨w.heap.size + 1, 0, none⟩ = some (.slice b0 b.cl.length d0) ∧ W.cell? ⟨w.heap.size + 1, 1, none⟩ = some (.slice b1 b.st.length d1))) := fun W h => HK.out _ (HT1.out.trans (h.mono HT1.out.size))
      obtain ⟨T, hT⟩ : ∃ T, T = swt (cyc a) f := ⟨_, rfl⟩
      rw [← hT] at hTb
      have HTT := Lib.hid hT
      have HA1 := Lib.hid (HA.out.below HT1.out (Nat.le_refl _))
      have HB1 := Lib.hid (HB.out.below HT1.out (Nat.le_refl _))
      clear hab hf hT
      obtain ⟨⟨u0, u1⟩, u2, u3⟩ := KC.out _ (Below.refl _ _)
      go_wp2_with fail
      go_region_held3 (fun W => (W.cell? ⟨w.heap.size, 0, none⟩ = some (.slice a0 a.cl.length c0) ∧ W.cell? ⟨w.heap.size, 1, none⟩ = some (.slice a1 a.st.length c1)) ∧ (W.cell? ⟨w.heap.size + 1, 0, none⟩ = some (.slice b0 b.cl.length d0) ∧ W.cell? ⟨w.heap.size + 1, 1, none⟩ = some (.slice b1 b.st.length d1)))
        (first | exact KC.out _ hB5 | exact KC.out _ hB4 | exact KC.out _ (Below.refl _ _) | go_keep | assumption)
        ((first
          | (go_at_call 92; refine (spec_switchTime _ lo _ a f (HA1.out.below (Below.drew (Below.refl w1.heap.size w1)) (Nat.le_refl _))).mono ?_; rintro e w4 ⟨rfl, hB4'⟩; rw [HTE.out, ← HTT.out]; have hB4 : Below w1.heap.size w1 w4 := (Below.drew (Below.refl w1.heap.size w1)).trans hB4')
          | (go_at_call 91; refine (spec_switched _ lo lo' _ _ a b T s (HA1.out.below hB4 (Nat.le_refl _)) (HB1.out.below hB4 (Nat.le_refl _)) HAB.out (by omega) hsb).mono ?_; rintro e w5 ⟨v5, rfl, hO5, hB5'⟩; have hB5 : Below w1.heap.size w1 w5 := hB4.trans (hB5'.mono hB4.size))))
      have hTF := HB0.out.trans ((HT1.out.trans (hB5.mono HT1.out.size)).mono HB0.out.size)
      have hTF4 := HB0.out.trans ((HT1.out.trans (hB4.mono HT1.out.size)).mono HB0.out.size)
      have HO5 : Hid (Own w5 w.heap.size 3 1 v5 (swO a b f s).length ((swO a b f s).map (.int .i64))) := by rw [HE.out, ← HTT.out]; exact hO5.mono hTF4.size
      clear hO5 hB5' hB4'
      go_wp2
      go_ret
      exact ⟨_, rfl, HO5.out, hTF⟩

def vspan (first count : Int) : Bool := inR count 0 150 && (decide (count = 0) || (decide (0 ≤ first) && decide (first ≤ 10000 - count)))
theorem impl_validSpan (first count : Int) (v : Bool) (w : World) (h : vspan first count = v) : Calls Try.prog 96 #[.int .i64 first, .int .i64 count] w fun e w' => e = .returned (.bool v) ∧ w = w' := by
  subst h
  obtain ⟨r1, hr1⟩ : ∃ r, r = inR count 0 150 := ⟨_, rfl⟩
  have HR1 := Lib.hid hr1
  have HV : Hid (vspan first count = (r1 && (decide (count = 0) || (decide (0 ≤ first) && decide (first ≤ 10000 - count))))) := by unfold Hid vspan; rw [hr1]
  clear hr1
  go_enter Try.func96, Try.ntmps96
  go_wp2_with fail
  refine (within_dec count 0 150 r1 _ HR1.out.symm).mono ?_; rintro e _ ⟨rfl, rfl⟩
  cases r1
  · go_wp2_with fail
    go_ret
    exact ⟨ret_bool (by rw [HV.out]; rfl), rfl⟩
  · have hc := inR_iff.1 HR1.out.symm
    by_cases h0 : count = 0
    · have HE : Hid (vspan first count = true) := by unfold Hid; rw [HV.out, decide_eq_true h0]; rfl
      have t1 : (count == 0) = true := by simp [h0]
      clear h0
      go_wp2_with fail
      go_ret
      exact ⟨ret_bool HE.out.symm, rfl⟩
    · have t1 : (count == 0) = false := by simp [h0]
      by_cases h1 : 0 ≤ first
      · have HE : Hid (vspan first count = decide (first ≤ 10000 - count)) := by unfold Hid; rw [HV.out, decide_eq_false h0, decide_eq_true h1]; simp
        have t2 : decide (0 ≤ first) = true := decide_eq_true h1
        clear h0
        go_wp2_with fail
        go_ret
        exact ⟨ret_bool HE.out.symm, rfl⟩
      · have HE : Hid (vspan first count = false) := by unfold Hid; rw [HV.out, decide_eq_false h0, decide_eq_false h1]; simp
        have t2 : decide (0 ≤ first) = false := decide_eq_false h1
        clear h0
        go_wp2_with fail
        go_ret
        exact ⟨ret_bool HE.out.symm, rfl⟩

def shT (a b : Pln) (T first : Int) (N : Nat) : List (List Int) := (List.range N).map fun (i : Nat) => swg a b T (first + (i : Int))
theorem shT_len (a b : Pln) (T first : Int) (N : Nat) : (shT a b T first N).length = N := by simp [shT]
theorem shT_get {a b : Pln} {T first : Int} {N i : Nat} (hi : i < N) : (shT a b T first N).getD i [] = swg a b T (first + (i : Int)) := by
  simp [shT, List.getD_eq_getElem?_getD, hi]
theorem shO_vspan (a b : Pln) (f first count : Int) : shO a b f first count = if swV a b f = true ∧ vspan first count = true then shT a b (swt (cyc a) f) first count.toNat else [] := by
  unfold shO
  by_cases h1 : swV a b f = true
  · by_cases h3 : spanB first count = true
    · have h2 : vspan first count = true := by
        unfold spanB at h3
        unfold vspan
        simp only [Bool.and_eq_true, Bool.or_eq_true, decide_eq_true_eq, inR_iff] at h3 ⊢
        omega
      rw [if_pos ⟨h1, h3⟩, if_pos ⟨h1, h2⟩]; rfl
    · rw [if_neg (fun h => h3 h.2)]
      by_cases h2 : vspan first count = true
      · rw [if_pos ⟨h1, h2⟩]
        unfold vspan at h2
        unfold spanB at h3
        simp only [Bool.and_eq_true, Bool.or_eq_true, decide_eq_true_eq, inR_iff] at h2 h3
        have : count = 0 := by omega
        subst this; rfl
      · rw [if_neg (fun h => h2 h.2)]
  · rw [if_neg (fun h => h1 h.1), if_neg (fun h => h1 h.1)]

theorem OwnSS.nil (w : World) (lo : Nat) : OwnSS w lo (.slice none 0 0) [] := ⟨[], Own.nil _ _ _ _, RowsO.nil _ _ _, fun j hj => absurd hj (Nat.not_lt_zero _)⟩

set_option maxHeartbeats 8000000 in
set_option maxRecDepth 100000 in
theorem impl_SwitchHistory (w : World) (lo lo' : Nat) (va vb : Value) (a b : Pln) (f first count : Int) (ha : PlanR w lo va a) (hb : PlanR w lo' vb b) :
    Calls Try.prog 43 #[va, vb, .int .i64 f, .int .i64 first, .int .i64 count] w (SSRet w (shO a b f first count)) := by
  have ha0 := ha
  have hb0 := hb
  obtain ⟨a0, c0, a1, c1, rfl, hac, has⟩ := ha.aggs
  obtain ⟨b0, d0, b1, d1, rfl, hbc, hbs⟩ := hb.aggs
  obtain ⟨w0, hw0, hB0, hz0, K⟩ := two_box w (.slice a0 a.cl.length c0) (.slice a1 a.st.length c1) (.slice b0 b.cl.length d0) (.slice b1 b.st.length d1) 26
  have HK := Lib.hid K
  have HA := Lib.hid (ha0.below hB0 (Nat.le_refl _))
  have HB := Lib.hid (hb0.below hB0 (Nat.le_refl _))
  have HB0 := Lib.hid hB0
  obtain ⟨r1, hr1⟩ : ∃ r, r = swV a b f := ⟨_, rfl⟩
  obtain ⟨r2, hr2⟩ : ∃ r, r = vspan first count := ⟨_, rfl⟩
  have HSO : Hid (shO a b f first count = if r1 = true ∧ r2 = true then shT a b (swt (cyc a) f) first count.toNat else []) := by unfold Hid; rw [shO_vspan, hr1, hr2]
  have HR1 := Lib.hid hr1
  have HR2 := Lib.hid hr2
  clear K ha0 hb0 ha hb hac has hbc hbs hB0 hr1 hr2
  go_enter Try.func43, Try.ntmps43
  go_wp2_with fail
  rw [← hw0]; clear hw0
  refine (impl_validSwitch _ lo lo' _ _ a b f HA.out HB.out).mono ?_; rintro e w1 ⟨rfl, hB1⟩
  rw [← HR1.out]
  have HT1 := Lib.hid hB1
  clear hB1
  cases r1
  · have HE : Hid (shO a b f first count = []) := by unfold Hid; rw [HSO.out, if_neg (by simp)]
    go_wp2_with fail
    go_ret
    exact ⟨_, rfl, by rw [HE.out]; exact OwnSS.nil _ _, HB0.out.trans (HT1.out.mono HB0.out.size)⟩
  · go_wp2_with fail
    refine (impl_validSpan first count r2 _ HR2.out.symm).mono ?_; rintro e _ ⟨rfl, rfl⟩
    cases r2
    · have HE : Hid (shO a b f first count = []) := by unfold Hid; rw [HSO.out, if_neg (by simp)]
      go_wp2_with fail
      go_ret
      exact ⟨_, rfl, by rw [HE.out]; exact OwnSS.nil _ _, HB0.out.trans (HT1.out.mono HB0.out.size)⟩
    · have hsv := HR1.out.symm
      unfold swV at hsv
      rw [Bool.and_eq_true] at hsv
      obtain ⟨hab, hf⟩ := hsv
      have hsp := HR2.out.symm
      unfold vspan at hsp
      simp only [Bool.and_eq_true, Bool.or_eq_true, decide_eq_true_eq, inR_iff] at hsp
      obtain ⟨N, hN⟩ := Int.eq_ofNat_of_zero_le hsp.1.1
      subst hN
      have hN150 : N ≤ 150 := by omega
      have hfk : ∀ k, k < N → 0 ≤ first + (k : Int) ∧ first + (k : Int) ≤ 9999 := fun k hk => by omega
      have HFK := Lib.hid hfk
      have HE : Hid (shO a b f first (N : Int) = shT a b (swt (cyc a) f) first N) := by unfold Hid; rw [HSO.out, if_pos (by simp)]; rfl
      have HAB := Lib.hid hab
      have HTE := Lib.hid (swT_eq (sameC_iff.1 hab).1 hf)
      have hTb := swt_nums (sameC_iff.1 hab).1 hf
      obtain ⟨T, hT⟩ : ∃ T, T = swt (cyc a) f := ⟨_, rfl⟩
      rw [← hT] at hTb
      have HTT := Lib.hid hT
      obtain ⟨⟨u0, u1⟩, u2, u3⟩ := HK.out _ HT1.out
      obtain ⟨i0, hi, hz0', hz1', hz2'⟩ := info_parts info_isl
      clear hab hf hT hsp hfk
      go_wp2_with fail
      refine (impl_switchTime _ lo _ a f (HA.out.below HT1.out (Nat.le_refl _))).mono ?_; rintro e w2 ⟨rfl, hB2⟩
      rw [HTE.out, ← HTT.out]
      have HT2 := Lib.hid (HT1.out.trans (hB2.mono HT1.out.size))
      clear hB2 u0 u1 u2 u3
      go_wp2_with (at_make; refine wpList_make_own _ rfl _ _ 23 rfl w2.heap.size 27 i0 (.slice none 0 0) 1 Try.underlying23 hi hz0' hz1' .i64 .i64 _ N rfl rfl rfl (by rw [hz2']; omega) (by unfold maxLen; omega) (Nat.le_refl _) ?_; intro w3 hown hg3)
      have hO3 : Own w3 w2.heap.size 27 1 (.slice (some ⟨w2.heap.size, 0, none⟩) 0 N) 0 [] := .inl hown
      have HO3 := Lib.hid hO3
      have HT3 := Lib.hid (HT2.out.trans (below_of_grownBy hg3 (B := w0.heap.size) HT2.out.size (fun k hk => by cases hk)))
      have HZ2 := Lib.hid HT2.out.size
      have hzg := hg3.size
      clear hown hg3 hO3
      go_loopw [12, 31] (fun hv iv wo => ∃ k : Nat, ∃ hs, k ≤ N ∧ iv = .int .i64 k ∧ Hid (Own wo w2.heap.size 27 1 hv k hs ∧ RowsO wo w2.heap.size hs (shT a b T first N) k ∧ ∀ j, j < k → Apart hv (hs.getD j .nilFunc)) ∧ Hid (Below w0.heap.size w0 wo ∧ w2.heap.size ≤ wo.heap.size)) (fun _ iv _ => N - (intOf iv).toNat)
      case atStart => exact ⟨0, [], Nat.zero_le _, rfl, ⟨HO3.out, RowsO.nil _ _ _, fun j hj => absurd hj (Nat.not_lt_zero _)⟩, HT3.out, hzg⟩
      case round =>
        clear HO3 HT3 hzg
        obtain ⟨k, hs, hk, rfl, HO, HB3⟩ := hrel
        obtain ⟨⟨u0, u1⟩, u2, u3⟩ := HK.out _ HB3.out.1
        by_cases hlt : k < N
        · have hfkk := HFK.out k hlt
          have wf : IntKind.i64.wrap (first + (k : Int)) = first + (k : Int) := IntWalk.i64_in _ (by omega)
          go_wp2_with fail
          refine (impl_switchedGreenI _ lo lo' _ _ a b T (first + (k : Int)) (HA.out.below HB3.out.1 (Nat.le_refl _)) (HB.out.below HB3.out.1 (Nat.le_refl _)) HAB.out (by omega) hfkk).mono ?_; rintro e w5 ⟨v5, rfl, hO5, hB5⟩
          obtain ⟨a5, k5, rfl, _, _⟩ := hO5.form
          have hOl := HO.out.1.below hB5 (Nat.le_refl _)
          have HO5 := Lib.hid hO5
          have HB5 := Lib.hid hB5
          have hsz5 : w2.heap.size ≤ w5.heap.size := Nat.le_trans HB3.out.2 hB5.size
          obtain ⟨n5, hn5⟩ : ∃ n, n = (swg a b T (first + (k : Int))).length := ⟨_, rfl⟩
          rw [← hn5]
          have HN5 := Lib.hid hn5
          clear hO5 hB5 u0 u1 u2 u3 hn5
          go_wp2_with (at_builtin; refine wpList_append_oneH _ rfl _ _ 23 rfl 27 (.slice none 0 0) 24 Try.underlying23 info_intsl rfl w2.heap.size _ _ _ rfl hOl _ _ w5.heap.size rfl rfl rfl (by omega) (by omega) hsz5 ?_; intro v6 w6 hO6 hg6 hk6)
          have hap := ss_app (w0 := wr) (w1 := w5) (w' := w6) (lo := w2.heap.size) (v := u12) (v' := v6) (u := .slice a5 n5 k5) (hs := hs) (t := shT a b T first N) (k := k) HO.out.1 HO.out.2.1 HO.out.2.2 HB5.out (by rw [shT_get hlt, ← HN5.out]; have := HO5.out; rw [← HN5.out] at this; exact this) HB3.out.2 hg6 hk6
          have HF : Hid (Own w6 w2.heap.size 27 1 v6 (k + 1) (hs ++ [Value.slice a5 n5 k5]) ∧ RowsO w6 w2.heap.size (hs ++ [Value.slice a5 n5 k5]) (shT a b T first N) (k + 1) ∧ ∀ j, j < k + 1 → Apart v6 ((hs ++ [Value.slice a5 n5 k5]).getD j .nilFunc)) := ⟨hO6, hap.1, hap.2⟩
          have HB6 : Hid (Below w0.heap.size w0 w6 ∧ w2.heap.size ≤ w6.heap.size) := by
            have hT5 := HB3.out.1.trans (HB5.out.mono HB3.out.1.size)
            exact ⟨hT5.trans (below_of_grownBy hg6 (B := w0.heap.size) hT5.size (fun q hq => by have := (hOl.wblk hq).1; have := HZ2.out; omega)), Nat.le_trans hsz5 hg6.size⟩
          clear hO6 hg6 hk6 hap hOl
          go_wp2_with fail
          go_roundw
          case rel => exact ⟨k + 1, _, by omega, by go_num, HF, HB6⟩
          case measure => simp [intOf]; omega
        · obtain rfl : k = N := by omega
          have HF : Hid (OwnSS wr w.heap.size u12 (shO a b f first (k : Int))) := by
            rw [HE.out, ← HTT.out]
            refine OwnSS.mono (lo := w2.heap.size) ⟨hs, by rw [shT_len]; exact HO.out.1, by rw [shT_len]; exact HO.out.2.1, fun j hj => HO.out.2.2 j (by rw [shT_len] at hj; exact hj)⟩ (Nat.le_trans HB0.out.size HZ2.out)
          go_wp2_with fail
          go_ret
          exact ⟨_, rfl, HF.out, HB0.out.trans (HB3.out.1.mono HB0.out.size)⟩

set_option maxHeartbeats 16000000 in
set_option maxRecDepth 100000 in
theorem spec_SwitchHistory (w : World) (lo lo' : Nat) (va vb : Value) (a b : Pln) (f first count : Int) (ha : PlanR w lo va a) (hb : PlanR w lo' vb b) :
    Calls Try.prog 45 #[va, vb, .int .i64 f, .int .i64 first, .int .i64 count] w (SSRet w (shO a b f first count)) := by
  have ha0 := ha
  have hb0 := hb
  obtain ⟨a0, c0, a1, c1, rfl, hac, has⟩ := ha.aggs
  obtain ⟨b0, d0, b1, d1, rfl, hbc, hbs⟩ := hb.aggs
  obtain ⟨wp, hwp, hBp, hzp, K⟩ := two_box w (.slice a0 a.cl.length c0) (.slice a1 a.st.length c1) (.slice b0 b.cl.length d0) (.slice b1 b.st.length d1) 26
  have hOp := Own.made wp [] 27 wp.heap.size 1 0 rfl (Nat.le_refl _) (by decide)
  obtain ⟨w0, hw0⟩ : ∃ x, x = wp.alloc (.cells #[] 27) := ⟨_, rfl⟩
  rw [show (wp.alloc (Obj.cells (List.toArray []) 27)) = w0 from hw0.symm] at hOp
  have hsp : wp.heap.size = w.heap.size + 1 + 1 := by rw [hwp]; simp
  have hBpe : Below wp.heap.size wp w0 := by rw [hw0]; exact (Below.refl _ _).alloc (Nat.le_refl _) _
  have hB0 := hBp.trans (hBpe.mono hBp.size)
  have HK : Hid (∀ W, Below w0.heap.size w0 W → (W.cell? ⟨w.heap.size, 0, none⟩ = some (.slice a0 a.cl.length c0) ∧ W.cell? ⟨w.heap.size, 1, none⟩ = some (.slice a1 a.st.length c1)) ∧ (W.cell? ⟨w.heap.size + 1, 0, none⟩ = some (.slice b0 b.cl.length d0) ∧ W.cell? ⟨w.heap.size + 1, 1, none⟩ = some (.slice b1 b.st.length d1))) := fun W h => K W (hBpe.trans (h.mono hBpe.size))
  have hz0 : w.heap.size + 1 + 1 < w0.heap.size := by rw [hw0]; simp [hsp]
  have hOp2 : Own w0 w0.heap.size 27 1 (.slice (some ⟨w.heap.size + 1 + 1, 0, none⟩) 0 0) 0 [] := .inr ⟨rfl, rfl, _, rfl⟩
  have HOP := Lib.hid hOp2
  have HA := Lib.hid (ha0.below hB0 (Nat.le_refl _))
  have HB := Lib.hid (hb0.below hB0 (Nat.le_refl _))
  have HB0 := Lib.hid hB0
  obtain ⟨r1, hr1⟩ : ∃ r, r = sameC a b := ⟨_, rfl⟩
  obtain ⟨r2, hr2⟩ : ∃ r, r = inR f 0 9999 := ⟨_, rfl⟩
  obtain ⟨r3, hr3⟩ : ∃ r, r = inR first 0 9999 := ⟨_, rfl⟩
  obtain ⟨r4, hr4⟩ : ∃ r, r = inR count 0 150 := ⟨_, rfl⟩
  have HSO : Hid (shO a b f first count = if (r1 && r2) = true ∧ (r3 && (r4 && decide (first + count - 1 ≤ 9999))) = true then shT a b (swt (cyc a) f) first count.toNat else []) := by unfold Hid shO swV spanB; rw [hr1, hr2, hr3, hr4]; rfl
  have HR1 := Lib.hid hr1
  have HR2 := Lib.hid hr2
  have HR3 := Lib.hid hr3
  have HR4 := Lib.hid hr4
  clear K ha0 hb0 ha hb hac has hbc hbs hB0 hr1 hr2 hr3 hr4 hOp hOp2 hsp hBpe hBp hzp
  go_enter Try.func45, Try.ntmps45
  go_wp2_with fail
  rw [← hwp, ← hw0]; clear hw0 hwp
  refine (spec_sameClear _ lo lo' _ _ a b HA.out HB.out).mono ?_; rintro e w1 ⟨rfl, hB1⟩
  rw [← HR1.out]
  have HT1 := Lib.hid hB1
  clear hB1
  cases r1
  · have HE : Hid (shO a b f first count = []) := by unfold Hid; rw [HSO.out, if_neg (by simp)]
    go_wp2_with fail
    go_ret
    exact ⟨_, rfl, by rw [HE.out]; exact OwnSS.nil _ _, HB0.out.trans (HT1.out.mono HB0.out.size)⟩
  go_wp2_with fail
  refine (inRange_dec f 0 9999 r2 _ HR2.out.symm).mono ?_; rintro e _ ⟨rfl, rfl⟩
  cases r2
  · have HE : Hid (shO a b f first count = []) := by unfold Hid; rw [HSO.out, if_neg (by simp)]
    go_wp2_with fail
    go_ret
    exact ⟨_, rfl, by rw [HE.out]; exact OwnSS.nil _ _, HB0.out.trans (HT1.out.mono HB0.out.size)⟩
  go_wp2_with fail
  refine (inRange_dec first 0 9999 r3 _ HR3.out.symm).mono ?_; rintro e _ ⟨rfl, rfl⟩
  cases r3
  · have HE : Hid (shO a b f first count = []) := by unfold Hid; rw [HSO.out, if_neg (by simp)]
    go_wp2_with fail
    go_ret
    exact ⟨_, rfl, by rw [HE.out]; exact OwnSS.nil _ _, HB0.out.trans (HT1.out.mono HB0.out.size)⟩
  go_wp2_with fail
  refine (inRange_dec count 0 150 r4 _ HR4.out.symm).mono ?_; rintro e _ ⟨rfl, rfl⟩
  cases r4
  · have HE : Hid (shO a b f first count = []) := by unfold Hid; rw [HSO.out, if_neg (by simp)]
    go_wp2_with fail
    go_ret
    exact ⟨_, rfl, by rw [HE.out]; exact OwnSS.nil _ _, HB0.out.trans (HT1.out.mono HB0.out.size)⟩
  have hb3 := inR_iff.1 HR3.out.symm
  have hb4 := inR_iff.1 HR4.out.symm
  have wq1 : IntKind.i64.wrap (first + count) = first + count := IntWalk.i64_in _ (by omega)
  have wq2 : IntKind.i64.wrap (first + count - 1) = first + count - 1 := IntWalk.i64_in _ (by omega)
  by_cases hsum : first + count - 1 ≤ 9999
  case neg =>
    have t1 : decide (9999 < first + count - 1) = true := decide_eq_true (by omega)
    have HE : Hid (shO a b f first count = []) := by unfold Hid; rw [HSO.out, decide_eq_false hsum, if_neg (by simp)]
    clear hsum
    go_wp2_with fail
    go_ret
    exact ⟨_, rfl, by rw [HE.out]; exact OwnSS.nil _ _, HB0.out.trans (HT1.out.mono HB0.out.size)⟩
  case pos =>
    have t1 : decide (9999 < first + count - 1) = false := decide_eq_false (by omega)
    obtain ⟨N, hN⟩ := Int.eq_ofNat_of_zero_le hb4.1
    subst hN
    have hN150 : N ≤ 150 := by omega
    have hfk : ∀ k, k < N → 0 ≤ first + (k : Int) ∧ first + (k : Int) ≤ 9999 := fun k hk => by omega
    have HFK := Lib.hid hfk
    have hab := HR1.out.symm
    have hf := HR2.out.symm
    have HE : Hid (shO a b f first (N : Int) = shT a b (swt (cyc a) f) first N) := by unfold Hid; rw [HSO.out, decide_eq_true hsum, if_pos (by simp)]; rfl
    have HAB := Lib.hid hab
    have HTE := Lib.hid (swT_eq (sameC_iff.1 hab).1 hf)
    have hTb := swt_nums (sameC_iff.1 hab).1 hf
    obtain ⟨T, hT⟩ : ∃ T, T = swt (cyc a) f := ⟨_, rfl⟩
    rw [← hT] at hTb
    have HTT := Lib.hid hT
    have hfb : -1000 ≤ first ∧ first ≤ 9999 := by omega
    have HO1 := Lib.hid (HOP.out.below HT1.out (Nat.le_refl _))
    clear hab hf hT hfk hsum hb3
    go_wp2_with fail
    clear t1 wq1 wq2
    go_loopw [11, 12] (fun hv iv wo => ∃ k : Nat, ∃ hs, k ≤ N ∧ iv = .int .i64 k ∧ Hid (Own wo w0.heap.size 27 1 hv k hs ∧ RowsO wo w0.heap.size hs (shT a b T first N) k ∧ ∀ j, j < k → Apart hv (hs.getD j .nilFunc)) ∧ Hid (Below w0.heap.size w0 wo)) (fun _ iv _ => N - (intOf iv).toNat)
    case atStart => exact ⟨0, [], Nat.zero_le _, rfl, ⟨HO1.out, RowsO.nil _ _ _, fun j hj => absurd hj (Nat.not_lt_zero _)⟩, HT1.out⟩
    case round =>
      clear HO1
      obtain ⟨k, hs, hk, rfl, HO, HB3⟩ := hrel
      by_cases hlt : k < N
      · have hfkk := HFK.out k hlt
        have wf : IntKind.i64.wrap (first + (k : Int)) = first + (k : Int) := IntWalk.i64_in _ (by omega)
        have hgt := shT_get (a := a) (b := b) (T := T) (first := first) (N := N) hlt
        obtain ⟨n5, hn5⟩ : ∃ n, n = (swg a b T (first + (k : Int))).length := ⟨_, rfl⟩
        have HN5 := Lib.hid hn5
        have HGT := Lib.hid hgt
        have KA : Hid (∀ W, Below wr.heap.size wr W → (W.cell? ⟨w.heap.size, 0, none⟩ = some (.slice a0 a.cl.length c0) ∧ W.cell? ⟨w.heap.size, 1, none⟩ = some (.slice a1 a.st.length c1)) ∧ (W.cell? ⟨w.heap.size + 1, 0, none⟩ = some (.slice b0 b.cl.length d0) ∧ W.cell? ⟨w.heap.size + 1, 1, none⟩ = some (.slice b1 b.st.length d1))) := fun W h => HK.out _ (HB3.out.trans (h.mono HB3.out.size))
        have HAr := Lib.hid (HA.out.below HB3.out (Nat.le_refl _))
        have HBr := Lib.hid (HB.out.below HB3.out (Nat.le_refl _))
        have hsz := HB3.out.size
        clear hgt hn5
        go_wp2_with fail
        go_region_held3 (fun W => (W.cell? ⟨w.heap.size, 0, none⟩ = some (.slice a0 a.cl.length c0) ∧ W.cell? ⟨w.heap.size, 1, none⟩ = some (.slice a1 a.st.length c1)) ∧ (W.cell? ⟨w.heap.size + 1, 0, none⟩ = some (.slice b0 b.cl.length d0) ∧ W.cell? ⟨w.heap.size + 1, 1, none⟩ = some (.slice b1 b.st.length d1)))
          (first | exact HK.out _ hB6 | exact KA.out _ (hB5.alloc hB5.size _) | exact KA.out _ hB5 | exact KA.out _ hB4 | exact KA.out _ (Below.drew (Below.refl wr.heap.size wr)) | go_keep | assumption)
          ((first
            | (go_at_call 92; refine (spec_switchTime _ lo _ a f (HAr.out.below (Below.drew (Below.refl wr.heap.size wr)) (Nat.le_refl _))).mono ?_; rintro e w4 ⟨rfl, hB4'⟩; rw [HTE.out, ← HTT.out]; have hB4 : Below wr.heap.size wr w4 := (Below.drew (Below.refl wr.heap.size wr)).trans hB4')
            | (go_at_call 91; refine (spec_switched _ lo lo' _ _ a b T (first + (k : Int)) (HAr.out.below hB4 (Nat.le_refl _)) (HBr.out.below hB4 (Nat.le_refl _)) HAB.out (by omega) hfkk).mono ?_; rintro e w5 ⟨v5, rfl, hO5, hB5'⟩; obtain ⟨a5, k5, rfl, _, _⟩ := hO5.form; have hB5 : Below wr.heap.size wr w5 := hB4.trans (hB5'.mono hB4.size); have hO5w := HO.out.1.below hB5 (Nat.le_refl _); have hz5 : w0.heap.size ≤ w5.heap.size := Nat.le_trans hsz hB5.size; rw [← HN5.out])
            | (refine step_append_OwnW _ (by rfl) _ _ 23 (by rfl) 27 (.slice none 0 0) 1 24 Try.underlying23 info_intsl rfl (by omega) w0.heap.size _ _ _ (by rfl) hO5w [.slice a5 n5 k5] rfl _ w5.heap.size (by rfl) rfl (by simp; rfl) (by omega) (by omega) hz5 ?_; intro v6 w6 hO6 hg6 hk6; have hB6 : Below w0.heap.size w0 w6 := (HB3.out.trans (hB5.mono HB3.out.size)).trans (below_of_grownBy hg6 hz5 (fun q hq => (hO5w.wblk hq).1)))))
        have hap := ss_app (w0 := wr) (w1 := w5) (w' := w6) (lo := w0.heap.size) (v := u11) (v' := v6) (u := .slice a5 n5 k5) (hs := hs) (t := shT a b T first N) (k := k) HO.out.1 HO.out.2.1 HO.out.2.2 hB5 (by rw [HGT.out, ← HN5.out]; have := hO5.mono (show wr.heap.size ≤ w4.heap.size from hB4.size); rw [← HN5.out] at this; exact this) hsz hg6 hk6
        have HF : Hid (Own w6 w0.heap.size 27 1 v6 (k + 1) (hs ++ [Value.slice a5 n5 k5]) ∧ RowsO w6 w0.heap.size (hs ++ [Value.slice a5 n5 k5]) (shT a b T first N) (k + 1) ∧ ∀ j, j < k + 1 → Apart v6 ((hs ++ [Value.slice a5 n5 k5]).getD j .nilFunc)) := ⟨hO6, hap.1, hap.2⟩
        have HB6 := Lib.hid hB6
        clear hO6 hg6 hk6 hap hO5w hO5 hB6 hB5 hB4 hB5' hB4'
        go_wp2
        go_roundw
        case rel => exact ⟨k + 1, _, by omega, by go_num, HF, HB6⟩
        case measure => simp [intOf]; omega
      · obtain rfl : k = N := by omega
        have HF : Hid (OwnSS wr w.heap.size u11 (shO a b f first (k : Int))) := by
          rw [HE.out, ← HTT.out]
          refine OwnSS.mono (lo := w0.heap.size) ⟨hs, by rw [shT_len]; exact HO.out.1, by rw [shT_len]; exact HO.out.2.1, fun j hj => HO.out.2.2 j (by rw [shT_len] at hj; exact hj)⟩ HB0.out.size
        go_wp2_with fail
        go_ret
        exact ⟨_, rfl, HF.out, HB0.out.trans (HB3.out.mono HB0.out.size)⟩
end
end Go.Proofs.Ytokpgipbgkiepaa
