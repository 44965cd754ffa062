/- WaveOffsets: the program's. -/
import Derived.Test.YtbojkhmlfflakaaBo9
import Derived.Deep.QuietTactic
import Derived.IntWalk
namespace Go.Proofs.Ytbojkhmlfflakaa
open Go.RowKit
set_option linter.unusedVariables false
set_option linter.unusedSimpArgs false

theorem zeros_map (n : Nat) : (madeCells (Value.int .i64 0).cells (n * 1)).toList = (List.replicate n (0 : Int)).map (Value.int .i64) := by
  rw [Nat.mul_one]
  apply List.ext_getElem?
  intro i
  by_cases hi : i < n
  · simp [madeCells, Value.cells, hi, Nat.mod_one]
  · simp [madeCells, Value.cells, List.getElem?_eq_none (show (List.range n).length ≤ i by simp; omega), List.getElem?_eq_none (show (List.replicate n (Value.int .i64 0)).length ≤ i by simp; omega)]
theorem Own.store {w : World} {lo : Nat} {e : TypeId} {sz n g len cap : Nat} {cs : List Value} (h : Own w lo e sz (.slice (some ⟨g, 0, none⟩) len cap) n cs) (hn : 0 < n) (i : Nat) (u : Value) :
    Own (w.setCell ⟨g, i, none⟩ u) lo e sz (.slice (some ⟨g, 0, none⟩) len cap) n (cs.set i u) ∧ w.grownBy (w.setCell ⟨g, i, none⟩ u) (some g) := by
  obtain ⟨g', e1, _, _, _, _, hset⟩ := h.parts hn
  cases e1
  exact hset i u
theorem Own.drewN {w : World} {lo : Nat} {e : TypeId} {sz : Nat} {v : Value} {n : Nat} {cs : List Value} (h : Own w lo e sz v n cs) (m : Nat) : Own (w.drewN m) lo e sz v n cs :=
  h.grown (row := none) ⟨rfl, rfl, rfl, Nat.le_refl _, fun _ _ _ => rfl⟩ (fun _ e => by cases e)
theorem ints_cell {w : World} {lo e g len cap n F : Nat} {ts : List Int} (h : Own w lo e 1 (.slice (some ⟨g, 0, none⟩) len cap) n (ts.map (Value.int .i64))) (hF : F < n) :
    w.cell? ⟨g, F, none⟩ = some (.int .i64 (ts.getD F 0)) ∧ w.frozen? ⟨g, F, none⟩ = false ∧ g < w.heap.size := by
  have hl := h.len
  obtain ⟨g', e1, h2, h3, h4, h5, h6⟩ := h.parts (by omega)
  cases e1
  refine ⟨?_, h5 F, h3⟩
  rw [h4 F (by omega)]
  simp at hl
  simp [show F < ts.length by omega]
def RowRet (w : World) (xs : List Int) (e : Ending) (w' : World) : Prop :=
  ∃ v', e = .returned v' ∧ Own w' w.heap.size 3 1 v' xs.length (xs.map (Value.int .i64)) ∧ Below w.heap.size w w'
theorem wav_fill {s : Str} {L : List Int} (hl : L.length = s.gr.length) (h : ∀ j, j < s.gr.length → L.getD j 0 = (wav s).getD j 0) : L = wav s := by
  apply List.ext_getElem?
  intro i
  by_cases hi : i < s.gr.length
  · have := h i hi
    rw [List.getD_eq_getElem?_getD, List.getD_eq_getElem?_getD, List.getElem?_eq_getElem (by omega), List.getElem?_eq_getElem (by rw [wav_len]; exact hi)] at this
    rw [List.getElem?_eq_getElem (by omega), List.getElem?_eq_getElem (by rw [wav_len]; exact hi)]
    simpa using this
  · rw [List.getElem?_eq_none (by omega), List.getElem?_eq_none (by rw [wav_len]; omega)]
theorem getD_set1 (L : List Int) (i j : Nat) (x : Int) (hi : i < L.length) : (L.set i x).getD j 0 = if j = i then x else L.getD j 0 := by
  by_cases h : j = i
  · subst h; simp [hi]
  · simp [h, List.getD_eq_getElem?_getD, List.getElem?_set, Ne.symm h]

set_option maxHeartbeats 8000000 in
theorem impl_wave (w : World) (lo : Nat) (v : Value) (s : Str) (hv : StrR w lo v s) (hval : validS s = true) :
    Calls Try.prog 9 #[v] w (RowRet w (wav s)) := by
  have HV0 := Lib.hid hv
  obtain ⟨vg, vt, rfl, hg, ht⟩ := hv
  obtain ⟨hc1, hg1, htl, hga, hta⟩ := validS_iff.1 hval
  obtain ⟨ag, cg, rfl, hcg, hmg⟩ := Rd.form hg
  obtain ⟨at', ct, rfl, hct, hmt⟩ := Rd.form ht
  have HXT : Hid (0 < s.tr.length → ∃ bt ot, at' = some ⟨bt, ot, none⟩ ∧ bt < w.heap.size ∧ ∀ i, i < s.tr.length → w.cell? ⟨bt, ot + i, none⟩ = some (.int .i64 (s.tr.getD i 0))) := fun h => by
    obtain ⟨bt, ot, e, _, hbt, hxt⟩ := Rd.spot 0 ht h
    exact ⟨bt, ot, e, hbt, hxt⟩
  have HTB : Hid (∀ i, i ≤ s.tr.length → 0 ≤ trS s i ∧ trS s i ≤ 60 * (i : Int)) := trS_bd hval
  have HTA : Hid (∀ i, i < s.tr.length → 0 ≤ s.tr.getD i 0 ∧ s.tr.getD i 0 ≤ 60) := fun i hi => allB_at hta hi
  obtain ⟨w0, hw0, hB0, x0, x1, x2, hz0⟩ := str_box w (.int .i64 s.cy) (.slice ag s.gr.length cg) (.slice at' s.tr.length ct)
  have HB0 := Lib.hid hB0
  obtain ⟨c1, c30⟩ := hc1
  obtain ⟨g1, g4⟩ := hg1
  have HTL := Lib.hid htl
  have HVAL := Lib.hid hval
  obtain ⟨i0, hi, hz0', hz1', hz2'⟩ := info_parts (show (Try.prog.info? 3).map (fun i => (i.zero, i.size, i.bytes)) = some (some (.int .i64 0), 1, 8) by kernel_rfl)
  clear hg ht hB0 hga hta htl
  go_enter Try.func9, Try.ntmps9
  go_wp2_with fail
  rw [← hw0]
  clear hw0
  refine (str_valid _ lo _ s (HV0.out.below HB0.out (Nat.le_refl _))).mono ?_; rintro e w1 ⟨rfl, hB1⟩
  rw [hval]
  clear hval
  have hT1 := HB0.out.trans (hB1.mono HB0.out.size)
  have hz1 := Nat.lt_of_lt_of_le hz0 hB1.size
  have u0 := (hB1.cell (p := ⟨w.heap.size, 0, none⟩) hz0).trans x0
  have u1 := (hB1.cell (p := ⟨w.heap.size, 1, none⟩) hz0).trans x1
  have u2 := (hB1.cell (p := ⟨w.heap.size, 2, none⟩) hz0).trans x2
  clear x0 x1 x2 hB1
  have HT1 := Lib.hid hT1
  clear hT1
  go_wp2_with (at_make; refine wpList_make_full _ rfl _ _ 23 rfl w1.heap.size 3 i0 (.int .i64 0) 1 Try.underlying23 hi hz0' hz1' .i64 .i64 s.gr.length s.gr.length s.gr.length rfl rfl rfl rfl (by rw [hz2']; omega) (by unfold maxLen; omega) (Nat.le_refl _) ?_; intro w2 hown hg2; have hB2 := below_of_grownBy hg2 (Nat.le_refl _) (fun k hk => by cases hk); have t0 := (hB2.cell (p := ⟨w.heap.size, 0, none⟩) hz1).trans u0; have t1 := (hB2.cell (p := ⟨w.heap.size, 1, none⟩) hz1).trans u1; have t2 := (hB2.cell (p := ⟨w.heap.size, 2, none⟩) hz1).trans u2)
  have hO : Own w2 w1.heap.size 3 1 (.slice (some ⟨w1.heap.size, 0, none⟩) s.gr.length s.gr.length) s.gr.length ((List.replicate s.gr.length (0 : Int)).map (Value.int .i64)) := by
    rw [← zeros_map]; exact .inl hown
  have hz2 := Nat.lt_of_lt_of_le hz1 hB2.size
  clear hown hg2
  go_loopw [4, 17] (fun sum i wo => ∃ k : Nat, ∃ L : List Int, k ≤ s.tr.length ∧ i = .int .i64 k ∧ sum = .int .i64 (trS s k) ∧ L.length = s.gr.length ∧ Own wo w1.heap.size 3 1 (.slice (some ⟨w1.heap.size, 0, none⟩) s.gr.length s.gr.length) s.gr.length (L.map (Value.int .i64)) ∧ Hid (∀ j, j ≤ k → L.getD j 0 = (wav s).getD j 0) ∧ Below w1.heap.size w1 wo) (fun sum i _ => s.tr.length - (intOf i).toNat)
  case atStart => exact ⟨0, _, Nat.zero_le _, rfl, rfl, by simp, hO, fun j hj => by
    obtain rfl : j = 0 := by omega
    rw [wav_zero HVAL.out]; simp [show 0 < s.gr.length by omega], hB2⟩
  case round =>
    clear hO t0 t1 t2 hB2 hz2
    obtain ⟨k, L, hk, rfl, rfl, hL, hO, HL, hB⟩ := hrel
    have hT := HT1.out.trans (hB.mono HT1.out.size)
    have y0 := (hB.cell (p := ⟨w.heap.size, 0, none⟩) hz1).trans u0
    have y1 := (hB.cell (p := ⟨w.heap.size, 1, none⟩) hz1).trans u1
    have y2 := (hB.cell (p := ⟨w.heap.size, 2, none⟩) hz1).trans u2
    by_cases hlt : k < s.tr.length
    · obtain ⟨bt, ot, rfl, hbt, hxt⟩ := HXT.out (by omega)
      have k3 := (hT.cell (p := ⟨bt, ot + k, none⟩) hbt).trans (hxt k hlt)
      have htv := HTA.out k hlt
      have htb := HTB.out k hk
      have hst : trS s k + s.tr.getD k 0 = trS s (k + 1) := rfl
      have hwv := wav_get (s := s) (i := k + 1) (by have := HTL.out; omega)
      obtain ⟨t, ht⟩ : ∃ t, t = s.tr.getD k 0 := ⟨_, rfl⟩
      obtain ⟨a, ha⟩ : ∃ a, a = trS s k := ⟨_, rfl⟩
      obtain ⟨b, hb⟩ : ∃ b, b = trS s (k + 1) := ⟨_, rfl⟩
      have HBB := Lib.hid hb
      rw [← ht] at k3 htv hst
      rw [← ha] at htb hst
      rw [← hb] at hst hwv
      rw [← ha]
      have hkg : k + 1 < s.gr.length := by have := HTL.out; omega
      have wr4 : IntKind.i64.wrap (a + t) = b := by rw [hst]; exact IntWalk.i64_in _ (by omega)
      have wr5 : IntKind.i64.wrap ((k : Int) + 1) = ((k + 1 : Nat) : Int) := by rw [show (k : Int) + 1 = ((k + 1 : Nat) : Int) by omega]; exact IntWalk.i64_in _ (by omega)
      have q1 : b.tmod s.cy = b % s.cy := Int.tmod_eq_emod_of_nonneg (by omega)
      have m0 : 0 ≤ b % s.cy := Int.emod_nonneg _ (by omega)
      have m1 : b % s.cy < s.cy := Int.emod_lt_of_pos _ (by omega)
      obtain ⟨m, hm⟩ : ∃ m, m = b % s.cy := ⟨_, rfl⟩
      rw [← hm] at q1 m0 m1 hwv
      have wr3 : IntKind.i64.wrap m = m := IntWalk.i64_in _ (by omega)
      have m4 : ¬ s.cy = 0 := by omega
      obtain ⟨d, hd⟩ : ∃ d, d = L.getD (k + 1) 0 := ⟨_, rfl⟩
      obtain ⟨kc, kf, hgl⟩ := ints_cell hO (F := k + 1) hkg
      rw [← hd] at kc
      have hS := hO.store (by omega) (k + 1) (.int .i64 m)
      rw [← List.map_set] at hS
      have HS := Lib.hid hS
      have HWV := Lib.hid hwv
      have hbc := hB.setCell (p := ⟨w1.heap.size, k + 1, none⟩) (Nat.le_refl _) (.int .i64 m)
      have HBC := Lib.hid hbc
      have hkl : (k : Int) < (s.tr.length : Int) := by omega
      have hkn : ((k + 1 : Nat) : Int) < (s.gr.length : Int) := by omega
      clear hst hb ht ha hm htb htv hxt hO hd hS hwv hbc hT
      go_wp2_with fail
      go_roundw
      case rel => exact ⟨k + 1, L.set (k + 1) m, by omega, by go_num, by rw [HBB.out], by simpa using hL, HS.out.1, fun j hj => by
          rw [getD_set1 _ _ _ _ (by omega)]
          by_cases h : j = k + 1
          · subst h; rw [if_pos rfl, HWV.out]
          · rw [if_neg h]; exact HL.out j (by omega), HBC.out⟩
      case measure => simp [intOf]; omega
    · have hkk : k = s.tr.length := by omega
      have hLw : L = wav s := wav_fill hL (fun j hj => HL.out j (by have := HTL.out; omega))
      subst hLw
      have HOO := Lib.hid (hO.mono HT1.out.size)
      clear hO
      go_wp2_with fail
      go_ret
      exact ⟨_, rfl, by rw [wav_len]; exact HOO.out, hT⟩
end Go.Proofs.Ytbojkhmlfflakaa
