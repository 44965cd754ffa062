/- (Street).passes, BandOf: the program's. -/
import Derived.Test.YtbojkhmlfflakaaBo5
import Derived.Deep.QuietTactic
import Derived.IntWalk
namespace Go.Proofs.Ytbojkhmlfflakaa
open Go.RowKit
set_option linter.unusedVariables false
set_option linter.unusedSimpArgs false

theorem trS_bd {s : Str} (hv : validS s = true) : ∀ i, i ≤ s.tr.length → 0 ≤ trS s i ∧ trS s i ≤ 60 * (i : Int) := by
  obtain ⟨_, _, _, _, ht⟩ := validS_iff.1 hv
  intro i
  induction i with
  | zero => intro _; simp [trS]
  | succ i ih =>
    intro hi
    have h1 := ih (by omega)
    have h2 : inR (s.tr.getD i 0) 0 60 = true := by
      unfold allB at ht
      rw [List.all_eq_true] at ht
      exact ht _ (by rw [List.getD_eq_getElem?_getD, List.getElem?_eq_getElem (by omega)]; simp)
    have h3 := inR_iff.1 h2
    simp only [trS]
    omega
theorem allB_at {xs : List Int} {a b : Int} (h : allB xs a b = true) {i : Nat} (hi : i < xs.length) : a ≤ xs.getD i 0 ∧ xs.getD i 0 ≤ b := by
  unfold allB at h
  rw [List.all_eq_true] at h
  exact inR_iff.1 (h _ (by rw [List.getD_eq_getElem?_getD, List.getElem?_eq_getElem hi]; simp))
theorem pasB_iff {s : Str} {offs : List Int} {x : Int} : pasB s offs x = true ↔ ∀ i, i < s.gr.length → pas1 s offs x i = true := by
  unfold pasB; simp [List.all_eq_true, List.mem_range]
theorem pasB_no {s : Str} {offs : List Int} {x : Int} {i : Nat} (hi : i < s.gr.length) (h : pas1 s offs x i = false) : pasB s offs x = false := by
  rw [Bool.eq_false_iff]; intro h'; rw [pasB_iff.1 h' i hi] at h; cases h

set_option maxHeartbeats 8000000 in
theorem str_passes (w : World) (lo : Nat) (v vo : Value) (s : Str) (offs : List Int) (x : Int) (hv : StrR w lo v s) (ho : Ints w lo vo offs) (hok : offOk s offs = true) (hx0 : 0 ≤ x) (hx1 : x ≤ 1000000) :
    Calls Try.prog 31 #[v, vo, .int .i64 x] w fun e w' => e = .returned (.bool (pasB s offs x)) ∧ Below w.heap.size w w' := by
  obtain ⟨vg, vt, rfl, hg, ht⟩ := hv
  obtain ⟨hval, hol, hob⟩ := offOk_iff.1 hok
  obtain ⟨hc1, hg1, htl, hga, hta⟩ := validS_iff.1 hval
  obtain ⟨ag, cg, rfl, hcg, hmg⟩ := Rd.form hg
  obtain ⟨at', ct, rfl, hct, hmt⟩ := Rd.form ht
  obtain ⟨ao, co, rfl, hco, hmo⟩ := Rd.form ho
  obtain ⟨bg, og, rfl, _, hbg, hxg⟩ := Rd.spot 0 hg (by omega)
  obtain ⟨bo, oo, rfl, _, hbo, hxo⟩ := Rd.spot 0 ho (by omega)
  have HXG : Hid (∀ i, i < s.gr.length → w.cell? ⟨bg, og + i, none⟩ = some (.int .i64 (s.gr.getD i 0))) := hxg
  have HXO : Hid (∀ i, i < offs.length → w.cell? ⟨bo, oo + i, none⟩ = some (.int .i64 (offs.getD i 0))) := hxo
  have HXT : Hid (0 < s.tr.length → ∃ bt ot, at' = some ⟨bt, ot, none⟩ ∧ bt < w.heap.size ∧ ∀ i, i < s.tr.length → w.cell? ⟨bt, ot + i, none⟩ = some (.int .i64 (s.tr.getD i 0))) := fun h => by
    obtain ⟨bt, ot, e, _, hbt, hxt⟩ := Rd.spot 0 ht h
    exact ⟨bt, ot, e, hbt, hxt⟩
  have HTB : Hid (∀ i, i ≤ s.tr.length → 0 ≤ trS s i ∧ trS s i ≤ 60 * (i : Int)) := trS_bd hval
  have HTA : Hid (∀ i, i < s.tr.length → 0 ≤ s.tr.getD i 0 ∧ s.tr.getD i 0 ≤ 60) := fun i hi => allB_at hta hi
  have HOB : Hid (∀ i, i < offs.length → 0 ≤ offs.getD i 0 ∧ offs.getD i 0 ≤ s.cy - 1) := fun i hi => hob _ (by rw [List.getD_eq_getElem?_getD, List.getElem?_eq_getElem hi]; simp)
  obtain ⟨w0, hw0, hB0, x0, x1, x2, hz0⟩ := str_box w (.int .i64 s.cy) (.slice (some ⟨bg, og, none⟩) s.gr.length cg) (.slice at' s.tr.length ct)
  have HB0 := Lib.hid hB0
  obtain ⟨c1, c30⟩ := hc1
  obtain ⟨g1, g4⟩ := hg1
  have HTL := Lib.hid htl
  have HOL := Lib.hid hol
  clear hg ht ho hB0 hxg hxo hval hok hob hga hta htl hol
  go_enter Try.func31, Try.ntmps31
  go_wp2_with fail
  rw [← hw0]
  clear hw0
  go_loopw [2, 12] (fun sec i wo => ∃ k : Nat, k ≤ s.gr.length ∧ i = .int .i64 k ∧ sec = .int .i64 (x + trS s (k - 1)) ∧ Hid (∀ j, j < k → pas1 s offs x j = true) ∧ Below w0.heap.size w0 wo) (fun sec i _ => s.gr.length - (intOf i).toNat)
  case atStart => exact ⟨0, Nat.zero_le _, rfl, by simp [trS], fun j hj => by omega, Below.refl _ _⟩
  case round =>
    obtain ⟨k, hk, rfl, rfl, HA, hB⟩ := hrel
    have hT := HB0.out.trans (hB.mono HB0.out.size)
    have u0 := (hB.cell (p := ⟨w.heap.size, 0, none⟩) hz0).trans x0
    have u1 := (hB.cell (p := ⟨w.heap.size, 1, none⟩) hz0).trans x1
    have u2 := (hB.cell (p := ⟨w.heap.size, 2, none⟩) hz0).trans x2
    by_cases hlt : k < s.gr.length
    · have k1 := (hT.cell (p := ⟨bg, og + k, none⟩) hbg).trans (HXG.out k hlt)
      have k2 := (hT.cell (p := ⟨bo, oo + k, none⟩) hbo).trans (HXO.out k (by rw [HOL.out]; exact hlt))
      have hlo : k < offs.length := by rw [HOL.out]; exact hlt
      have hob := HOB.out k (by rw [HOL.out]; exact hlt)
      have htb := HTB.out k (by have := HTL.out; omega)
      have hp1 : pas1 s offs x k = decide ((x + trS s k - offs.getD k 0 + s.cy) % s.cy < s.gr.getD k 0) := rfl
      have hno := pasB_no (s := s) (offs := offs) (x := x) hlt
      obtain ⟨o, ho⟩ : ∃ o, o = offs.getD k 0 := ⟨_, rfl⟩
      obtain ⟨g, hg⟩ : ∃ g, g = s.gr.getD k 0 := ⟨_, rfl⟩
      obtain ⟨a, ha⟩ : ∃ a, a = x + trS s k := ⟨_, rfl⟩
      rw [← ho] at k2 hob hp1
      rw [← hg] at k1 hp1
      rw [← ha] at hp1
      have ha0 : 0 ≤ a ∧ a ≤ 1000240 := by omega
      obtain ⟨a0, a1⟩ := ha0
      obtain ⟨o0, o1⟩ := hob
      have wr1 : IntKind.i64.wrap (a + s.cy) = a + s.cy := IntWalk.i64_in _ (by omega)
      have wr2 : IntKind.i64.wrap (a + s.cy - o) = a + s.cy - o := IntWalk.i64_in _ (by omega)
      have q1 : (a + s.cy - o).tmod s.cy = (a + s.cy - o) % s.cy := Int.tmod_eq_emod_of_nonneg (by omega)
      have q2 : (a - o + s.cy) % s.cy = (a + s.cy - o) % s.cy := by congr 1; omega
      rw [q2] at hp1
      have m0 : 0 ≤ (a + s.cy - o) % s.cy := Int.emod_nonneg _ (by omega)
      have m1 : (a + s.cy - o) % s.cy < s.cy := Int.emod_lt_of_pos _ (by omega)
      obtain ⟨m, hm⟩ : ∃ m, m = (a + s.cy - o) % s.cy := ⟨_, rfl⟩
      rw [← hm] at q1 hp1 m0 m1
      have wr3 : IntKind.i64.wrap m = m := IntWalk.i64_in _ (by omega)
      have m4 : ¬ s.cy = 0 := by omega
      have HAA := Lib.hid ha
      clear ho hg hm q2 htb
      by_cases hk0 : k = 0
      · subst hk0
        have ea : x + trS s (0 - 1) = a := by rw [ha]
        have ea2 : x + trS s 0 = a := by rw [ha]
        rw [ea]
        clear ha ea
        rw [Nat.add_zero] at k1 k2
        cases hpp : pas1 s offs x 0
        · have HN : Hid (pasB s offs x = false) := hno hpp
          have dg : decide (g ≤ m) = true := by rw [hpp] at hp1; simp at hp1; simpa using hp1
          clear hp1 hpp hno
          go_wp2_with fail
          go_quiet (fail)
          go_wp2_with fail
          go_ret
          exact ⟨ret_B HN, below_drewN hT _⟩
        · have HY := Lib.hid hpp
          have dg : decide (g ≤ m) = false := by rw [hpp] at hp1; simp at hp1; simpa using hp1
          clear hp1 hpp hno
          go_wp2_with fail
          go_quiet (fail)
          go_wp2_with fail
          go_roundw
          case rel => exact ⟨1, by omega, by go_num, by rw [HAA.out], fun j hj => by
            have : j = 0 := by omega
            subst this; exact HY.out, below_drewN hB _⟩
          case measure => simp [intOf]; omega
      · obtain ⟨bt, ot, rfl, hbt, hxt⟩ := HXT.out (by have := HTL.out; omega)
        have k3 := (hT.cell (p := ⟨bt, ot + (k - 1), none⟩) hbt).trans (hxt (k - 1) (by have := HTL.out; omega))
        have htv := HTA.out (k - 1) (by have := HTL.out; omega)
        have htb1 := HTB.out (k - 1) (by have := HTL.out; omega)
        have hst : trS s (k - 1) + s.tr.getD (k - 1) 0 = trS s k := by
          obtain ⟨j, rfl⟩ : ∃ j, k = j + 1 := ⟨k - 1, by omega⟩
          rfl
        obtain ⟨t, ht⟩ : ∃ t, t = s.tr.getD (k - 1) 0 := ⟨_, rfl⟩
        obtain ⟨b, hb⟩ : ∃ b, b = x + trS s (k - 1) := ⟨_, rfl⟩
        rw [← ht] at k3 htv hst
        rw [← hb]
        have hab : b + t = a := by omega
        have hk1 : (k : Int) - 1 = ((k - 1 : Nat) : Int) := by omega
        have wr4 : IntKind.i64.wrap (b + t) = a := by rw [hab]; exact IntWalk.i64_in _ (by omega)
        have wr5 : IntKind.i64.wrap ((k : Int) - 1) = ((k - 1 : Nat) : Int) := by rw [hk1]; exact IntWalk.i64_in _ (by omega)
        have dk : decide (0 < (k : Int)) = true := by simp; omega
        obtain ⟨j, hj⟩ : ∃ j, j = k - 1 := ⟨_, rfl⟩
        rw [← hj] at k3 wr5
        have hjt : j < s.tr.length := by have := HTL.out; omega
        have HK0 := Lib.hid hk0
        have hk0' : (0 : Int) < (k : Int) := by omega
        clear hst hb ht hab hk1 htb1 htv hj hk0 ha hxt
        cases hpp : pas1 s offs x k
        · have HN : Hid (pasB s offs x = false) := hno hpp
          have dg : decide (g ≤ m) = true := by rw [hpp] at hp1; simp at hp1; simpa using hp1
          clear hp1 hpp hno
          go_wp2_with fail
          go_quiet (fail)
          go_wp2_with fail
          go_ret
          exact ⟨ret_B HN, below_drewN hT _⟩
        · have HY := Lib.hid hpp
          have dg : decide (g ≤ m) = false := by rw [hpp] at hp1; simp at hp1; simpa using hp1
          clear hp1 hpp hno
          go_wp2_with fail
          go_quiet (fail)
          go_wp2_with fail
          go_roundw
          case rel => exact ⟨k + 1, by omega, by go_num, by rw [HAA.out]; rfl, fun j hj => by
            by_cases h : j = k
            · subst h; exact HY.out
            · exact HA.out j (by omega), below_drewN hB _⟩
          case measure => simp [intOf]; omega
    · have HY : Hid (pasB s offs x = true) := pasB_iff.2 fun i hi => HA.out i (by omega)
      clear HA
      go_wp2_with fail
      go_ret
      exact ⟨ret_B HY, hT⟩
end Go.Proofs.Ytbojkhmlfflakaa
