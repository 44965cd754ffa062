/- reversedInts, power, digitsOf: the reference's. -/
import Derived.Test.YtbojkhmlfflakaaBo13
namespace Go.Proofs.Ytbojkhmlfflakaa
open Go.RowKit
set_option linter.unusedVariables false
set_option linter.unusedSimpArgs false

theorem int_box (w : World) : ∃ w0, w0 = w.alloc (.cells #[] 3) ∧ Own w0 w.heap.size 3 1 (.slice (some ⟨w.heap.size, 0, none⟩) 0 0) 0 [] ∧ Below w.heap.size w w0 ∧ w.heap.size < w0.heap.size :=
  ⟨_, rfl, Own.made w [] 3 w.heap.size 1 0 rfl (Nat.le_refl _) (by decide), (Below.refl _ _).alloc (Nat.le_refl _) _, by simp⟩

set_option maxHeartbeats 4000000 in
theorem spec_reversedInts (w : World) (lo : Nat) (v : Value) (xs : List Int) (hv : Ints w lo v xs) (hn : xs.length ≤ 1000000) :
    Calls Try.prog 30 #[v] w (RevRet w xs) := by
  obtain ⟨ao, cap, rfl, hcap, hm⟩ := Rd.form hv
  have HX : Hid (0 < xs.length → ∃ b o, ao = some ⟨b, o, none⟩ ∧ b < w.heap.size ∧ ∀ i, i < xs.length → w.cell? ⟨b, o + i, none⟩ = some (.int .i64 (xs.getD i 0))) := fun h => by
    obtain ⟨b, o, e, _, hb, hx⟩ := Rd.spot 0 hv h
    exact ⟨b, o, e, hb, hx⟩
  have wr1 : IntKind.i64.wrap ((xs.length : Int) - 1) = (xs.length : Int) - 1 := IntWalk.i64_in _ (by omega)
  obtain ⟨w0, hw0, hO0, hB0, hz0⟩ := int_box w
  clear hv
  go_enter Try.func30, Try.ntmps30
  go_wp2_with fail
  rw [← hw0]
  clear hw0
  go_loopw [3, 4] (fun rv i wo => ∃ k : Nat, k ≤ xs.length ∧ i = .int .i64 ((k : Int) - 1) ∧ Own wo w.heap.size 3 1 rv (xs.length - k) ((xs.drop k).reverse.map (Value.int .i64)) ∧ Below w.heap.size w wo) (fun rv i _ => (intOf i + 1).toNat)
  case atStart => exact ⟨xs.length, Nat.le_refl _, rfl, by rw [Nat.sub_self, List.drop_length]; exact hO0, hB0⟩
  case round =>
    clear hO0 hB0
    obtain ⟨k, hk, rfl, hO, hB⟩ := hrel
    by_cases hk0 : 0 < k
    · obtain ⟨b, o, rfl, hb, hx⟩ := HX.out (by omega)
      obtain ⟨j, rfl⟩ : ∃ j, k = j + 1 := ⟨k - 1, by omega⟩
      have hj : j < xs.length := by omega
      have hcj := (hB.cell (p := ⟨b, o + j, none⟩) hb).trans (hx j hj)
      have hrd := rev_drop xs hj
      have e1 : ((j + 1 : Nat) : Int) - 1 = (j : Int) := by omega
      have wr2 : IntKind.i64.wrap ((j : Int) - 1) = (j : Int) - 1 := IntWalk.i64_in _ (by omega)
      have hsz := hB.size
      obtain ⟨y, hy⟩ : ∃ y, y = xs.getD j 0 := ⟨_, rfl⟩
      rw [← hy] at hcj hrd
      have HRD := Lib.hid hrd
      rw [e1]
      have hj0 : (0 : Int) ≤ (j : Int) := by omega
      clear hx hrd hy
      go_wp2_with (at_builtin; refine wpList_append_one _ rfl _ _ 23 rfl 3 (.int .i64 0) 8 Try.underlying23 info_int rfl w.heap.size _ _ _ rfl hO _ _ rfl rfl (by omega) (by omega) hsz ?_; intro v' w8 hO8 hg8 _)
      have hB8 := hB.trans (below_of_grownBy hg8 hsz (fun q hq => (hO.wblk hq).1))
      have hO9 : Own w8 w.heap.size 3 1 v' (xs.length - j) ((xs.drop j).reverse.map (Value.int .i64)) := by
        rw [HRD.out, show xs.length - j = xs.length - (j + 1) + 1 by omega, List.map_append]; exact hO8
      clear hO hg8 hB hO8
      go_roundw
      case rel => exact ⟨j, Nat.le_of_lt hj, rfl, hO9, hB8⟩
      case measure => simp [intOf]
    · obtain rfl : k = 0 := by omega
      go_wp2_with fail
      go_ret
      exact ⟨_, rfl, by simpa using hO, hB⟩

set_option maxHeartbeats 4000000 in
theorem spec_power (w : World) (b : Int) (c n : Nat) (hb : b = (c : Int)) (hc1 : 1 ≤ c) (hc : c ≤ 30) (hn : n ≤ 3) :
    Calls Try.prog 15 #[.int .i64 b, .int .i64 n] w fun e w' => e = .returned (.int .i64 ((c ^ n : Nat) : Int)) ∧ w = w' := by
  have HB := Lib.hid hb
  clear hb
  go_enter Try.func15, Try.ntmps15
  go_wp2_with fail
  go_loop [5, 6] (fun u i => ∃ (k : Nat) (U : Int), k ≤ n ∧ i = .int .i64 k ∧ u = .int .i64 U ∧ Hid (U = ((c ^ k : Nat) : Int))) (fun u i => n - (intOf i).toNat)
  case atStart => exact ⟨0, 1, Nat.zero_le _, rfl, rfl, by unfold Hid; simp⟩
  case round =>
    obtain ⟨k, U, hk, rfl, rfl, HU⟩ := hrel
    by_cases hlt : k < n
    · have hcap := pow_cap (c := c) (i := k + 1) (n := 3) hc1 hc (by omega) (Nat.le_refl _)
      have hU2 : U * b = ((c ^ (k + 1) : Nat) : Int) := by rw [HU.out, HB.out, pow_step, Int.natCast_mul]
      obtain ⟨U2, hU⟩ : ∃ U2 : Int, U2 = ((c ^ (k + 1) : Nat) : Int) := ⟨_, rfl⟩
      have wr1 : IntKind.i64.wrap (U * b) = U2 := by rw [hU2, ← hU]; exact IntWalk.i64_in _ (by omega)
      have HUU := Lib.hid hU
      clear hU hU2 hcap
      go_wp2_with fail
      go_round
      case rel => exact ⟨k + 1, U2, by omega, by go_num, rfl, HUU.out⟩
      case measure => simp [intOf]; omega
    · obtain rfl : k = n := by omega
      go_wp2_with fail
      go_ret
      exact ⟨by rw [HU.out]; simp, rfl⟩

set_option maxHeartbeats 8000000 in
theorem spec_digits (w : World) (b : Int) (c n x : Nat) (hb : b = (c : Int)) (hc1 : 1 ≤ c) (hc : c ≤ 30) (hn0 : 0 < n) (hn : n ≤ 3) (hx : x ≤ 900) :
    Calls Try.prog 16 #[.int .i64 x, .int .i64 b, .int .i64 n] w (RowRet w (dgs c n x)) := by
  have HB := Lib.hid hb
  have hb0 : ¬ b = 0 := by omega
  clear hb
  have wr1 : IntKind.i64.wrap ((n : Int) - 1) = (n : Int) - 1 := IntWalk.i64_in _ (by omega)
  obtain ⟨i0, hi, hz0', hz1', hz2'⟩ := info_parts (show (Try.prog.info? 3).map (fun i => (i.zero, i.size, i.bytes)) = some (some (.int .i64 0), 1, 8) by kernel_rfl)
  have hdl := dgs_len c n x
  go_enter Try.func16, Try.ntmps16
  go_wp2_with (at_make; refine wpList_make_full _ rfl _ _ 23 rfl w.heap.size 3 i0 (.int .i64 0) 1 Try.underlying23 hi hz0' hz1' .i64 .i64 n n n rfl rfl rfl rfl (by rw [hz2']; omega) (by unfold maxLen; omega) (Nat.le_refl _) ?_; intro w2 hown hg2; have hB2 := below_of_grownBy hg2 (Nat.le_refl _) (fun k hk => by cases hk))
  have hO : Own w2 w.heap.size 3 1 (.slice (some ⟨w.heap.size, 0, none⟩) n n) n ((List.replicate n (0 : Int)).map (Value.int .i64)) := by
    rw [← zeros_map]; exact .inl hown
  clear hown hg2
  go_loopw [0, 8] (fun rest i wo => ∃ (j : Nat) (A : Int), j ≤ n ∧ i = .int .i64 ((n - j : Nat) - 1 : Int) ∧ rest = .int .i64 A ∧ Hid (A = ((x / c ^ j : Nat) : Int)) ∧ Own wo w.heap.size 3 1 (.slice (some ⟨w.heap.size, 0, none⟩) n n) n ((fil (List.replicate n 0) (dgs c n x) j).map (Value.int .i64)) ∧ Below w.heap.size w wo) (fun rest i _ => (intOf i + 1).toNat)
  case atStart => exact ⟨0, (x : Int), by omega, by simp, rfl, by unfold Hid; simp, by rw [fil_zero (by rw [hdl]; simp)]; exact hO, hB2⟩
  case round =>
    clear hO hB2
    obtain ⟨j, A, hj, rfl, rfl, HA, hO, hB⟩ := hrel
    by_cases hlt : j < n
    · obtain ⟨q, hq⟩ : ∃ q, n - j = q + 1 := ⟨n - j - 1, by omega⟩
      have hA0 : 0 ≤ A ∧ A ≤ 900 := by
        have h1 := HA.out
        have h2 := Nat.div_le_self x (c ^ j)
        obtain ⟨z, hz⟩ : ∃ z, z = x / c ^ j := ⟨_, rfl⟩
        rw [← hz] at h1 h2
        omega
      have hwg := dgs_get (c := c) n x j hlt
      have hA1 : A.tmod b = (((x / c ^ j) % c : Nat) : Int) := by
        rw [Int.tmod_eq_emod_of_nonneg hA0.1, HA.out, HB.out]; rfl
      have hA2 : A.tdiv b = ((x / c ^ (j + 1) : Nat) : Int) := by
        rw [Int.tdiv_eq_ediv_of_nonneg hA0.1, HA.out, HB.out, pow_step, ← Nat.div_div_eq_div_mul]; rfl
      have hb1 : (((x / c ^ j) % c : Nat) : Int) ≤ 900 := by
        have h1 := Nat.mod_le (x / c ^ j) c
        have h2 := Nat.div_le_self x (c ^ j)
        obtain ⟨z, hz⟩ : ∃ z, z = (x / c ^ j) % c := ⟨_, rfl⟩
        rw [← hz] at h1 ⊢
        have h3 := Nat.le_trans h1 h2
        omega
      have hb2 : ((x / c ^ (j + 1) : Nat) : Int) ≤ 900 := by
        have h2 := Nat.div_le_self x (c ^ (j + 1))
        obtain ⟨z, hz⟩ : ∃ z, z = x / c ^ (j + 1) := ⟨_, rfl⟩
        rw [← hz] at h2 ⊢
        omega
      have hfs := fil_set (L := List.replicate n 0) (T := dgs c n x) (by rw [hdl]; simp) (k := j) (by omega) (x := (((x / c ^ j) % c : Nat) : Int)) (by rw [hdl]; exact hwg.symm)
      obtain ⟨m, hm⟩ : ∃ m : Int, m = (((x / c ^ j) % c : Nat) : Int) := ⟨_, rfl⟩
      obtain ⟨A2, hA2e⟩ : ∃ A2 : Int, A2 = ((x / c ^ (j + 1) : Nat) : Int) := ⟨_, rfl⟩
      have HA2 := Lib.hid hA2e
      rw [← hm] at hA1 hb1 hfs
      rw [← hA2e] at hA2 hb2
      have hqe : (dgs c n x).length - 1 - j = q := by omega
      rw [hqe] at hfs
      have hm0 : 0 ≤ m := by rw [hm]; exact Int.natCast_nonneg _
      have hA20 : 0 ≤ A2 := by rw [hA2e]; exact Int.natCast_nonneg _
      have wr2 : IntKind.i64.wrap m = m := IntWalk.i64_in _ (by omega)
      have wr3 : IntKind.i64.wrap A2 = A2 := IntWalk.i64_in _ (by omega)
      have eq1 : ((n - j : Nat) - 1 : Int) = (q : Int) := by omega
      have wr4 : IntKind.i64.wrap ((q : Int) - 1) = (q : Int) - 1 := IntWalk.i64_in _ (by omega)
      obtain ⟨kc, kf, hgl⟩ := ints_cell hO (F := q) (by omega)
      obtain ⟨d, hd⟩ : ∃ d, d = (fil (List.replicate n 0) (dgs c n x) j).getD q 0 := ⟨_, rfl⟩
      rw [← hd] at kc
      have hS1 := hO.store (by omega) q (.int .i64 m)
      rw [← List.map_set, hfs] at hS1
      have HO1 := Lib.hid hS1.1
      have HBC : Hid (Below w.heap.size w (wr.setCell ⟨w.heap.size, q, none⟩ (.int .i64 m))) := hB.setCell (Nat.le_refl _) _
      have hqi : (0 : Int) ≤ (q : Int) := by omega
      have hqn : (q : Int) < (n : Int) := by omega
      have HQ : Hid ((q : Int) - 1 = ((n - (j + 1) : Nat) - 1 : Int)) := by unfold Hid; omega
      rw [eq1]
      clear hm hA2e hfs hd hO hS1 hwg HA hA0 hb1 hb2 eq1 hq hqe
      go_wp2_with fail
      go_roundw
      case rel => exact ⟨j + 1, A2, by omega, by rw [HQ.out], rfl, HA2.out, HO1.out, HBC.out⟩
      case measure => (simp only [intOf]; omega)
    · obtain rfl : j = n := by omega
      rw [fil_all (by omega)] at hO
      have HO := Lib.hid hO
      have HDL := Lib.hid hdl
      rw [show ((j - j : Nat) - 1 : Int) = -1 by omega]
      clear hO hdl HA
      go_wp2_with fail
      go_ret
      exact ⟨_, rfl, by rw [HDL.out]; exact HO.out, hB⟩
end Go.Proofs.Ytbojkhmlfflakaa
