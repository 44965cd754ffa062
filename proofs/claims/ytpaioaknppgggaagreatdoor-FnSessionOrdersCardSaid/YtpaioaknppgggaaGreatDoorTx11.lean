/- parseNumber: the program's. -/
import Derived.Test.YtpaioaknppgggaaGreatDoorTx10
import Derived.Test.YtpaioaknppgggaaGreatDoorTx8
namespace Go.Proofs.YtpaioaknppgggaaGreatDoor
open Go.RowKit
set_option linter.unusedVariables false
set_option linter.unusedSimpArgs false

theorem str8_self (S : ByteArray) : Str8 S S.data.toList := by unfold Str8; simp
theorem idx_at {S : ByteArray} {l : List UInt8} (h : Str8 S l) {i : Nat} (hi : i < l.length) (W : World) :
    (Instr.index 9 (.string S) (.int .i64 (i : Int))).run Tryz.prog W = .ok (.int .u8 ((l.getD i 0).toNat : Int)) W := by
  subst h
  rw [run_index_string W 9 _ .i64 (i : Int) Tryz.underlying9, dif_pos ⟨by omega, by rw [ba_size]; omega⟩]
  congr 4
  simp [hi]
  rfl
theorem str_ext {S : ByteArray} {l : List UInt8} (h : Str8 S l) (a b : Nat) : Str8 (S.extract a b) ((l.take b).drop a) := by
  subst h
  unfold Str8
  apply ByteArray.ext
  simp [ByteArray.data_extract, List.drop_take]
theorem sl_to {S : ByteArray} {l : List UInt8} (h : Str8 S l) {n : Nat} (hn : n ≤ l.length) : ∃ A, Hid (Str8 A (l.take n)) ∧ ∀ W, (Instr.slice 9 (.string S) none (some (.int .i64 (n : Int))) none).run Tryz.prog W = .ok (.string A) W := by
  refine ⟨S.extract 0 n, ?_, fun W => ?_⟩
  · unfold Hid; have := str_ext h 0 n; simpa using this
  · rw [run_slice_string_to_if W 9 S .i64 (n : Int) Tryz.underlying9, if_pos ⟨by omega, by rw [h.size]; omega⟩]; simp
theorem sl_from {S : ByteArray} {l : List UInt8} (h : Str8 S l) {n : Nat} (hn : n ≤ l.length) : ∃ A, Hid (Str8 A (l.drop n)) ∧ ∀ W, (Instr.slice 9 (.string S) (some (.int .i64 (n : Int))) none none).run Tryz.prog W = .ok (.string A) W := by
  refine ⟨S.extract n S.size, ?_, fun W => ?_⟩
  · have := str_ext h n S.size; rw [h.size, List.take_length] at this; rw [h.size]; exact this
  · rw [run_slice_string_from_if W 9 S .i64 (n : Int) Tryz.underlying9, if_pos ⟨by omega, by rw [h.size]; omega⟩]; simp

theorem numV_lt : ∀ (l : List UInt8), l.all isDg = true → numV l < 10 ^ l.length := by
  have key : ∀ n (l : List UInt8), l.length = n → l.all isDg = true → numV l < 10 ^ n := by
    intro n
    induction n with
    | zero => intro l hl _; rw [List.eq_nil_of_length_eq_zero hl]; simp [numV]
    | succ n ih0 =>
    intro l hl h
    obtain ⟨l', b, rfl⟩ : ∃ l' b, l = l' ++ [b] := by
      rcases List.eq_nil_or_concat l with e | ⟨l', b, e⟩
      · rw [e] at hl; simp at hl
      · exact ⟨l', b, by simpa using e⟩
    have ih := ih0 l' (by simpa using hl)
    rw [List.all_append, Bool.and_eq_true] at h
    have h1 := ih h.1
    have h2 : isDg b = true := by simpa using h.2
    have := isDg_iff.1 h2
    rw [numV_snoc, Nat.pow_succ]
    omega
  exact fun l h => key _ l rfl h
theorem take_snoc1 (l : List UInt8) {k : Nat} (hk : k < l.length) : l.take (k + 1) = l.take k ++ [l.getD k 0] := by
  rw [List.take_succ_eq_append_getElem hk, List.getD_eq_getElem?_getD, List.getElem?_eq_getElem hk]; rfl

set_option maxHeartbeats 8000000 in
theorem impl_parseNumber (w : World) (S : ByteArray) (l : List UInt8) (hS : Str8 S l) (hl63 : l.length ≤ 9223372036854775807) :
    Calls Tryz.prog 38 #[.string S] w fun e w' => e = .returned (.int .i64 (pn l)) ∧ w = w' := by
  have hsz : (S.size : Int) = (l.length : Int) := by rw [hS.size]
  have HS := Lib.hid hS
  cases hln : inR l.length 1 3
  · have HN : Hid (pn l = -1) := by
      unfold Hid pn
      rw [if_neg]
      rintro ⟨h1, h3, _⟩
      rw [Bool.eq_false_iff] at hln
      exact hln (inR_iff.2 ⟨by omega, by omega⟩)
    clear hS
    go_enter Tryz.func38, Tryz.ntmps38
    go_wp2_with (go_at_call 50; refine (wit_d (l.length : Int) 1 3 false _ hln).mono ?_; rintro e w2 ⟨rfl, rfl⟩; clear hln)
    go_ret
    exact ⟨by rw [HN.out]; rfl, rfl⟩
  obtain ⟨h1, h3⟩ := inR_iff.1 hln
  have k0 := fun W => idx_at HS.out (i := 0) (by omega) W
  have HB0 : Hid (l.getD 0 0 = 48 ↔ ((l.getD 0 0).toNat : Int) = 48) := by
    unfold Hid
    constructor
    · intro e; rw [e]; rfl
    · intro e; exact UInt8.toNat_inj.1 (by rw [show (48 : UInt8).toNat = 48 from rfl]; omega)
  obtain ⟨b0, hb0⟩ : ∃ b : Int, b = ((l.getD 0 0).toNat : Int) := ⟨_, rfl⟩
  rw [← hb0] at k0 HB0
  rw [show ((0 : Nat) : Int) = 0 from rfl] at k0
  by_cases hz : b0 = 48 ∧ 1 < l.length
  · obtain ⟨z1, z2⟩ := hz
    have HN : Hid (pn l = -1) := by
      unfold Hid pn
      rw [if_neg]
      rintro ⟨_, _, h, _⟩
      exact h ⟨HB0.out.2 z1, z2⟩
    have d1 : (b0 == 48) = true := by rw [z1]; rfl
    have d2 : decide ((1 : Int) < (l.length : Int)) = true := decide_eq_true (by omega)
    have d2b : (1 : Int) < (l.length : Int) := by omega
    clear hS z1 z2 hb0
    go_enter Tryz.func38, Tryz.ntmps38
    go_wp2_with (go_at_call 50; refine (wit_d (l.length : Int) 1 3 true _ hln).mono ?_; rintro e w2 ⟨rfl, rfl⟩; clear hln)
    go_ret
    exact ⟨by rw [HN.out]; rfl, rfl⟩
  have HZ : Hid (¬ (l.getD 0 0 = 48 ∧ 1 < l.length)) := fun h => hz ⟨HB0.out.1 h.1, h.2⟩
  have HDC : Hid ((b0 == 48) = false ∨ ((b0 == 48) = true ∧ ¬ (1 : Int) < (l.length : Int))) := by
    unfold Hid
    by_cases e : b0 = 48
    · right; exact ⟨by rw [e]; rfl, fun h => hz ⟨e, by omega⟩⟩
    · left; exact beq_eq_false_iff_ne.mpr e
  clear hS hb0 hz
  have key : ∀ (d : (b0 == 48) = false ∨ ((b0 == 48) = true ∧ ¬ (1 : Int) < (l.length : Int))), True := fun _ => trivial
  clear key
  rcases HDC.out with d1 | ⟨d1, d2⟩
  all_goals
    go_enter Tryz.func38, Tryz.ntmps38
    go_wp2_with (go_at_call 50; refine (wit_d (l.length : Int) 1 3 true _ hln).mono ?_; rintro e w2 ⟨rfl, rfl⟩; clear hln)
    go_loop [3, 21] (fun m i => ∃ k n : Nat, k ≤ l.length ∧ i = .int .i64 k ∧ m = .int .i64 n ∧ Hid (n = numV (l.take k) ∧ (l.take k).all isDg = true)) (fun m i => l.length - (intOf i).toNat)
    case atStart => exact ⟨0, 0, Nat.zero_le _, rfl, rfl, by simp [numV], by simp⟩
    case round =>
      clear d1 k0
      obtain ⟨k, n, hk, rfl, rfl, HA⟩ := hrel
      by_cases hlt : k < l.length
      · have kx := fun W => idx_at HS.out hlt W
        have hts := take_snoc1 l hlt
        have hmem : l.getD k 0 ∈ l := by rw [List.getD_eq_getElem?_getD, List.getElem?_eq_getElem hlt]; simp
        obtain ⟨b, hb⟩ : ∃ b, b = l.getD k 0 := ⟨_, rfl⟩
        rw [← hb] at kx hts hmem
        have hn := numV_lt _ HA.out.2
        rw [← HA.out.1, List.length_take, Nat.min_eq_left hk] at hn
        have hn2 : n < 100 := by
          have : 10 ^ k ≤ 10 ^ 2 := Nat.pow_le_pow_right (by omega) (by omega)
          omega
        have hbl : b.toNat < 256 := b.toNat_lt
        obtain ⟨bn, hbn⟩ : ∃ bn, bn = b.toNat := ⟨_, rfl⟩
        rw [← hbn] at kx hbl
        have hkl : (k : Int) < (l.length : Int) := by omega
        have HTS := Lib.hid hts
        have HBN := Lib.hid hbn
        have HMEM := Lib.hid hmem
        clear hb hts hn hbn hmem
        have noN : isDg b = false → Hid (pn l = -1) := fun h => by
          unfold Hid pn
          rw [if_neg]
          rintro ⟨_, _, _, h4⟩
          rw [List.all_eq_true] at h4
          rw [h4 b HMEM.out] at h; cases h
        by_cases hlo : bn < 48
        · have HN := noN (by simp [isDg, ← HBN.out]; omega)
          have dl : decide ((bn : Int) < 48) = true := decide_eq_true (by omega)
          have dl2 : (bn : Int) < 48 := by omega
          clear noN
          go_wp2_with fail
          go_ret
          exact ⟨by rw [HN.out]; rfl, rfl⟩
        · have dl : decide ((bn : Int) < 48) = false := decide_eq_false (by omega)
          have dl2 : ¬ (bn : Int) < 48 := by omega
          by_cases hhi : 57 < bn
          · have HN := noN (by simp [isDg, ← HBN.out]; omega)
            have dh : decide ((57 : Int) < (bn : Int)) = true := decide_eq_true (by omega)
            have dh2 : (57 : Int) < (bn : Int) := by omega
            clear noN
            go_wp2_with fail
            go_ret
            exact ⟨by rw [HN.out]; rfl, rfl⟩
          · have dh : decide ((57 : Int) < (bn : Int)) = false := decide_eq_false (by omega)
            have dh2 : ¬ (57 : Int) < (bn : Int) := by omega
            have hdg : isDg b = true := isDg_iff.2 (by rw [← HBN.out]; omega)
            obtain ⟨d, hd⟩ : ∃ d, d = bn - 48 := ⟨_, rfl⟩
            have wr1 : IntKind.u8.wrap ((bn : Int) - 48) = (d : Int) := by rw [show (bn : Int) - 48 = (d : Int) by omega]; exact IntWalk.u8_in _ (by omega)
            have wr2 : IntKind.i64.wrap (d : Int) = (d : Int) := IntWalk.i64_in _ (by omega)
            have wr3 : IntKind.i64.wrap (10 * (n : Int)) = 10 * (n : Int) := IntWalk.i64_in _ (by omega)
            have wr4 : IntKind.i64.wrap (10 * (n : Int) + (d : Int)) = ((10 * n + d : Nat) : Int) := by rw [show 10 * (n : Int) + (d : Int) = ((10 * n + d : Nat) : Int) by omega]; exact IntWalk.i64_in _ (by omega)
            have HY : Hid (10 * n + d = numV (l.take (k + 1)) ∧ (l.take (k + 1)).all isDg = true) := by
              unfold Hid
              rw [HTS.out, numV_snoc, ← HA.out.1, ← HBN.out, List.all_append, HA.out.2]
              exact ⟨by rw [hd], by simp [hdg]⟩
            obtain ⟨q, hq⟩ : ∃ q, q = 10 * n + d := ⟨_, rfl⟩
            rw [← hq] at HY wr4
            clear noN hdg hd hq
            go_wp2_with fail
            go_round
            case rel => exact ⟨k + 1, q, by omega, by go_num, rfl, HY⟩
            case measure => (simp only [intOf]; omega)
      · have hkl : k = l.length := by omega
        have HN : Hid (pn l = (n : Int)) := by
          have h9 := HA.out
          rw [hkl, List.take_length] at h9
          unfold Hid pn
          rw [if_pos ⟨by omega, by omega, HZ.out, h9.2⟩, h9.1]
        clear hkl HA
        go_wp2_with fail
        go_ret
        exact ⟨by rw [HN.out]; rfl, rfl⟩
end Go.Proofs.YtpaioaknppgggaaGreatDoor
