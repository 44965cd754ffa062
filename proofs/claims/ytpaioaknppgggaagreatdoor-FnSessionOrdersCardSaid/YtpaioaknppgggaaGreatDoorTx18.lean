/- parseInt: the reference's. -/
import Derived.Test.YtpaioaknppgggaaGreatDoorTx17
namespace Go.Proofs.YtpaioaknppgggaaGreatDoor
open Go.RowKit
set_option linter.unusedVariables false
set_option linter.unusedSimpArgs false

theorem bytes_eq (a b : List UInt8) : ((⟨a.toArray⟩ : ByteArray) = ⟨b.toArray⟩) ↔ a = b := by
  constructor
  · intro h; have h1 := congrArg ByteArray.data h; simpa using h1
  · intro h; rw [h]

theorem ba_loop (S : ByteArray) : ∀ (k i : Nat) (r : List UInt8), S.size - i = k → ByteArray.toList.loop S i r = r.reverse ++ S.data.toList.drop i := by
  intro k
  induction k with
  | zero =>
    intro i r h
    rw [ByteArray.toList.loop, if_neg (by omega), List.drop_eq_nil_of_le (by rw [Array.length_toList]; exact Nat.le_of_sub_eq_zero h)]
    simp
  | succ k ih =>
    intro i r h
    have hi : i < S.size := by omega
    rw [ByteArray.toList.loop, if_pos hi, ih (i + 1) _ (by omega)]
    have hl : i < S.data.toList.length := by rw [Array.length_toList]; exact hi
    rw [List.drop_eq_getElem_cons hl, List.reverse_cons, List.append_assoc]
    congr 1
    simp only [List.singleton_append, List.cons.injEq, and_true]
    have hi2 : i < S.data.size := hi
    simp [ByteArray.get!, hi2]
    exact getElem!_pos S.data i hi2
theorem ba_toList (S : ByteArray) : S.toList = S.data.toList := by
  unfold ByteArray.toList; rw [ba_loop S _ 0 [] rfl]; simp
theorem ba_beq {A B : ByteArray} : (A.toList == B.toList) = true ↔ A = B := by
  rw [beq_iff_eq, ba_toList, ba_toList, Array.toList_inj]
  constructor
  · intro h; exact ByteArray.ext h
  · intro h; rw [h]
theorem ba_bne {A B : ByteArray} (h : A ≠ B) : (A.toList == B.toList) = false := by
  rw [Bool.eq_false_iff]; intro e; exact h (ba_beq.1 e)

set_option maxHeartbeats 8000000 in
theorem spec_parseInt (w : World) (S : ByteArray) (l : List UInt8) (hS : Str8 S l) (hl63 : l.length ≤ 1000000000) :
    Calls Tryz.prog 40 #[.string S] w fun e w' => e = .returned (.int .i64 (psn l)) ∧ Below w.heap.size w w' := by
  have hsz : (S.size : Int) = (l.length : Int) := by rw [hS.size]
  have HS := Lib.hid hS
  by_cases hln : ¬ (1 ≤ l.length ∧ l.length ≤ 3)
  · have HN : Hid (psn l = -1) := by
      unfold Hid psn
      rw [if_neg]
      rintro ⟨h1, h3, _⟩
      exact hln ⟨h1, h3⟩
    clear hS
    have HC : Hid (((l.length : Int) == 0) = true ∨ (((l.length : Int) == 0) = false ∧ (3 : Int) < (l.length : Int))) := by
      unfold Hid
      by_cases h : l.length = 0
      · left; rw [h]; rfl
      · right; exact ⟨beq_eq_false_iff_ne.mpr (by omega), by omega⟩
    clear hln
    rcases HC.out with d1 | ⟨d1, d2⟩
    all_goals
      go_enter Tryz.func40, Tryz.ntmps40
      go_wp2_with fail
      go_ret
      exact ⟨by rw [HN.out]; rfl, Below.refl _ _⟩
  obtain ⟨h1, h3⟩ : 1 ≤ l.length ∧ l.length ≤ 3 := by omega
  have d1 : ((l.length : Int) == 0) = false := beq_eq_false_iff_ne.mpr (by omega)
  have d2 : ¬ (3 : Int) < (l.length : Int) := by omega
  clear hS hln
  go_enter Tryz.func40, Tryz.ntmps40
  go_wp2_with fail
  go_loop [3, 4] (fun m i => ∃ k n : Nat, k ≤ l.length ∧ i = .int .i64 k ∧ m = .int .i64 n ∧ Hid (n = numV (l.take k) ∧ (l.take k).all isDg = true)) (fun m i => l.length - (intOf i).toNat)
  case atStart => exact ⟨0, 0, Nat.zero_le _, rfl, rfl, by simp [numV], by simp⟩
  case round =>
    clear d1 d2
    obtain ⟨k, n, hk, rfl, rfl, HA⟩ := hrel
    by_cases hlt : k < l.length
    · have kx := fun W => idx_at HS.out hlt W
      have hts := take_snoc1 l hlt
      have hmem : l.getD k 0 ∈ l := by rw [List.getD_eq_getElem?_getD, List.getElem?_eq_getElem hlt]; simp
      obtain ⟨b, hb⟩ : ∃ b, b = l.getD k 0 := ⟨_, rfl⟩
      rw [← hb] at kx hts hmem
      have hn := numV_lt _ HA.out.2
      rw [← HA.out.1, List.length_take, Nat.min_eq_left hk] at hn
      have hn2 : n < 100 := by
        have : 10 ^ k ≤ 10 ^ 2 := Nat.pow_le_pow_right (by omega) (by omega)
        omega
      have hbl : b.toNat < 256 := b.toNat_lt
      obtain ⟨bn, hbn⟩ : ∃ bn, bn = b.toNat := ⟨_, rfl⟩
      rw [← hbn] at kx hbl
      have hkl : (k : Int) < (l.length : Int) := by omega
      have HTS := Lib.hid hts
      have HBN := Lib.hid hbn
      have HMEM := Lib.hid hmem
      have wr0 : IntKind.i64.wrap (bn : Int) = (bn : Int) := IntWalk.i64_in _ (by omega)
      clear hb hts hn hbn hmem
      cases hin : inR (bn : Int) 48 57
      · have HN : Hid (psn l = -1) := by
          unfold Hid psn
          rw [if_neg]
          rintro ⟨_, _, h4, _⟩
          rw [List.all_eq_true] at h4
          have := isDg_iff.1 (h4 b HMEM.out)
          rw [← HBN.out] at this
          rw [inR_iff.2 ⟨by omega, by omega⟩] at hin; cases hin
        go_wp2_with (go_at_call 61; refine (inR_d _ 48 57 false _ hin).mono ?_; rintro e w4 ⟨rfl, rfl⟩; clear hin)
        go_ret
        exact ⟨by rw [HN.out]; rfl, Below.refl _ _⟩
      · have hdg : isDg b = true := isDg_iff.2 (by have := inR_iff.1 hin; rw [← HBN.out]; omega)
        obtain ⟨g48, g57⟩ := inR_iff.1 hin
        have wr1 : IntKind.i64.wrap (10 * (n : Int)) = 10 * (n : Int) := IntWalk.i64_in _ (by omega)
        have wr2 : IntKind.i64.wrap (10 * (n : Int) + (bn : Int)) = 10 * (n : Int) + (bn : Int) := IntWalk.i64_in _ (by omega)
        have wr3 : IntKind.i64.wrap (10 * (n : Int) + (bn : Int) - 48) = ((10 * n + (bn - 48) : Nat) : Int) := by rw [show 10 * (n : Int) + (bn : Int) - 48 = ((10 * n + (bn - 48) : Nat) : Int) by omega]; exact IntWalk.i64_in _ (by omega)
        have HY : Hid (10 * n + (bn - 48) = numV (l.take (k + 1)) ∧ (l.take (k + 1)).all isDg = true) := by
          unfold Hid
          rw [HTS.out, numV_snoc, ← HA.out.1, ← HBN.out, List.all_append, HA.out.2]
          exact ⟨rfl, by simp [hdg]⟩
        obtain ⟨q, hq⟩ : ∃ q, q = 10 * n + (bn - 48) := ⟨_, rfl⟩
        rw [← hq] at HY wr3
        clear hdg hq g48 g57
        go_wp2_with (go_at_call 61; refine (inR_d _ 48 57 true _ hin).mono ?_; rintro e w4 ⟨rfl, rfl⟩; clear hin)
        go_round
        case rel => exact ⟨k + 1, q, by omega, by go_num, rfl, HY⟩
        case measure => (simp only [intOf]; omega)
    · have hkl : k = l.length := by omega
      have h9 := HA.out
      rw [hkl, List.take_length] at h9
      have hn := numV_lt _ h9.2
      have hn2 : n < 1000 := by
        have : 10 ^ l.length ≤ 10 ^ 3 := Nat.pow_le_pow_right (by omega) (by omega)
        omega
      obtain ⟨D, hD⟩ : ∃ D : ByteArray, D = ⟨(Lib.decDigits n).toArray⟩ := ⟨_, rfl⟩
      have HPS : Hid (psn l = if D = S then (n : Int) else -1) := by
        unfold Hid psn
        have hs := HS.out
        unfold Str8 at hs
        rw [hD, hs]
        by_cases e : Lib.decDigits n = l
        · rw [if_pos ⟨h1, h3, h9.2, by rw [← h9.1]; exact e⟩, if_pos (by rw [e]), h9.1]
        · rw [if_neg (fun x => e (by rw [h9.1]; exact x.2.2.2)), if_neg (fun x => e ((bytes_eq _ _).1 x))]
      have HD := Lib.hid hD
      have HLE : Hid (n ≤ 1000000) := by unfold Hid; omega
      clear hkl HA h9 hn hn2 hD
      by_cases hds : D = S
      · rw [if_pos hds] at HPS
        have db : (D.toList == S.toList) = true := ba_beq.2 hds
        go_wp2_with (go_at_call 45; refine (spec_formatInt n _ HLE.out).mono ?_; rintro e w4 ⟨rfl, hB4⟩; rw [← HD.out])
        go_ret
        exact ⟨by rw [HPS.out]; rfl, hB4⟩
      · rw [if_neg hds] at HPS
        have db : (D.toList == S.toList) = false := ba_bne hds
        go_wp2_with (go_at_call 45; refine (spec_formatInt n _ HLE.out).mono ?_; rintro e w4 ⟨rfl, hB4⟩; rw [← HD.out])
        go_ret
        exact ⟨by rw [HPS.out]; rfl, hB4⟩
end Go.Proofs.YtpaioaknppgggaaGreatDoor
