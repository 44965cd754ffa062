/- formatInt: the reference's. -/
import Derived.Test.YtpaioaknppgggaaGreatDoorTx3
import Derived.Lib.ItoaNum
import Derived.Laws.IdiomStrings
import Derived.Deep.RegionHeld3
namespace Go.Proofs.YtpaioaknppgggaaGreatDoor
open Go.RowKit
set_option linter.unusedVariables false
set_option linter.unusedSimpArgs false

theorem conv1 (W : World) (g m : Nat) (hm : m < 256) (h : W.cell? ⟨g, 0, none⟩ = some (.int .u8 (m : Int))) :
    (convert 22 9 (.slice (some ⟨g, 0, none⟩) 1 1)).run Tryz.prog W = .ok (.string ⟨#[UInt8.ofNat m]⟩) W := by
  refine run_convert_bytes_back W _ _ 5 ⟨g, 0, none⟩ 1 [UInt8.ofNat m] Tryz.underlying22 Tryz.underlying5 Tryz.underlying9 ?_
  intro j hj
  have : j = 0 := by simp at hj; omega
  subst this
  have e1 : (UInt8.ofNat m).toNat = m := by simp [UInt8.toNat_ofNat', Nat.mod_eq_of_lt hm]
  simp only [List.getElem_cons_zero, e1]
  exact h

theorem undrew {V W : World} (h : Below V.drew.heap.size V.drew W) : Below V.heap.size V W := ⟨h.os, h.tape, h.output, h.size, h.block⟩
theorem unlaid {V W : World} {o : Obj} (h : Below (V.alloc o).heap.size (V.alloc o) W) : Below V.heap.size V W :=
  ((Below.refl _ _).alloc (Nat.le_refl _) _).trans (h.mono (by simp))
theorem cell_one (W : World) (v : Value) (t : TypeId) : (W.alloc (.cells #[v] t)).cell? ⟨W.heap.size, 0, none⟩ = some v := by
  rw [cell_of_row _ W.heap.size 0 #[v] t (0, 0) (heap_alloc_new W _)]; simp
theorem ba_size (l : List UInt8) : (⟨l.toArray⟩ : ByteArray).size = l.length := by simp [ByteArray.size]
theorem ba_app (a b : List UInt8) : (⟨a.toArray⟩ : ByteArray) ++ ⟨b.toArray⟩ = ⟨(a ++ b).toArray⟩ := by
  apply ByteArray.ext
  simp [ByteArray.data_append]
theorem dec_len (n : Nat) (h : n ≤ 1000000) : (Lib.decDigits n).length ≤ 7 := by
  rw [Lib.decDigits_eq]
  simp only [List.length_map, List.length_range]
  by_cases h0 : n < 10 ^ 7
  · rcases Nat.lt_or_ge 7 (Lib.nDigits n) with h1 | h1
    · exfalso
      have key : ∀ k u, 10 ^ k ≤ u ∨ Lib.nDigits u ≤ k ∨ k = 0 := by
        intro k
        induction k with
        | zero => intro u; exact .inr (.inr rfl)
        | succ k ih =>
          intro u
          by_cases hu : u < 10
          · right; left; rw [Lib.nDigits_small hu]; omega
          · rw [Lib.nDigits_big hu, Nat.pow_succ]
            rcases ih (u / 10) with h | h | h
            · left; omega
            · right; left; omega
            · subst h; left; simp; omega
      rcases key 7 n with h2 | h2 | h2 <;> omega
    · exact h1
  · omega

set_option maxRecDepth 100000 in
set_option maxHeartbeats 4000000 in
theorem spec_formatInt (n : Nat) (w : World) (hn : n ≤ 1000000) :
    Calls Tryz.prog 45 #[.int .i64 n] w fun e w' => e = .returned (.string ⟨(Lib.decDigits n).toArray⟩) ∧ Below w.heap.size w w' := by
  induction n using Nat.strongRecOn generalizing w with
  | _ n ih =>
    by_cases h : n < 10
    · have hd : Lib.decDigits n = [UInt8.ofNat (48 + n)] := by rw [Lib.decDigits, dif_pos h]
      have wr1 : IntKind.i64.wrap ((48 : Int) + (n : Int)) = ((48 + n : Nat) : Int) := by rw [show (48 : Int) + (n : Int) = ((48 + n : Nat) : Int) by omega]; exact IntWalk.i64_in _ (by omega)
      obtain ⟨m, hm⟩ : ∃ m, m = 48 + n := ⟨_, rfl⟩
      rw [← hm] at wr1 hd
      have HD := Lib.hid hd
      have wr2 : IntKind.u8.wrap (m : Int) = (m : Int) := IntWalk.u8_in _ (by omega)
      have hc := fun W g => conv1 W g m (by omega)
      clear hd hm ih
      go_enter Tryz.func45, Tryz.ntmps45
      go_wp2_with fail
      go_ret
      exact ⟨by rw [HD.out]; rfl, (Below.refl _ _).alloc (Nat.le_refl _) _⟩
    · have hd : Lib.decDigits n = Lib.decDigits (n / 10) ++ [UInt8.ofNat (48 + n % 10)] := by rw [Lib.decDigits, dif_neg h]
      have hlt : n / 10 < n := by omega
      have q1 : (n : Int).tdiv 10 = ((n / 10 : Nat) : Int) := rfl
      have q2 : (n : Int).tmod 10 = ((n % 10 : Nat) : Int) := rfl
      obtain ⟨r, hr⟩ : ∃ r, r = n % 10 := ⟨_, rfl⟩
      obtain ⟨q, hq⟩ : ∃ q, q = n / 10 := ⟨_, rfl⟩
      have hr10 : r < 10 := by omega
      rw [← hr] at q2 hd
      rw [← hq] at q1 hd hlt
      have wq : IntKind.i64.wrap (q : Int) = (q : Int) := IntWalk.i64_in _ (by omega)
      have wr : IntKind.i64.wrap (r : Int) = (r : Int) := IntWalk.i64_in _ (by omega)
      have wr1 : IntKind.i64.wrap ((48 : Int) + (r : Int)) = ((48 + r : Nat) : Int) := by rw [show (48 : Int) + (r : Int) = ((48 + r : Nat) : Int) by omega]; exact IntWalk.i64_in _ (by omega)
      obtain ⟨m, hm⟩ : ∃ m, m = 48 + r := ⟨_, rfl⟩
      rw [← hm] at wr1 hd
      have HD := Lib.hid hd
      have wr2 : IntKind.u8.wrap (m : Int) = (m : Int) := IntWalk.u8_in _ (by omega)
      obtain ⟨A, hA⟩ : ∃ A : ByteArray, A = ⟨(Lib.decDigits q).toArray⟩ := ⟨_, rfl⟩
      obtain ⟨B, hB⟩ : ∃ B : ByteArray, B = ⟨#[UInt8.ofNat m]⟩ := ⟨_, rfl⟩
      have hc := fun W g => conv1 W g m (by omega)
      rw [← hB] at hc
      have hni : ¬ (n : Int) < 10 := by omega
      have hqn : q ≤ 1000000 := by omega
      have hsz : A.size + B.size ≤ 9223372036854775807 := by
        have h1 := dec_len q hqn
        rw [hA, hB, ba_size]
        have : (⟨#[UInt8.ofNat m]⟩ : ByteArray).size = 1 := rfl
        omega
      have kadd := fun W : World => run_string_add_sum (P := Tryz.prog) W A B hsz
      obtain ⟨C, hC⟩ : ∃ C, A ++ B = C := ⟨_, rfl⟩
      rw [hC] at kadd
      have HE : Hid ((⟨(Lib.decDigits n).toArray⟩ : ByteArray) = C) := by
        unfold Hid; rw [HD.out, ← hC, hA, hB]; exact (ba_app _ [UInt8.ofNat m]).symm
      have HA := Lib.hid hA
      clear hd hm hq hr hA hB hC hsz
      go_enter Tryz.func45, Tryz.ntmps45
      go_wp2_with fail
      go_region_with ((go_at_call 45; refine (ih q hlt _ hqn).mono ?_; rintro e wx ⟨rfl, hBx⟩; rw [← HA.out]; (first | (have hcx : wx.cell? ⟨w.heap.size, 0, none⟩ = some (.int .u8 (m : Int)) := (hBx.cell (p := ⟨w.heap.size, 0, none⟩) (by simp)).trans (cell_one w _ _)) | skip)))
      all_goals go_wp2_with fail
      all_goals go_ret
      all_goals rw [HE.out]
      all_goals refine ⟨rfl, ?_⟩
      all_goals first
        | exact unlaid (undrew hBx)
        | exact Below.alloc (undrew hBx) (undrew hBx).size _
end Go.Proofs.YtpaioaknppgggaaGreatDoor
