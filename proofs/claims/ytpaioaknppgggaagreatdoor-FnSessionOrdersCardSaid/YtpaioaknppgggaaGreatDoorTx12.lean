/- strings.Cut at a colon. -/
import Derived.Test.YtpaioaknppgggaaGreatDoorTx11
import Derived.Test.YtpaioaknppgggaaGreatDoorShelfB
import Derived.Deep.QuietTactic
namespace Go.Proofs.YtpaioaknppgggaaGreatDoor
open Go.RowKit
set_option linter.unusedVariables false
set_option linter.unusedSimpArgs false

theorem indexByte_eq (c : UInt8) : ∀ l : List UInt8, Lib.indexByte l c = if c ∈ l then ((l.takeWhile fun b => b != c).length : Int) else -1 := by
  intro l
  induction l with
  | nil => simp [Lib.indexByte]
  | cons b l ih =>
    unfold Lib.indexByte
    by_cases hb : b = c
    · subst hb; simp
    · have hb2 : c ≠ b := fun e => hb e.symm
      rw [ih]
      by_cases hc : c ∈ l
      · have h2 : c ∈ b :: l := by simp [hc]
        rw [if_pos hc, if_pos h2, if_neg (by simpa using hb)]
        have : ¬ (((l.takeWhile fun b => b != c).length : Int) == -1) = true := by rw [beq_iff_eq]; omega
        rw [if_neg this, List.takeWhile_cons, if_pos (by simpa using hb)]
        simp
      · have h2 : ¬ c ∈ b :: l := by simp [hc, hb2]
        rw [if_neg hc, if_neg h2, if_neg (by simpa using hb)]
        try rfl
theorem cut_parts {c : UInt8} {l : List UInt8} (h : c ∈ l) : l = (l.takeWhile fun b => b != c) ++ c :: (l.dropWhile fun b => b != c).tail ∧ (l.takeWhile fun b => b != c).length < l.length := by
  have hd : ∃ r, (l.dropWhile fun b => b != c) = c :: r := by
    induction l with
    | nil => simp at h
    | cons x w ih =>
      by_cases hx : x = c
      · subst hx; exact ⟨w, by simp⟩
      · have : c ∈ w := by
          rcases List.mem_cons.1 h with e | e
          · exact absurd e.symm hx
          · exact e
        obtain ⟨r, hr⟩ := ih this
        exact ⟨r, by simp [List.dropWhile_cons, hx, hr]⟩
  obtain ⟨r, hr⟩ := hd
  have e : l = (l.takeWhile fun b => b != c) ++ c :: (l.dropWhile fun b => b != c).tail := by
    rw [hr, List.tail_cons, ← hr]; exact List.takeWhile_append_dropWhile.symm
  refine ⟨e, ?_⟩
  have := congrArg List.length e
  simp only [List.length_append, List.length_cons] at this
  omega

/-- What strings.Cut gives at one byte. -/
def CutRet (c : UInt8) (l : List UInt8) (w : World) (e : Ending) (w' : World) : Prop :=
  ∃ (A B : ByteArray) (f : Bool), e = .returned (.tuple #[.string A, .string B, .bool f]) ∧
    ((f = true ∧ c ∈ l ∧ Str8 A (l.takeWhile fun b => b != c) ∧ Str8 B (l.dropWhile fun b => b != c).tail) ∨ (f = false ∧ ¬ c ∈ l ∧ Str8 A l ∧ Str8 B [])) ∧ Below w.heap.size w w'
set_option maxHeartbeats 4000000 in
theorem cut_lite (w : World) (S : ByteArray) (l : List UInt8) (hS : Str8 S l) (hl63 : l.length ≤ 1000000000) :
    Calls Tryz.prog 123 #[.string S, .string ⟨#[58]⟩] w (CutRet 58 l w) := by
  have hsz : (S.size : Int) = (l.length : Int) := by rw [hS.size]
  have hdl : S.data.toList = l := by rw [hS]
  have HS := Lib.hid hS
  have hix := indexByte_eq 58 l
  by_cases hm : (58 : UInt8) ∈ l
  · rw [if_pos hm] at hix
    obtain ⟨hp, hlt⟩ := cut_parts hm
    obtain ⟨n, hn⟩ : ∃ n, n = (l.takeWhile fun b => b != 58).length := ⟨_, rfl⟩
    rw [← hn] at hix hlt
    obtain ⟨A, HA, ka⟩ := sl_to HS.out (n := n) (by omega)
    have HB : Hid (Str8 (S.extract (n + 1) S.size) (l.drop (n + 1))) := by
      unfold Hid; have := str_ext HS.out (n + 1) S.size; rw [HS.out.size, List.take_length] at this; rw [HS.out.size]; exact this
    have HA2 : Hid (Str8 A (l.takeWhile fun b => b != 58)) := by
      have : l.take n = l.takeWhile fun b => b != 58 := by
        conv => lhs; rw [hp]
        rw [hn]; simp
      rw [← this]; exact HA
    have HB2 : Hid (Str8 (S.extract (n + 1) S.size) (l.dropWhile fun b => b != 58).tail) := by
      have : l.drop (n + 1) = (l.dropWhile fun b => b != 58).tail := by
        conv => lhs; rw [hp]
        rw [hn, List.drop_append, List.drop_eq_nil_of_le (by omega)]; simp
      rw [← this]; exact HB
    have wr1 : IntKind.i64.wrap ((n : Int) + 1) = ((n + 1 : Nat) : Int) := by rw [show (n : Int) + 1 = ((n + 1 : Nat) : Int) by omega]; exact IntWalk.i64_in _ (by omega)
    have HM := Lib.hid hm
    have hs1 : ((⟨#[58]⟩ : ByteArray).size : Int) = 1 := rfl
    have hn0 : (0 : Int) ≤ (n : Int) := by omega
    have HIX := Lib.hid hix
    have HDL := Lib.hid hdl
    clear hS hdl hp hn hm hix HA HB
    go_enter Tryz.func123, Tryz.ntmps123
    go_wp2_with (go_at_call 109; refine (Tryz.stringslite_Index_one S 58 _).mono ?_; rintro e w2 ⟨rfl, rfl⟩; rw [HDL.out, HIX.out])
    go_quiet (fail)
    go_wp2_with fail
    go_ret3
    exact ⟨A, S.extract (n + 1) S.size, true, rfl, .inl ⟨rfl, HM.out, HA2.out, HB2.out⟩, below_drewN (Below.refl _ _) _⟩
  · rw [if_neg hm] at hix
    have HM := Lib.hid hm
    have HIX := Lib.hid hix
    have HDL := Lib.hid hdl
    clear hS hdl hm hix
    go_enter Tryz.func123, Tryz.ntmps123
    go_wp2_with (go_at_call 109; refine (Tryz.stringslite_Index_one S 58 _).mono ?_; rintro e w2 ⟨rfl, rfl⟩; rw [HDL.out, HIX.out])
    go_ret3
    exact ⟨S, ⟨#[]⟩, false, rfl, .inr ⟨rfl, HM.out, HS.out, rfl⟩, Below.refl _ _⟩

theorem cut_any (w : World) (S : ByteArray) (l : List UInt8) (hS : Str8 S l) (hl63 : l.length ≤ 1000000000) :
    Calls Tryz.prog 105 #[.string S, .string ⟨#[58]⟩] w (CutRet 58 l w) := by
  go_enter Tryz.func105, Tryz.ntmps105
  go_wp2_with (go_at_call 123; refine (cut_lite _ S l hS hl63).mono ?_; rintro e w2 ⟨A, B, f, rfl, h1, hB⟩)
  go_ret3
  exact ⟨A, B, f, rfl, h1, hB⟩
end Go.Proofs.YtpaioaknppgggaaGreatDoor
