/- Rides, plain: what a car does with calls, and that everybody has left before the last time. Sessions, plain: cars, waits, lines, and what a session prints. Sessions, plain: the laws that are told of what a session prints. Calls as they are read; validCall and ValidCalls of both sides. toInt, proved once. Rides, plain: what the program keeps beside the times (how many are in the car, how many have left), and the loop's end. sortCalls: the reference's. Rides: what the reference's ride asks of its lists (waiting, inside, targets, ahead, turnAround, moveOf). Rides: targets, ahead, turnAround, moveOf of the reference. The reference's ride. TotalWait of the reference. -/
import Derived.Lib.Hide
import Derived.Test.YtpaioaknppgggaaGreatDoorTx10
import Derived.Sort.LotA
import Derived.Test.YtpaioaknppgggaaGreatDoorRods
import Derived.Test.YtpaioaknppgggaaGreatDoorAll
import Derived.Test.YtpaioaknppgggaaGreatDoorProg
import Derived.Test.YtpaioaknppgggaaGreatDoorKit
import Derived.Sort.WalkA
namespace Go.Proofs.YtpaioaknppgggaaGreatDoor

section
set_option linter.unusedVariables false
set_option linter.unusedSimpArgs false

abbrev Cl := Int × Int × Int
def c0 : Cl := (0, 0, 0)
def clOk (c : Cl) : Prop := 0 ≤ c.1 ∧ c.1 ≤ 15 ∧ 0 ≤ c.2.1 ∧ c.2.1 ≤ 15 ∧ c.1 ≠ c.2.1 ∧ 0 ≤ c.2.2 ∧ c.2.2 ≤ 200
structure RSt where
  on : List Int
  off : List Int
  fl : Int
  hd : Int
/-- How many of the first k are in the car. -/
def insd (on off : List Int) : Nat → Nat
  | 0 => 0
  | k + 1 => insd on off k + (if 0 ≤ on.getD k 0 ∧ off.getD k 0 < 0 then 1 else 0)
/-- How many of the first k are not negative. -/
def cnt (l : List Int) : Nat → Nat
  | 0 => 0
  | k + 1 => cnt l k + (if 0 ≤ l.getD k 0 then 1 else 0)
def outS (cs : List Cl) (t fl : Int) (on off : List Int) : Nat → List Int × Bool
  | 0 => (off, false)
  | k + 1 => if 0 ≤ on.getD k 0 ∧ (outS cs t fl on off k).1.getD k 0 < 0 ∧ (cs.getD k c0).2.1 = fl then ((outS cs t fl on off k).1.set k t, true) else outS cs t fl on off k
def inS (cs : List Cl) (t fl : Int) (off on : List Int) : Nat → List Int × Bool
  | 0 => (on, false)
  | k + 1 => if (inS cs t fl off on k).1.getD k 0 < 0 ∧ (cs.getD k c0).2.2 ≤ t ∧ (cs.getD k c0).1 = fl ∧ insd (inS cs t fl off on k).1 off cs.length < 4 then ((inS cs t fl off on k).1.set k t, true) else inS cs t fl off on k
def tg (cs : List Cl) (t : Int) (on off : List Int) : Nat → List Int
  | 0 => []
  | k + 1 => tg cs t on off k ++ (if 0 ≤ on.getD k 0 ∧ off.getD k 0 < 0 then [(cs.getD k c0).2.1] else if on.getD k 0 < 0 ∧ (cs.getD k c0).2.2 ≤ t ∧ insd on off cs.length < 4 then [(cs.getD k c0).1] else [])
def ahd (l : List Int) (fl hd : Int) : Bool := l.any fun f => decide (0 < (f - fl) * hd)
def turnS (l : List Int) (fl hd : Int) : Int := if ahd l fl hd = false ∧ ahd l fl (-hd) = true then -hd else hd
def driveS (cs : List Cl) (t : Int) (s : RSt) : RSt :=
  let l := tg cs t s.on s.off cs.length
  { on := s.on, off := s.off, fl := s.fl + (if ahd l s.fl (turnS l s.fl s.hd) = true then turnS l s.fl s.hd else 0), hd := turnS l s.fl s.hd }
def outT (cs : List Cl) (t : Int) (s : RSt) : RSt := { on := s.on, off := (outS cs t s.fl s.on s.off cs.length).1, fl := s.fl, hd := s.hd }
def inT (cs : List Cl) (t : Int) (s : RSt) : RSt := { on := (inS cs t s.fl s.off s.on cs.length).1, off := s.off, fl := s.fl, hd := s.hd }
def outB (cs : List Cl) (t : Int) (s : RSt) : Bool := (outS cs t s.fl s.on s.off cs.length).2
def inB (cs : List Cl) (t : Int) (s : RSt) : Bool := (inS cs t s.fl s.off s.on cs.length).2
def stepS (cs : List Cl) (t : Int) (s : RSt) : RSt :=
  if outB cs t s || inB cs t (outT cs t s) then inT cs t (outT cs t s) else driveS cs t (inT cs t (outT cs t s))
def dnS (cs : List Cl) (s : RSt) : Prop := cnt s.off cs.length = cs.length
instance (cs : List Cl) (s : RSt) : Decidable (dnS cs s) := by unfold dnS; exact inferInstance
def runS (cs : List Cl) : Nat → RSt
  | 0 => ⟨List.replicate cs.length (-1), List.replicate cs.length (-1), 0, 1⟩
  | k + 1 => if dnS cs (runS cs k) then runS cs k else stepS cs k (runS cs k)

theorem getD_set' (l : List Int) (k j : Nat) (t : Int) (h : k < l.length) : (l.set k t).getD j 0 = if j = k then t else l.getD j 0 := by
  simp only [List.getD_eq_getElem?_getD, List.getElem?_set]
  by_cases e : k = j
  · subst e; simp [h]
  · simp [e, Ne.symm e]
theorem cnt_congr {l l' : List Int} : ∀ k, (∀ i, i < k → (0 ≤ l.getD i 0 ↔ 0 ≤ l'.getD i 0)) → cnt l k = cnt l' k
  | 0, _ => rfl
  | k + 1, h => by
    unfold cnt
    rw [cnt_congr k (fun i hi => h i (by omega))]
    have := h k (by omega)
    by_cases e : 0 ≤ l.getD k 0
    · rw [if_pos e, if_pos (this.1 e)]
    · rw [if_neg e, if_neg (fun x => e (this.2 x))]
theorem cnt_le (l : List Int) : ∀ k, cnt l k ≤ k
  | 0 => Nat.le_refl _
  | k + 1 => by have := cnt_le l k; unfold cnt; split <;> omega
theorem cnt_mono {l l' : List Int} : ∀ k, (∀ i, i < k → 0 ≤ l.getD i 0 → 0 ≤ l'.getD i 0) → cnt l k ≤ cnt l' k
  | 0, _ => Nat.le_refl _
  | k + 1, h => by
    have := cnt_mono k (fun i hi => h i (by omega))
    have := h k (by omega)
    unfold cnt
    by_cases e : 0 ≤ l.getD k 0
    · rw [if_pos e, if_pos (this e)]; omega
    · rw [if_neg e]; split <;> omega
theorem cnt_lt {l l' : List Int} : ∀ k, (∀ i, i < k → 0 ≤ l.getD i 0 → 0 ≤ l'.getD i 0) → ∀ i, i < k → l.getD i 0 < 0 → 0 ≤ l'.getD i 0 → cnt l k < cnt l' k
  | 0, _, i, hi, _, _ => by omega
  | k + 1, h, i, hi, h1, h2 => by
    have hk := h k (by omega)
    by_cases e : i = k
    · subst e
      have := cnt_mono (l := l) (l' := l') i (fun j hj => h j (by omega))
      unfold cnt; rw [if_neg (by omega), if_pos h2]; omega
    · have := cnt_lt k (fun j hj => h j (by omega)) i (by omega) h1 h2
      unfold cnt
      by_cases e' : 0 ≤ l.getD k 0
      · rw [if_pos e', if_pos (hk e')]; omega
      · rw [if_neg e']; split <;> omega
theorem cnt_all {l : List Int} : ∀ k, cnt l k = k ↔ ∀ i, i < k → 0 ≤ l.getD i 0
  | 0 => ⟨fun _ i hi => by omega, fun _ => rfl⟩
  | k + 1 => by
    have ih := cnt_all (l := l) k
    have hle := cnt_le l k
    unfold cnt
    constructor
    · intro h i hi
      by_cases e : 0 ≤ l.getD k 0
      · rw [if_pos e] at h
        by_cases e2 : i = k
        · subst e2; exact e
        · exact ih.1 (by omega) i (by omega)
      · rw [if_neg e] at h; omega
    · intro h
      rw [if_pos (h k (by omega)), ih.2 (fun i hi => h i (by omega))]

/-- What letting out does, place by place. -/
theorem outS_len (cs : List Cl) (t fl : Int) (on off : List Int) : ∀ k, (outS cs t fl on off k).1.length = off.length
  | 0 => rfl
  | k + 1 => by unfold outS; split <;> simp [outS_len cs t fl on off k]
theorem outS_at (cs : List Cl) (t fl : Int) (on off : List Int) : ∀ k, k ≤ off.length → ∀ i, (outS cs t fl on off k).1.getD i 0 = if i < k ∧ 0 ≤ on.getD i 0 ∧ off.getD i 0 < 0 ∧ (cs.getD i c0).2.1 = fl then t else off.getD i 0
  | 0, _, i => by simp [outS]
  | k + 1, hk, i => by
    have ih := outS_at cs t fl on off k (by omega)
    have ihk := ih k
    rw [if_neg (by omega)] at ihk
    unfold outS
    rw [ihk]
    by_cases c : 0 ≤ on.getD k 0 ∧ off.getD k 0 < 0 ∧ (cs.getD k c0).2.1 = fl
    · rw [if_pos c, getD_set' _ _ _ _ (by rw [outS_len]; omega)]
      by_cases e : i = k
      · subst e; rw [if_pos rfl, if_pos ⟨by omega, c⟩]
      · rw [if_neg e, ih i]
        by_cases h : i < k
        · simp [h, show i < k + 1 by omega]
        · simp [h, show ¬ i < k + 1 by omega]
    · rw [if_neg c, ih i]
      by_cases e : i = k
      · subst e; rw [if_neg (by omega), if_neg (fun h => c h.2)]
      · by_cases h : i < k
        · simp [h, show i < k + 1 by omega]
        · simp [h, show ¬ i < k + 1 by omega]
theorem outS_no (cs : List Cl) (t fl : Int) (on off : List Int) : ∀ k, k ≤ off.length → ((outS cs t fl on off k).2 = false ↔ ∀ i, i < k → ¬ (0 ≤ on.getD i 0 ∧ off.getD i 0 < 0 ∧ (cs.getD i c0).2.1 = fl))
  | 0, _ => ⟨fun _ i hi => by omega, fun _ => rfl⟩
  | k + 1, hk => by
    have ih := outS_no cs t fl on off k (by omega)
    have ihk := outS_at cs t fl on off k (by omega) k
    rw [if_neg (by omega)] at ihk
    unfold outS
    rw [ihk]
    by_cases c : 0 ≤ on.getD k 0 ∧ off.getD k 0 < 0 ∧ (cs.getD k c0).2.1 = fl
    · rw [if_pos c]
      exact ⟨fun h => (by cases h), fun h => absurd c (h k (by omega))⟩
    · rw [if_neg c, ih]
      constructor
      · intro h i hi
        by_cases e : i = k
        · subst e; exact c
        · exact h i (by omega)
      · exact fun h i hi => h i (by omega)
theorem outS_same (cs : List Cl) (t fl : Int) (on off : List Int) : ∀ k, (outS cs t fl on off k).2 = false → (outS cs t fl on off k).1 = off
  | 0, _ => rfl
  | k + 1, h => by
    unfold outS at h ⊢
    split at h
    · cases h
    · rename_i c; rw [if_neg c]; exact outS_same cs t fl on off k h

theorem inS_len (cs : List Cl) (t fl : Int) (off on : List Int) : ∀ k, (inS cs t fl off on k).1.length = on.length
  | 0 => rfl
  | k + 1 => by unfold inS; split <;> simp [inS_len cs t fl off on k]
theorem inS_rest (cs : List Cl) (t fl : Int) (off on : List Int) : ∀ k, k ≤ on.length → ∀ i, k ≤ i → (inS cs t fl off on k).1.getD i 0 = on.getD i 0
  | 0, _, i, _ => rfl
  | k + 1, hk, i, hi => by
    have ih := inS_rest cs t fl off on k (by omega) i (by omega)
    unfold inS
    split
    · rw [getD_set' _ _ _ _ (by rw [inS_len]; omega), if_neg (by omega), ih]
    · exact ih
/-- Each place is as it was, or t where it was negative. -/
theorem inS_at (cs : List Cl) (t fl : Int) (off on : List Int) : ∀ k, k ≤ on.length → ∀ i, (inS cs t fl off on k).1.getD i 0 = on.getD i 0 ∨ (on.getD i 0 < 0 ∧ i < k ∧ (inS cs t fl off on k).1.getD i 0 = t)
  | 0, _, i => .inl rfl
  | k + 1, hk, i => by
    have ih := inS_at cs t fl off on k (by omega) i
    have hr := inS_rest cs t fl off on k (by omega) k (Nat.le_refl _)
    unfold inS
    split
    · rename_i c
      rw [getD_set' _ _ _ _ (by rw [inS_len]; omega)]
      by_cases e : i = k
      · subst e; rw [if_pos rfl]; exact .inr ⟨by rw [← hr]; exact c.1, by omega, rfl⟩
      · rw [if_neg e]
        rcases ih with h | ⟨h1, h2, h3⟩
        · exact .inl h
        · exact .inr ⟨h1, by omega, h3⟩
    · rcases ih with h | ⟨h1, h2, h3⟩
      · exact .inl h
      · exact .inr ⟨h1, by omega, h3⟩
theorem inS_same (cs : List Cl) (t fl : Int) (off on : List Int) : ∀ k, (inS cs t fl off on k).2 = false → (inS cs t fl off on k).1 = on
  | 0, _ => rfl
  | k + 1, h => by
    unfold inS at h ⊢
    split at h
    · cases h
    · rename_i c; rw [if_neg c]; exact inS_same cs t fl off on k h
theorem inS_no (cs : List Cl) (t fl : Int) (off on : List Int) : ∀ k, (inS cs t fl off on k).2 = false → ∀ i, i < k → ¬ (on.getD i 0 < 0 ∧ (cs.getD i c0).2.2 ≤ t ∧ (cs.getD i c0).1 = fl ∧ insd on off cs.length < 4)
  | 0, _, i, hi => by omega
  | k + 1, h, i, hi => by
    unfold inS at h
    split at h
    · cases h
    · rename_i c
      rw [inS_same cs t fl off on k h] at c
      by_cases e : i = k
      · subst e; exact c
      · exact inS_no cs t fl off on k h i (by omega)
theorem inS_yes (cs : List Cl) (t fl : Int) (off on : List Int) (ht : 0 ≤ t) : ∀ k, k ≤ on.length → (inS cs t fl off on k).2 = true → ∃ i, i < k ∧ on.getD i 0 < 0 ∧ 0 ≤ (inS cs t fl off on k).1.getD i 0
  | 0, _, h => by cases h
  | k + 1, hk, h => by
    unfold inS at h ⊢
    split at h
    · rename_i c
      rw [if_pos c]
      refine ⟨k, by omega, ?_, ?_⟩
      · rw [← inS_rest cs t fl off on k (by omega) k (Nat.le_refl _)]; exact c.1
      · simp only; rw [getD_set' _ _ _ _ (by rw [inS_len]; omega), if_pos rfl]; exact ht
    · rename_i c
      rw [if_neg c]
      obtain ⟨i, h1, h2, h3⟩ := inS_yes cs t fl off on ht k (by omega) h
      exact ⟨i, by omega, h2, h3⟩

structure InvS (cs : List Cl) (s : RSt) : Prop where
  lon : s.on.length = cs.length
  lof : s.off.length = cs.length
  son : ∀ i, i < cs.length → (s.on.getD i 0 = -1 ∨ 0 ≤ s.on.getD i 0) ∧ s.on.getD i 0 ≤ 900
  sof : ∀ i, i < cs.length → (s.off.getD i 0 = -1 ∨ 0 ≤ s.off.getD i 0) ∧ s.off.getD i 0 ≤ 900
  both : ∀ i, i < cs.length → s.on.getD i 0 < 0 → s.off.getD i 0 < 0
  flo : 0 ≤ s.fl ∧ s.fl ≤ 15
  hdo : s.hd = 1 ∨ s.hd = -1

theorem tg_mem (cs : List Cl) (t : Int) (on off : List Int) (f : Int) : ∀ k, f ∈ tg cs t on off k ↔ ∃ i, i < k ∧ ((0 ≤ on.getD i 0 ∧ off.getD i 0 < 0 ∧ (cs.getD i c0).2.1 = f) ∨ (on.getD i 0 < 0 ∧ (cs.getD i c0).2.2 ≤ t ∧ insd on off cs.length < 4 ∧ (cs.getD i c0).1 = f))
  | 0 => by simp [tg]
  | k + 1 => by
    unfold tg
    rw [List.mem_append, tg_mem cs t on off f k]
    constructor
    · rintro (⟨i, hi, h⟩ | h)
      · exact ⟨i, by omega, h⟩
      · refine ⟨k, by omega, ?_⟩
        split at h
        · rename_i c; simp at h; exact .inl ⟨c.1, c.2, h.symm⟩
        · split at h
          · rename_i c; simp at h; exact .inr ⟨c.1, c.2.1, c.2.2, h.symm⟩
          · simp at h
    · rintro ⟨i, hi, h⟩
      by_cases e : i = k
      · subst e
        right
        rcases h with ⟨h1, h2, h3⟩ | ⟨h1, h2, h3, h4⟩
        · rw [if_pos ⟨h1, h2⟩, h3]; simp
        · rw [if_neg (by omega), if_pos ⟨h1, h2, h3⟩, h4]; simp
      · exact .inl ⟨i, by omega, h⟩
theorem tg_in {cs : List Cl} (hc : ∀ i, i < cs.length → clOk (cs.getD i c0)) {t : Int} {on off : List Int} {f : Int} (h : f ∈ tg cs t on off cs.length) : 0 ≤ f ∧ f ≤ 15 := by
  obtain ⟨i, hi, h⟩ := (tg_mem ..).1 h
  have := hc i hi
  unfold clOk at this
  rcases h with ⟨_, _, rfl⟩ | ⟨_, _, _, rfl⟩ <;> omega
theorem ahd_iff {l : List Int} {fl hd : Int} : ahd l fl hd = true ↔ ∃ f ∈ l, 0 < (f - fl) * hd := by
  unfold ahd; rw [List.any_eq_true]; simp

theorem InvS.step {cs : List Cl} (hc : ∀ i, i < cs.length → clOk (cs.getD i c0)) {t : Int} (ht : 0 ≤ t ∧ t ≤ 900) {s : RSt} (h : InvS cs s) : InvS cs (outT cs t s) ∧ InvS cs (inT cs t (outT cs t s)) ∧ InvS cs (stepS cs t s) := by
  have h1 : InvS cs (outT cs t s) := by
    refine ⟨h.lon, by show (outS ..).1.length = _; rw [outS_len, h.lof], h.son, fun i hi => ?_, fun i hi he => ?_, h.flo, h.hdo⟩
    · show ((outS ..).1.getD i 0 = -1 ∨ _) ∧ _
      show ((outS cs t s.fl s.on s.off cs.length).1.getD i 0 = -1 ∨ 0 ≤ (outS cs t s.fl s.on s.off cs.length).1.getD i 0) ∧ (outS cs t s.fl s.on s.off cs.length).1.getD i 0 ≤ 900
      rw [outS_at cs t s.fl s.on s.off _ (by rw [h.lof]; exact Nat.le_refl _)]
      have := h.sof i hi
      split <;> omega
    · show (outS cs t s.fl s.on s.off cs.length).1.getD i 0 < 0
      have he : s.on.getD i 0 < 0 := he
      rw [outS_at cs t s.fl s.on s.off _ (by rw [h.lof]; exact Nat.le_refl _), if_neg (by omega)]
      exact h.both i hi he
  have h2 : InvS cs (inT cs t (outT cs t s)) := by
    have key := fun i => inS_at cs t (outT cs t s).fl (outT cs t s).off (outT cs t s).on cs.length (by rw [h1.lon]; exact Nat.le_refl _) i
    refine ⟨by show (inS ..).1.length = _; rw [inS_len, h1.lon], h1.lof, fun i hi => ?_, h1.sof, fun i hi he => ?_, h1.flo, h1.hdo⟩
    · show ((inS cs t (outT cs t s).fl (outT cs t s).off (outT cs t s).on cs.length).1.getD i 0 = -1 ∨ 0 ≤ (inS cs t (outT cs t s).fl (outT cs t s).off (outT cs t s).on cs.length).1.getD i 0) ∧ (inS cs t (outT cs t s).fl (outT cs t s).off (outT cs t s).on cs.length).1.getD i 0 ≤ 900
      have := h1.son i hi
      rcases key i with e | ⟨_, _, e⟩ <;> rw [e] <;> omega
    · have he : (inS cs t (outT cs t s).fl (outT cs t s).off (outT cs t s).on cs.length).1.getD i 0 < 0 := he
      refine h1.both i hi ?_
      rcases key i with e | ⟨e, _, _⟩
      · rw [← e]; exact he
      · exact e
  refine ⟨h1, h2, ?_⟩
  unfold stepS
  split
  · exact h2
  · obtain ⟨a1, a2, a3, a4, a5, a6, a7⟩ := h2
    refine ⟨a1, a2, a3, a4, a5, ?_, ?_⟩
    · unfold driveS
      simp only
      generalize hs : inT cs t (outT cs t s) = s2 at *
      generalize hh : turnS (tg cs t s2.on s2.off cs.length) s2.fl s2.hd = hd'
      have h7 : hd' = 1 ∨ hd' = -1 := by
        rw [← hh]; unfold turnS; split <;> omega
      by_cases e : ahd (tg cs t s2.on s2.off cs.length) s2.fl hd' = true
      · rw [if_pos e]
        obtain ⟨f, hf, hp⟩ := ahd_iff.1 e
        have := tg_in hc hf
        rcases h7 with rfl | rfl <;> omega
      · rw [if_neg e]; omega
    · unfold driveS turnS
      simp only
      split <;> omega

/-- How much has taken place. -/
def evS (cs : List Cl) (s : RSt) : Nat := cnt s.on cs.length + cnt s.off cs.length
theorem ev_step {cs : List Cl} {t : Int} (ht : 0 ≤ t) {s : RSt} (h : InvS cs s) :
    evS cs s ≤ evS cs (stepS cs t s) ∧ ((outB cs t s || inB cs t (outT cs t s)) = true → evS cs s < evS cs (stepS cs t s)) := by
  have ho : ∀ i, i < cs.length → 0 ≤ s.off.getD i 0 → 0 ≤ (outT cs t s).off.getD i 0 := fun i hi e => by
    show 0 ≤ (outS cs t s.fl s.on s.off cs.length).1.getD i 0
    rw [outS_at cs t s.fl s.on s.off _ (by rw [h.lof]; exact Nat.le_refl _), if_neg (by omega)]; exact e
  have hi : ∀ i, i < cs.length → 0 ≤ s.on.getD i 0 → 0 ≤ (inT cs t (outT cs t s)).on.getD i 0 := fun i hi e => by
    show 0 ≤ (inS cs t s.fl (outT cs t s).off s.on cs.length).1.getD i 0
    rcases inS_at cs t s.fl (outT cs t s).off s.on cs.length (by rw [h.lon]; exact Nat.le_refl _) i with e1 | ⟨e1, _, _⟩
    · rw [e1]; exact e
    · omega
  have m1 := cnt_mono _ ho
  have m2 := cnt_mono _ hi
  have e0 : evS cs (stepS cs t s) = cnt (inT cs t (outT cs t s)).on cs.length + cnt (outT cs t s).off cs.length := by
    unfold stepS
    split <;> rfl
  rw [e0]
  refine ⟨by unfold evS; omega, fun hb => ?_⟩
  unfold evS
  rcases Bool.or_eq_true_iff.1 hb with hb | hb
  · by_cases hn : ∃ i, i < cs.length ∧ (0 ≤ s.on.getD i 0 ∧ s.off.getD i 0 < 0 ∧ (cs.getD i c0).2.1 = s.fl)
    · obtain ⟨i, hil, c⟩ := hn
      have := cnt_lt _ ho i hil c.2.1 (by
        show 0 ≤ (outS cs t s.fl s.on s.off cs.length).1.getD i 0
        rw [outS_at cs t s.fl s.on s.off _ (by rw [h.lof]; exact Nat.le_refl _), if_pos ⟨hil, c⟩]; exact ht)
      omega
    · have := (outS_no cs t s.fl s.on s.off cs.length (by rw [h.lof]; exact Nat.le_refl _)).2 (fun i hi c => hn ⟨i, hi, c⟩)
      unfold outB at hb
      rw [this] at hb; cases hb
  · obtain ⟨i, h1, h2, h3⟩ := inS_yes cs t s.fl (outT cs t s).off s.on ht cs.length (by rw [h.lon]; exact Nat.le_refl _) hb
    have := cnt_lt _ hi i h1 h2 h3
    omega

/-- Where nothing takes place, the car drives, and stands at no floor that it has to visit. -/
theorem still_step {cs : List Cl} {t : Int} {s : RSt} (h : InvS cs s) (hn : (outB cs t s || inB cs t (outT cs t s)) = false) :
    stepS cs t s = driveS cs t s ∧ s.fl ∉ tg cs t s.on s.off cs.length := by
  obtain ⟨h1, h2⟩ := Bool.or_eq_false_iff.1 hn
  have e1 : outT cs t s = s := by unfold outT; rw [outS_same _ _ _ _ _ _ h1]
  rw [e1] at h2
  have e2 : inT cs t s = s := by unfold inT; rw [inS_same _ _ _ _ _ _ h2]
  refine ⟨by unfold stepS; rw [hn, e1, e2]; rfl, fun hm => ?_⟩
  obtain ⟨i, hi, c | c⟩ := (tg_mem ..).1 hm
  · exact (outS_no cs t s.fl s.on s.off cs.length (by rw [h.lof]; exact Nat.le_refl _)).1 h1 i hi c
  · exact inS_no cs t s.fl s.off s.on cs.length h2 i hi ⟨c.1, c.2.1, c.2.2.2, c.2.2.1⟩
theorem insd_zero {on off : List Int} : ∀ k, (∀ i, i < k → ¬ (0 ≤ on.getD i 0 ∧ off.getD i 0 < 0)) → insd on off k = 0
  | 0, _ => rfl
  | k + 1, h => by unfold insd; rw [insd_zero k (fun i hi => h i (by omega)), if_neg (h k (by omega))]
/-- When all times are over and somebody has not left, there is a floor to visit. -/
theorem has_target {cs : List Cl} (hc : ∀ i, i < cs.length → clOk (cs.getD i c0)) {t : Int} (ht : 200 ≤ t) {s : RSt} (h : InvS cs s) (hd : ¬ dnS cs s) : ∃ f, f ∈ tg cs t s.on s.off cs.length := by
  obtain ⟨i, hi, hoff⟩ : ∃ i, i < cs.length ∧ s.off.getD i 0 < 0 := by
    apply Classical.byContradiction
    intro hx
    refine hd ((cnt_all _).2 fun i hi => ?_)
    apply Classical.byContradiction
    intro hy
    exact hx ⟨i, hi, by omega⟩
  by_cases hr : ∃ j, j < cs.length ∧ 0 ≤ s.on.getD j 0 ∧ s.off.getD j 0 < 0
  · obtain ⟨j, hj, h1, h2⟩ := hr
    exact ⟨_, (tg_mem ..).2 ⟨j, hj, .inl ⟨h1, h2, rfl⟩⟩⟩
  · have hon : s.on.getD i 0 < 0 := by
      apply Classical.byContradiction
      intro hy
      exact hr ⟨i, hi, by omega, hoff⟩
    have := hc i hi
    unfold clOk at this
    refine ⟨_, (tg_mem ..).2 ⟨i, hi, .inr ⟨hon, by omega, ?_, rfl⟩⟩⟩
    rw [insd_zero _ (fun j hj c => hr ⟨j, hj, c.1, c.2⟩)]; decide
theorem tg_time {cs : List Cl} (hc : ∀ i, i < cs.length → clOk (cs.getD i c0)) {t t' : Int} (ht : 200 ≤ t) (ht' : 200 ≤ t') (on off : List Int) (f : Int) : f ∈ tg cs t on off cs.length → f ∈ tg cs t' on off cs.length := by
  rw [tg_mem, tg_mem]
  rintro ⟨i, hi, c | c⟩
  · exact ⟨i, hi, .inl c⟩
  · have := hc i hi
    unfold clOk at this
    exact ⟨i, hi, .inr ⟨c.1, by omega, c.2.2⟩⟩

def itS (cs : List Cl) (t : Nat) (s : RSt) : Nat → RSt
  | 0 => s
  | k + 1 => if dnS cs (itS cs t s k) then itS cs t s k else stepS cs ((t + k : Nat) : Int) (itS cs t s k)
theorem itS_add (cs : List Cl) (t : Nat) (s : RSt) (a : Nat) : ∀ b, itS cs t s (a + b) = itS cs (t + a) (itS cs t s a) b
  | 0 => rfl
  | b + 1 => by
    show itS cs t s (a + b + 1) = _
    unfold itS
    rw [itS_add cs t s a b, show t + (a + b) = t + a + b by omega]
theorem runS_it (cs : List Cl) (a : Nat) : ∀ b, runS cs (a + b) = itS cs a (runS cs a) b
  | 0 => rfl
  | b + 1 => by
    have ih := runS_it cs a b
    show (if dnS cs (runS cs (a + b)) then runS cs (a + b) else stepS cs ((a + b : Nat) : Int) (runS cs (a + b))) = _
    rw [ih]; rfl
theorem itS_dn {cs : List Cl} {t : Nat} {s : RSt} (h : dnS cs s) : ∀ k, itS cs t s k = s
  | 0 => rfl
  | k + 1 => by unfold itS; rw [itS_dn h k, if_pos h]
theorem itS_inv {cs : List Cl} (hc : ∀ i, i < cs.length → clOk (cs.getD i c0)) {t : Nat} {s : RSt} (h : InvS cs s) : ∀ k, t + k ≤ 901 → InvS cs (itS cs t s k) ∧ evS cs s ≤ evS cs (itS cs t s k)
  | 0, _ => ⟨h, Nat.le_refl _⟩
  | k + 1, hk => by
    obtain ⟨i1, i2⟩ := itS_inv (t := t) hc h k (by omega)
    unfold itS
    split
    · exact ⟨i1, i2⟩
    · have := (ev_step (cs := cs) (t := ((t + k : Nat) : Int)) (by omega) i1).1
      exact ⟨(i1.step hc (t := ((t + k : Nat) : Int)) (by omega)).2.2, by omega⟩
/-- A floor that lies ahead is come to, or something takes place before. -/
theorem come {cs : List Cl} (hc : ∀ i, i < cs.length → clOk (cs.getD i c0)) : ∀ (d : Nat) (t : Nat) (s : RSt) (f : Int), InvS cs s → 200 ≤ t → t + d ≤ 900 → ¬ dnS cs s → f ∈ tg cs t s.on s.off cs.length → (f - s.fl) * s.hd = d → evS cs s < evS cs (itS cs t s (d + 1)) := by
  intro d
  induction d with
  | zero =>
    intro t s f h ht hd hdn hf hp
    have hfl : f = s.fl := by rcases h.hdo with e | e <;> rw [e] at hp <;> omega
    show evS cs s < evS cs (itS cs t s 1)
    unfold itS
    show evS cs s < evS cs (if dnS cs s then s else stepS cs ((t + 0 : Nat) : Int) s)
    rw [if_neg hdn]
    refine (ev_step (by omega) h).2 ?_
    cases hb : (outB cs ((t + 0 : Nat) : Int) s || inB cs ((t + 0 : Nat) : Int) (outT cs ((t + 0 : Nat) : Int) s))
    · exact absurd (hfl ▸ hf) (still_step h hb).2
    · rfl
  | succ d ih =>
    intro t s f h ht hd hdn hf hp
    have e1 : itS cs t s (d + 1 + 1) = itS cs (t + 1) (itS cs t s 1) (d + 1) := by
      rw [← itS_add]; congr 1; omega
    have e2 : itS cs t s 1 = stepS cs t s := by
      show (if dnS cs s then s else stepS cs ((t + 0 : Nat) : Int) s) = _
      rw [if_neg hdn]; rfl
    have hI := (h.step hc (t := (t : Int)) (by omega)).2.2
    rw [e1, e2]
    have hmono := (itS_inv hc (t := t + 1) hI (d + 1) (by omega)).2
    have hev := ev_step (cs := cs) (t := (t : Int)) (by omega) h
    cases hb : (outB cs t s || inB cs t (outT cs t s))
    · have hs := (still_step h hb).1
      rw [hs] at hI hmono hev ⊢
      have hah : ahd (tg cs t s.on s.off cs.length) s.fl s.hd = true := ahd_iff.2 ⟨f, hf, by omega⟩
      have htn : turnS (tg cs t s.on s.off cs.length) s.fl s.hd = s.hd := by unfold turnS; rw [hah]; simp
      have hfl : (driveS cs t s).fl = s.fl + s.hd := by unfold driveS; simp only; rw [htn, hah]; simp
      have hhd : (driveS cs t s).hd = s.hd := by unfold driveS; simp only; exact htn
      by_cases hdn2 : dnS cs (driveS cs t s)
      · exact absurd hdn2 hdn
      refine ih (t + 1) (driveS cs t s) f hI (by omega) (by omega) hdn2 (tg_time hc (by omega) (by omega) _ _ _ hf) ?_
      rw [hfl, hhd]
      rcases h.hdo with e | e <;> rw [e] at hp ⊢ <;> omega
    · have := hev.2 hb
      omega
/-- Within 17 times something takes place. -/
theorem soon {cs : List Cl} (hc : ∀ i, i < cs.length → clOk (cs.getD i c0)) {t : Nat} {s : RSt} (h : InvS cs s) (ht : 200 ≤ t) (ht2 : t + 17 ≤ 900) (hdn : ¬ dnS cs s) : evS cs s < evS cs (itS cs t s 17) := by
  have up : ∀ d, d ≤ 16 → evS cs s < evS cs (itS cs t s (d + 1)) → evS cs s < evS cs (itS cs t s 17) := fun d hd he => by
    have h1 := (itS_inv hc (t := t) h (d + 1) (by omega)).1
    have h2 := (itS_inv hc (t := t + (d + 1)) h1 (17 - (d + 1)) (by omega)).2
    rw [← itS_add, show d + 1 + (17 - (d + 1)) = 17 by omega] at h2
    omega
  obtain ⟨f, hf⟩ := has_target hc (t := (t : Int)) (by omega) h hdn
  have hfi := tg_in hc hf
  have hfl := h.flo
  by_cases hah : ahd (tg cs t s.on s.off cs.length) s.fl s.hd = true
  · obtain ⟨g, hg, hp⟩ := ahd_iff.1 hah
    have hgi := tg_in hc hg
    obtain ⟨d, hd⟩ : ∃ d : Nat, (g - s.fl) * s.hd = d := ⟨((g - s.fl) * s.hd).toNat, by omega⟩
    have hd16 : d ≤ 15 := by rcases h.hdo with e | e <;> rw [e] at hd <;> omega
    exact up d (by omega) (come hc d t s g h ht (by omega) hdn hg hd)
  · have e2 : itS cs t s 1 = stepS cs t s := by
      show (if dnS cs s then s else stepS cs ((t + 0 : Nat) : Int) s) = _
      rw [if_neg hdn]; rfl
    have hI := (h.step hc (t := (t : Int)) (by omega)).2.2
    have hev := ev_step (cs := cs) (t := (t : Int)) (by omega) h
    cases hb : (outB cs t s || inB cs t (outT cs t s))
    · obtain ⟨hs, hno⟩ := still_step h hb
      have hne : f ≠ s.fl := fun e => hno (e ▸ hf)
      have hnp : ¬ 0 < (f - s.fl) * s.hd := fun e => hah (ahd_iff.2 ⟨f, hf, e⟩)
      have hah2 : ahd (tg cs t s.on s.off cs.length) s.fl (-s.hd) = true := ahd_iff.2 ⟨f, hf, by rcases h.hdo with e | e <;> rw [e] at hnp ⊢ <;> omega⟩
      have hahf : ahd (tg cs t s.on s.off cs.length) s.fl s.hd = false := by simpa using hah
      have htn : turnS (tg cs t s.on s.off cs.length) s.fl s.hd = -s.hd := by unfold turnS; rw [hahf, hah2]; simp
      have hfl2 : (driveS cs t s).fl = s.fl + -s.hd := by unfold driveS; simp only; rw [htn, hah2]; simp
      have hhd2 : (driveS cs t s).hd = -s.hd := by unfold driveS; simp only; exact htn
      rw [hs] at hI e2 hev
      obtain ⟨d, hd⟩ : ∃ d : Nat, (f - (driveS cs t s).fl) * (driveS cs t s).hd = d := ⟨((f - (driveS cs t s).fl) * (driveS cs t s).hd).toNat, by
        rw [hfl2, hhd2]; rcases h.hdo with e | e <;> rw [e] at hnp ⊢ <;> omega⟩
      have hd15 : d ≤ 15 := by rw [hfl2, hhd2] at hd; rcases h.hdo with e | e <;> rw [e] at hd hnp <;> omega
      have := come hc d (t + 1) (driveS cs t s) f hI (by omega) (by omega) hdn (tg_time hc (by omega) (by omega) _ _ _ hf) hd
      rw [← e2, ← itS_add, show 1 + (d + 1) = (d + 1) + 1 by omega] at this
      refine up (d + 1) (by omega) ?_
      have h0 : evS cs (itS cs t s 1) = evS cs s := by rw [e2]; rfl
      omega
    · refine up 0 (by omega) ?_
      show evS cs s < evS cs (itS cs t s 1)
      rw [e2]; exact hev.2 hb
theorem evS_le (cs : List Cl) (s : RSt) : evS cs s ≤ 2 * cs.length := by
  have := cnt_le s.on cs.length; have := cnt_le s.off cs.length; unfold evS; omega
theorem all_soon {cs : List Cl} (hc : ∀ i, i < cs.length → clOk (cs.getD i c0)) : ∀ (e : Nat) (t : Nat) (s : RSt), InvS cs s → 200 ≤ t → t + 17 * e ≤ 900 → 2 * cs.length ≤ evS cs s + e → dnS cs (itS cs t s (17 * e)) := by
  intro e
  induction e with
  | zero =>
    intro t s h ht ht2 he
    have h1 := cnt_le s.on cs.length; have h2 := cnt_le s.off cs.length
    unfold evS at he
    show dnS cs s
    unfold dnS
    omega
  | succ e ih =>
    intro t s h ht ht2 he
    by_cases hdn : dnS cs s
    · rw [itS_dn hdn]; exact hdn
    have hs := soon hc h ht (by omega) hdn
    have h1 := (itS_inv hc (t := t) h 17 (by omega)).1
    have := ih (t + 17) (itS cs t s 17) h1 (by omega) (by omega) (by omega)
    rw [← itS_add, show 17 + 17 * e = 17 * (e + 1) by omega] at this
    exact this
theorem inv0 (cs : List Cl) : InvS cs (runS cs 0) := by
  have hg : ∀ i, i < cs.length → (List.replicate cs.length (-1 : Int)).getD i 0 = -1 := fun i hi => by
    rw [List.getD_eq_getElem?_getD, List.getElem?_replicate, if_pos hi]; rfl
  refine ⟨by simp [runS], by simp [runS], fun i hi => ?_, fun i hi => ?_, fun i hi _ => ?_, by simp [runS], by simp [runS]⟩
  all_goals
    simp only [runS]
    rw [hg i hi]
    omega
theorem runS_inv {cs : List Cl} (hc : ∀ i, i < cs.length → clOk (cs.getD i c0)) (k : Nat) (hk : k ≤ 901) : InvS cs (runS cs k) := by
  have := (itS_inv hc (t := 0) (inv0 cs) k (by omega)).1
  rw [← runS_it, Nat.zero_add] at this
  exact this
/-- Everybody has left, so everybody has entered. -/
theorem all_left {cs : List Cl} (hc : ∀ i, i < cs.length → clOk (cs.getD i c0)) (hn : cs.length ≤ 12) : dnS cs (runS cs 901) ∧ ∀ i, i < cs.length → 0 ≤ (runS cs 901).on.getD i 0 := by
  have h1 := all_soon hc 24 200 (runS cs 200) (runS_inv hc 200 (by omega)) (by omega) (by omega) (by omega)
  have hd : dnS cs (runS cs 901) := by
    rw [show 901 = 200 + (17 * 24 + 293) by omega, runS_it, itS_add, itS_dn h1]
    exact h1
  refine ⟨hd, fun i hi => ?_⟩
  have hI := runS_inv hc 901 (by omega)
  have h2 := (cnt_all _).1 hd i hi
  apply Classical.byContradiction
  intro hx
  have := hI.both i hi (by omega)
  omega
end

section
set_option linter.unusedVariables false
set_option linter.unusedSimpArgs false

structure CarV where
  fl : Int
  hd : Int
  ld : Int
  op : Bool
def car0 : CarV := ⟨0, 0, 0, false⟩
def carOk (c : CarV) : Prop := 0 ≤ c.fl ∧ c.fl ≤ 15 ∧ (c.hd = -1 ∨ c.hd = 0 ∨ c.hd = 1) ∧ 0 ≤ c.ld ∧ c.ld ≤ 5 ∧ (c.op = true → c.hd = 0)
def goC (c : CarV) (h : Int) : Option CarV := if c.op = false ∧ c.ld ≠ 5 ∧ c.hd ≠ -h ∧ 0 ≤ c.fl + h ∧ c.fl + h ≤ 15 then some ⟨c.fl + h, h, c.ld, false⟩ else none
def stepC (c : CarV) (o : Nat) : Option CarV :=
  if o = 1 then goC c 1
  else if o = 2 then goC c (-1)
  else if o = 3 then (if c.op = false then some ⟨c.fl, 0, c.ld, false⟩ else none)
  else if o = 4 then (if c.op = false ∧ c.hd = 0 then some ⟨c.fl, 0, c.ld, true⟩ else none)
  else if o = 5 then (if c.op = true then some ⟨c.fl, 0, c.ld, false⟩ else none)
  else if o = 6 then (if c.op = true ∧ c.ld < 5 then some ⟨c.fl, 0, c.ld + 1, true⟩ else none)
  else if o = 7 then (if c.op = true ∧ 0 < c.ld then some ⟨c.fl, 0, c.ld - 1, true⟩ else none)
  else none
theorem stepC_ok {c d : CarV} {o : Nat} (h : carOk c) (hs : stepC c o = some d) : carOk d := by
  obtain ⟨h1, h2, h3, h4, h5, h6⟩ := h
  unfold stepC goC at hs
  unfold carOk
  repeat' (split at hs <;> try (cases hs; done))
  all_goals (cases hs; simp_all <;> omega)

theorem car0_ok : carOk car0 := by unfold carOk car0; simp

/-- Calls in order of their times, as both sides sort them. -/
def ltC (x y : Cl) : Bool := decide (x.2.2 < y.2.2)
def sortC (cs : List Cl) : List Cl := (Go.Sort.insertionSort ltC cs.toArray 0 cs.length).toList
def clsOk (cs : List Cl) : Prop := cs.length ≤ 12 ∧ ∀ c ∈ cs, clOk c
instance (c : Cl) : Decidable (clOk c) := by unfold clOk; exact inferInstance
instance (cs : List Cl) : Decidable (clsOk cs) := by unfold clsOk; exact inferInstance
theorem swoC : Go.Sort.SWO ltC := by
  refine ⟨fun x => ?_, fun x y z => ?_, fun x y z => ?_⟩
  all_goals (unfold ltC; simp)
  all_goals omega
theorem sortC_perm (cs : List Cl) : (sortC cs).Perm cs := by
  obtain ⟨⟨h1, h2, h3⟩, _⟩ := Go.Sort.insertionSort_holds (lt := ltC) swoC cs.toArray 0 cs.length (Nat.zero_le _) (by simp)
  have e1 : (Go.Sort.insertionSort ltC cs.toArray 0 cs.length).extract 0 cs.length = Go.Sort.insertionSort ltC cs.toArray 0 cs.length := by
    have : cs.length = (Go.Sort.insertionSort ltC cs.toArray 0 cs.length).size := by rw [h1]; simp
    conv => lhs; arg 3; rw [this]
    exact Array.extract_size
  have e2 : cs.toArray.extract 0 cs.length = cs.toArray := by
    have : cs.length = cs.toArray.size := by simp
    rw [this]; exact Array.extract_size
  rw [e1, e2] at h3
  exact h3
theorem sortC_len (cs : List Cl) : (sortC cs).length = cs.length := (sortC_perm cs).length_eq
theorem sortC_ok {cs : List Cl} (h : clsOk cs) : clsOk (sortC cs) := ⟨by rw [sortC_len]; exact h.1, fun c hc => h.2 c ((sortC_perm cs).mem_iff.1 hc)⟩
theorem clsOk_at {cs : List Cl} (h : clsOk cs) : ∀ i, i < cs.length → clOk (cs.getD i c0) := fun i hi => by
  rw [List.getD_eq_getElem?_getD, List.getElem?_eq_getElem hi]; exact h.2 _ (List.getElem_mem _)

/-- The sum of the waits of the first k. -/
def sumW (cs : List Cl) (on : List Int) : Nat → Int
  | 0 => 0
  | k + 1 => sumW cs on k + (on.getD k 0 - (cs.getD k c0).2.2)
/-- The same, where those that have not entered do not count. -/
def sumP (cs : List Cl) (on : List Int) : Nat → Int
  | 0 => 0
  | k + 1 => sumP cs on k + (if 0 ≤ on.getD k 0 then on.getD k 0 - (cs.getD k c0).2.2 else 0)
def totW (cs : List Cl) : Int := sumW (sortC cs) (runS (sortC cs) 901).on cs.length
theorem sumP_eq {cs : List Cl} {on : List Int} : ∀ k, (∀ i, i < k → 0 ≤ on.getD i 0) → sumP cs on k = sumW cs on k
  | 0, _ => rfl
  | k + 1, h => by
    unfold sumP sumW
    rw [sumP_eq k (fun i hi => h i (by omega)), if_pos (h k (by omega))]
/-- Nobody enters before the own time. -/
def Late (cs : List Cl) (s : RSt) : Prop := ∀ i, i < cs.length → 0 ≤ s.on.getD i 0 → (cs.getD i c0).2.2 ≤ s.on.getD i 0
theorem late_in (cs : List Cl) (t fl : Int) (off on : List Int) (h : ∀ i, i < cs.length → 0 ≤ on.getD i 0 → (cs.getD i c0).2.2 ≤ on.getD i 0) : ∀ k, k ≤ on.length → ∀ i, i < cs.length → 0 ≤ (inS cs t fl off on k).1.getD i 0 → (cs.getD i c0).2.2 ≤ (inS cs t fl off on k).1.getD i 0
  | 0, _ => h
  | k + 1, hk => by
    intro i hi
    have ih := late_in cs t fl off on h k (by omega) i hi
    unfold inS
    split
    · rename_i c
      simp only
      rw [getD_set' _ _ _ _ (by rw [inS_len]; omega)]
      by_cases e : i = k
      · subst e; rw [if_pos rfl]; exact fun _ => c.2.1
      · rw [if_neg e]; exact ih
    · exact ih
theorem late_step {cs : List Cl} {t : Int} {s : RSt} (hI : InvS cs s) (h : Late cs s) : Late cs (stepS cs t s) := by
  have h2 : Late cs (inT cs t (outT cs t s)) := late_in cs t s.fl _ s.on h cs.length (by rw [hI.lon]; exact Nat.le_refl _)
  unfold stepS
  split
  · exact h2
  · exact h2
theorem runS_late {cs : List Cl} (hc : ∀ i, i < cs.length → clOk (cs.getD i c0)) : ∀ k, k ≤ 901 → Late cs (runS cs k)
  | 0, _ => fun i hi h => by
    have := (inv0 cs).son i hi
    have e : (runS cs 0).on.getD i 0 = -1 := by
      show (List.replicate cs.length (-1 : Int)).getD i 0 = -1
      rw [List.getD_eq_getElem?_getD, List.getElem?_replicate, if_pos hi]; rfl
    omega
  | k + 1, hk => by
    have ih := runS_late hc k (by omega)
    unfold runS
    split
    · exact ih
    · exact late_step (runS_inv hc k (by omega)) ih
theorem sumW_bd {cs : List Cl} {on : List Int} (hc : ∀ i, i < cs.length → clOk (cs.getD i c0)) (h0 : ∀ i, i < cs.length → (cs.getD i c0).2.2 ≤ on.getD i 0 ∧ on.getD i 0 ≤ 900) : ∀ k, k ≤ cs.length → 0 ≤ sumW cs on k ∧ sumW cs on k ≤ 900 * k
  | 0, _ => by simp [sumW]
  | k + 1, hk => by
    have ih := sumW_bd hc h0 k (by omega)
    have h1 := h0 k (by omega)
    have h2 := hc k (by omega)
    unfold clOk at h2
    unfold sumW
    omega
theorem totW_bd {cs : List Cl} (h : clsOk cs) : 0 ≤ totW cs ∧ totW cs ≤ 10800 := by
  have hs := sortC_ok h
  have hl := sortC_len cs
  have hc := clsOk_at hs
  have ha := all_left hc hs.1
  have hL := runS_late hc 901 (Nat.le_refl _)
  have hI := runS_inv hc 901 (Nat.le_refl _)
  unfold totW
  have := sumW_bd (on := (runS (sortC cs) 901).on) hc (fun i hi => ⟨hL i hi (ha.2 i hi), (hI.son i hi).2⟩) cs.length (by omega)
  have := h.1
  omega
theorem totP {cs : List Cl} (h : clsOk cs) : sumP (sortC cs) (runS (sortC cs) 901).on cs.length = totW cs := by
  have hs := sortC_ok h
  have hl := sortC_len cs
  have ha := all_left (clsOk_at hs) hs.1
  exact sumP_eq _ (fun i hi => ha.2 i (by omega))

/-! ### Lines -/
def bUp : List UInt8 := [117, 112]
def bDown : List UInt8 := [100, 111, 119, 110]
def bStop : List UInt8 := [115, 116, 111, 112]
def bOpen : List UInt8 := [111, 112, 101, 110]
def bClose : List UInt8 := [99, 108, 111, 115, 101]
def bBoard : List UInt8 := [98, 111, 97, 114, 100]
def bLeave : List UInt8 := [108, 101, 97, 118, 101]
def bShow : List UInt8 := [115, 104, 111, 119]
def bWait : List UInt8 := [119, 97, 105, 116]
def bStages : List UInt8 := [115, 116, 97, 103, 101, 115]
def bPlan : List UInt8 := [112, 108, 97, 110, 32]
def bCall : List UInt8 := [99, 97, 108, 108]
def bOk : List UInt8 := [111, 107]
def bNo : List UInt8 := [110, 111]
def bWhat : List UInt8 := [119, 104, 97, 116]
def orderO (l : List UInt8) : Nat :=
  if l = bUp then 1 else if l = bDown then 2 else if l = bStop then 3 else if l = bOpen then 4 else if l = bClose then 5 else if l = bBoard then 6 else if l = bLeave then 7 else 0
structure SesV where
  car : CarV
  cl : List Cl
  st : List Stg
def ses0 : SesV := ⟨car0, [], []⟩
def stateT (c : CarV) : List UInt8 := if c.op = true then 32 :: bOpen else if c.hd = 1 then 32 :: bUp else if c.hd = -1 then 32 :: bDown else []
def showT (c : CarV) : List UInt8 := Lib.decDigits c.fl.toNat ++ stateT c ++ [32] ++ Lib.decDigits c.ld.toNat
def ordS (s : SesV) (o : Nat) : SesV × List UInt8 := match stepC s.car o with | some c => ({ s with car := c }, bOk) | none => (s, bNo)
def callS (s : SesV) (c : Cl) : SesV × List UInt8 := if clsOk (s.cl ++ [c]) then ({ s with cl := s.cl ++ [c] }, bOk) else (s, bNo)
def planS (s : SesV) (l : List UInt8) : SesV × List UInt8 := match parseO l with | some x => ({ s with st := x }, bOk) | none => (s, bNo)
def isCall (l : List UInt8) : Bool := decide ((words l).length = 4) && decide ((words l).getD 0 [] = bCall)
def callOf (l : List UInt8) : Cl := (pn ((words l).getD 1 []), pn ((words l).getD 2 []), pn ((words l).getD 3 []))
def lineS (s : SesV) (l : List UInt8) : SesV × List UInt8 :=
  if orderO l ≠ 0 then ordS s (orderO l)
  else if l = bShow then (s, showT s.car)
  else if l = bWait then (s, Lib.decDigits (totW s.cl).toNat)
  else if l = bStages then (s, fmtO s.st)
  else if l.take 5 = bPlan ∧ 5 < l.length then planS s (l.drop 5)
  else if isCall l = true then callS s (callOf l)
  else (s, bWhat)
def sesOk (s : SesV) : Prop := carOk s.car ∧ clsOk s.cl ∧ (s.st = [] ∨ okSt s.st = true)
theorem ses0_ok : sesOk ses0 := ⟨car0_ok, ⟨by simp [ses0], by simp [ses0]⟩, .inl rfl⟩
theorem lineS_ok {s : SesV} (h : sesOk s) (l : List UInt8) : sesOk (lineS s l).1 := by
  obtain ⟨h1, h2, h3⟩ := h
  unfold lineS
  split
  · unfold ordS
    split
    · rename_i c hc; exact ⟨stepC_ok h1 hc, h2, h3⟩
    · exact ⟨h1, h2, h3⟩
  · repeat' split
    all_goals first | exact ⟨h1, h2, h3⟩ | skip
    · unfold planS
      split
      · rename_i x hx
        obtain ⟨k1, k2, k3⟩ := (parse_spec _ _).2 hx
        exact ⟨h1, h2, .inr (by rw [k3]; exact k1)⟩
      · exact ⟨h1, h2, h3⟩
    · unfold callS
      split
      · rename_i hc; exact ⟨h1, hc, h3⟩
      · exact ⟨h1, h2, h3⟩

/-- The state behind lines, and what they print. -/
def runL (s : SesV) : List (List UInt8) → SesV × List UInt8
  | [] => (s, [])
  | l :: r => ((runL (lineS s l).1 r).1, (lineS s l).2 ++ 10 :: (runL (lineS s l).1 r).2)
def sesO (ls : List (List UInt8)) : List UInt8 := (runL ses0 (ls.take 30)).2
theorem runL_app (a b : List (List UInt8)) : ∀ s, runL s (a ++ b) = ((runL (runL s a).1 b).1, (runL s a).2 ++ (runL (runL s a).1 b).2) := by
  induction a with
  | nil => intro s; simp [runL]
  | cons l r ih => intro s; simp [runL, ih]
theorem runL_ok (ls : List (List UInt8)) : ∀ {s}, sesOk s → sesOk (runL s ls).1 := by
  induction ls with
  | nil => intro s h; exact h
  | cons l r ih => intro s h; exact ih (lineS_ok h l)
theorem runL_snoc (a : List (List UInt8)) (l : List UInt8) (s : SesV) : runL s (a ++ [l]) = ((lineS (runL s a).1 l).1, (runL s a).2 ++ (lineS (runL s a).1 l).2 ++ [10]) := by
  rw [runL_app]; simp [runL]
end

section
set_option linter.unusedVariables false
set_option linter.unusedSimpArgs false

theorem dig_no {n : Nat} {b : UInt8} (hb : isDg b = false) : b ∉ Lib.decDigits n := fun h => by
  have := List.all_eq_true.1 (dec_facts n).1 b h
  rw [hb] at this; cases this
theorem stT_no10 {st : Stg} (h : stOkT st = true) : (10 : UInt8) ∉ stT st := by
  obtain ⟨h1, h2, h3⟩ := stOkT_iff.1 h
  intro hm
  unfold stT at hm
  rcases List.mem_append.1 hm with e | e
  · have := mvT_all h1 10 e; simp at this
  · rcases List.mem_cons.1 e with e | e
    · simp at e
    · exact dig_no (by decide) e
theorem txt_no10 {ss : List Stg} (h : okSt ss = true) : ∀ k, k ≤ ss.length → (10 : UInt8) ∉ txt ss k
  | 0, _ => by simp [txt]
  | k + 1, hk => by
    have ih := txt_no10 h k (by omega)
    have hs := (okSt_iff.1 h).1 k (by omega)
    intro hm
    unfold txt at hm
    rcases List.mem_append.1 hm with e | e
    · rcases List.mem_append.1 e with e | e
      · exact ih e
      · unfold sepT at e; split at e <;> simp at e
    · exact stT_no10 hs e
theorem fmtO_no10 (ss : List Stg) : (10 : UInt8) ∉ fmtO ss := by
  unfold fmtO
  split
  · rename_i h; exact txt_no10 h _ (Nat.le_refl _)
  · simp
theorem fmtO_le (ss : List Stg) : (fmtO ss).length ≤ 105 := by
  unfold fmtO
  split
  · rename_i h
    have h1 := txt_len h ss.length (Nat.le_refl _)
    have h5 := (okSt_iff.1 h).2.2
    omega
  · simp
theorem stateT_facts (c : CarV) : (10 : UInt8) ∉ stateT c ∧ (stateT c).length ≤ 5 := by
  unfold stateT
  repeat' split
  all_goals decide
theorem lineS_facts {s : SesV} (h : sesOk s) (l : List UInt8) : (10 : UInt8) ∉ (lineS s l).2 ∧ (lineS s l).2.length ≤ 110 := by
  have hb : ∀ x : List UInt8, x = bOk ∨ x = bNo ∨ x = bWhat → (10 : UInt8) ∉ x ∧ x.length ≤ 110 := by
    rintro x (rfl | rfl | rfl) <;> decide
  obtain ⟨h1, h2, h3⟩ := h
  obtain ⟨c1, c2, c3, c4, c5, c6⟩ := h1
  unfold lineS
  repeat' split
  · unfold ordS; split
    · exact hb _ (.inl rfl)
    · exact hb _ (.inr (.inl rfl))
  · have hs := stateT_facts s.car
    have d1 := dec_len s.car.fl.toNat (by omega)
    have d2 := dec_len s.car.ld.toNat (by omega)
    refine ⟨fun hm => ?_, by unfold showT; simp only [List.length_append, List.length_cons, List.length_nil]; omega⟩
    unfold showT at hm
    simp only [List.mem_append] at hm
    rcases hm with ((hm | hm) | hm) | hm
    · exact dig_no (by decide) hm
    · exact hs.1 hm
    · simp at hm
    · exact dig_no (by decide) hm
  · have ht := totW_bd h2
    have d1 := dec_len (totW s.cl).toNat (by omega)
    exact ⟨dig_no (by decide), by simp only; omega⟩
  · have := fmtO_le s.st
    exact ⟨fmtO_no10 _, by simp only; omega⟩
  · unfold planS; split
    · exact hb _ (.inl rfl)
    · exact hb _ (.inr (.inl rfl))
  · unfold callS; split
    · exact hb _ (.inl rfl)
    · exact hb _ (.inr (.inl rfl))
  · exact hb _ (.inr (.inr rfl))
theorem runL_len (ls : List (List UInt8)) : ∀ {s}, sesOk s → (runL s ls).2.length ≤ 111 * ls.length := by
  induction ls with
  | nil => intro s h; simp [runL]
  | cons l r ih =>
    intro s h
    have h1 := (lineS_facts h l).2
    have h2 := ih (lineS_ok h l)
    show ((lineS s l).2 ++ 10 :: (runL (lineS s l).1 r).2).length ≤ _
    simp only [List.length_append, List.length_cons]
    omega

/-! Prefixes. -/
theorem sesO_pre (ls : List (List UInt8)) (n : Nat) : ∃ r, sesO ls = sesO (ls.take n) ++ r := by
  unfold sesO
  refine ⟨(runL (runL ses0 ((ls.take n).take 30)).1 ((ls.take 30).drop n)).2, ?_⟩
  have e : ls.take 30 = (ls.take n).take 30 ++ (ls.take 30).drop n := by
    rw [List.take_take, show min 30 n = min n 30 from Nat.min_comm _ _, ← List.take_take, List.take_append_drop]
  conv => lhs; rw [e]
  rw [runL_app]

/-! Questions. -/
def qOf (i : Nat) : List UInt8 := if i % 3 = 0 then bShow else if i % 3 = 1 then bStages else bWait
def moreO (i : Nat) : List (List UInt8) → List (List UInt8)
  | [] => []
  | l :: r => l :: qOf i :: moreO (i + 1) r
/-- The lines with an even number; cur: the line so far. -/
def keepO : List UInt8 → Nat → List UInt8 → List UInt8
  | [], _, _ => []
  | b :: r, k, cur => if b = 10 then (if k % 2 = 0 then cur ++ [10] else []) ++ keepO r (k + 1) [] else keepO r k (cur ++ [b])
theorem keep_line (rest : List UInt8) (k : Nat) : ∀ (x cur : List UInt8), (10 : UInt8) ∉ x → keepO (x ++ 10 :: rest) k cur = (if k % 2 = 0 then cur ++ x ++ [10] else []) ++ keepO rest (k + 1) []
  | [], cur, _ => by simp [keepO]
  | b :: x, cur, h => by
    have hb : b ≠ 10 := fun e => h (by simp [e])
    have ih := keep_line rest k x (cur ++ [b]) (fun e => h (List.mem_cons_of_mem _ e))
    show (if b = 10 then _ else keepO (x ++ 10 :: rest) k (cur ++ [b])) = _
    rw [if_neg hb, ih]
    simp
theorem qOf_same (s : SesV) (i : Nat) : (lineS s (qOf i)).1 = s := by
  unfold qOf lineS
  repeat' split
  all_goals first | rfl | simp_all [orderO, bShow, bStages, bWait, bUp, bDown, bStop, bOpen, bClose, bBoard, bLeave] | skip
  all_goals (exfalso; simp_all [bPlan, bShow, bStages, bWait, isCall]; done)
theorem keep_more : ∀ (ls : List (List UInt8)) (s : SesV) (i k : Nat), sesOk s → k % 2 = 0 → keepO (runL s (moreO i ls)).2 k [] = (runL s ls).2
  | [], s, i, k, _, _ => rfl
  | l :: r, s, i, k, h, hk => by
    have h1 := lineS_facts h l
    have h2 := lineS_facts (lineS_ok h l) (qOf i)
    have hq := qOf_same (lineS s l).1 i
    have ih := keep_more r (lineS s l).1 (i + 1) (k + 1 + 1) (lineS_ok h l) (by omega)
    show keepO ((lineS s l).2 ++ 10 :: ((lineS (lineS s l).1 (qOf i)).2 ++ 10 :: (runL (lineS (lineS s l).1 (qOf i)).1 (moreO (i + 1) r)).2)) k [] = (lineS s l).2 ++ 10 :: (runL (lineS s l).1 r).2
    rw [keep_line _ _ _ _ h1.1, if_pos hk, keep_line _ _ _ _ h2.1, if_neg (by omega), hq, ih]
    simp
theorem moreO_len (ls : List (List UInt8)) : ∀ i, (moreO i ls).length = 2 * ls.length := by
  induction ls with
  | nil => intro i; rfl
  | cons l r ih => intro i; show (l :: qOf i :: moreO (i + 1) r).length = _; simp [ih]; omega
theorem ses_questions (ls : List (List UInt8)) (h : 2 * ls.length ≤ 30) : keepO (sesO (moreO 0 ls)) 0 [] = sesO ls := by
  unfold sesO
  rw [List.take_of_length_le (by rw [moreO_len]; omega), List.take_of_length_le (by omega)]
  exact keep_more ls ses0 0 0 ses0_ok rfl

/-! Refused calls. -/
def bCall330 : List UInt8 := [99, 97, 108, 108, 32, 51, 32, 51, 32, 48]
theorem line_call330 (s : SesV) : lineS s bCall330 = (s, bNo) := by
  have h1 : orderO bCall330 = 0 := by decide
  have h2 : isCall bCall330 = true := by decide
  have h3 : callOf bCall330 = (3, 3, 0) := by decide
  unfold lineS
  rw [h1, if_neg (by simp), if_neg (by decide), if_neg (by decide), if_neg (by decide), if_neg (by decide), if_pos h2, h3]
  unfold callS
  rw [if_neg (fun h => by
    have := h.2 (3, 3, 0) (by simp)
    unfold clOk at this
    exact this.2.2.2.2.1 rfl)]
theorem ses_calls (ls : List (List UInt8)) (h : ls.length + 2 ≤ 30) : ∃ x, sesO (ls ++ [bWait]) = sesO ls ++ x ∧ sesO (ls ++ [bCall330, bWait]) = sesO ls ++ ([110, 111, 10] ++ x) := by
  unfold sesO
  have e1 : (ls ++ [bWait]).length ≤ 30 := by rw [List.length_append]; simp only [List.length_cons, List.length_nil]; omega
  have e2 : (ls ++ [bCall330, bWait]).length ≤ 30 := by rw [List.length_append]; simp only [List.length_cons, List.length_nil]; omega
  have e3 : ls.length ≤ 30 := by omega
  rw [List.take_of_length_le e1, List.take_of_length_le e2, List.take_of_length_le e3]
  refine ⟨_, by rw [runL_app], ?_⟩
  rw [runL_app]
  show _ ++ ((lineS (runL ses0 ls).1 bCall330).2 ++ 10 :: (runL (lineS (runL ses0 ls).1 bCall330).1 [bWait]).2) = _
  rw [line_call330]
  simp [bNo]

/-! Orders. -/
/-- How many orders are carried out. -/
def ranC (c : CarV) : List Nat → Nat
  | [] => 0
  | o :: r => match stepC c o with | some d => ranC d r + 1 | none => 0
theorem ranC_le : ∀ (os : List Nat) (c : CarV), ranC c os ≤ os.length
  | [], c => Nat.le_refl _
  | o :: r, c => by
    unfold ranC
    split
    · rename_i d _; have := ranC_le r d; simp; omega
    · simp
theorem ses_orders : ∀ (ls : List (List UInt8)) (s : SesV), (∀ l ∈ ls, orderO l ≠ 0) → ranC s.car (ls.map orderO) ≠ ls.length →
    3 * ranC s.car (ls.map orderO) + 3 ≤ (runL s ls).2.length ∧ ((runL s ls).2.drop (3 * ranC s.car (ls.map orderO))).take 3 = [110, 111, 10]
  | [], s, _, h => absurd rfl h
  | l :: r, s, ho, h => by
    have hl := ho l (by simp)
    have e : lineS s l = ordS s (orderO l) := by unfold lineS; rw [if_pos hl]
    show _ ≤ ((lineS s l).2 ++ 10 :: (runL (lineS s l).1 r).2).length ∧ List.take 3 (List.drop _ ((lineS s l).2 ++ 10 :: (runL (lineS s l).1 r).2)) = _
    rw [e]
    rw [List.map_cons] at h ⊢
    unfold ranC at h ⊢
    unfold ordS
    cases hs : stepC s.car (orderO l) with
    | none => simp [bNo]
    | some d =>
      rw [hs] at h
      simp only at h
      have ih := ses_orders r { s with car := d } (fun x hx => ho x (List.mem_cons_of_mem _ hx)) (fun x => h (by simp only at x; rw [x]; simp))
      simp only at ih ⊢
      obtain ⟨i1, i2⟩ := ih
      refine ⟨by simp [bOk]; omega, ?_⟩
      rw [← i2, show 3 * (ranC d (r.map orderO) + 1) = 3 * ranC d (r.map orderO) + 1 + 1 + 1 by omega]
      simp [bOk]
end

section
open Go.RowKit
set_option linter.unusedVariables false
set_option linter.unusedSimpArgs false

def clCells (c : Cl) : List Value := [.int .i64 c.1, .int .i64 c.2.1, .int .i64 c.2.2]
theorem clCells_len (c : Cl) : (clCells c).length = 3 := rfl
def Cls (w : World) (lo : Nat) (v : Value) (cs : List Cl) : Prop := Rd w lo v 3 cs.length (cs.flatMap clCells)
theorem Cls.spot {w : World} {lo : Nat} {es : List Cl} {ao : Option Addr} {len cap : Nat} (h : Cls w lo (.slice ao len cap) es) (hn : 0 < es.length) :
    ∃ b off, ao = some ⟨b, off, none⟩ ∧ lo ≤ b ∧ b < w.heap.size ∧ ∀ i, i < es.length → w.cell? ⟨b, off + i * 3, none⟩ = some (.int .i64 (es.getD i c0).1) ∧ w.cell? ⟨b, off + i * 3 + 1, none⟩ = some (.int .i64 (es.getD i c0).2.1) ∧ w.cell? ⟨b, off + i * 3 + 2, none⟩ = some (.int .i64 (es.getD i c0).2.2) := by
  obtain ⟨h1, ao', cap', h2, h3, h4, h5, h6⟩ := h
  cases h2
  obtain ⟨b, off, e, hb, hc⟩ := h6 hn
  have key : ∀ i j, i < es.length → j < 3 → w.cell? ⟨b, off + (i * 3 + j), none⟩ = (clCells (es.getD i c0))[j]? := by
    intro i j hi hj
    have hlt : i * 3 + j < (es.flatMap clCells).length := by rw [h1]; omega
    rw [hc (i * 3 + j) hlt, ← List.getElem?_eq_getElem hlt, flat_get clCells_len es i j hj]
    simp [hi]
  refine ⟨b, off, e, hb, World.block_lt_of_cell? w ⟨b, off + 0, none⟩ (hc 0 (by rw [h1]; omega)), fun i hi => ⟨?_, ?_, ?_⟩⟩
  · have := key i 0 hi (by omega); simpa [clCells] using this
  · have := key i 1 hi (by omega); simpa [clCells, Nat.add_assoc] using this
  · have := key i 2 hi (by omega); simpa [clCells, Nat.add_assoc] using this
theorem within_dec (a b c : Int) (v : Bool) (w : World) (h : (decide (b ≤ a) && decide (a ≤ c)) = v) :
    Calls Tryz.prog 50 #[.int .i64 a, .int .i64 b, .int .i64 c] w fun e w' => e = .returned (.bool v) ∧ w = w' := by
  rw [← h]; exact within_any a b c w
theorem inRange_dec (a b c : Int) (v : Bool) (w : World) (h : (decide (b ≤ a) && decide (a ≤ c)) = v) :
    Calls Tryz.prog 61 #[.int .i64 a, .int .i64 b, .int .i64 c] w fun e w' => e = .returned (.bool v) ∧ w = w' := by
  rw [← h]; exact inRange_any a b c w
theorem validFloor_dec (a : Int) (v : Bool) (w : World) (h : (decide (0 ≤ a) && decide (a ≤ 15)) = v) :
    Calls Tryz.prog 49 #[.int .i64 a] w fun e w' => e = .returned (.bool v) ∧ w = w' := by
  go_enter Tryz.func49, Tryz.ntmps49
  go_wp2_with (go_at_call 50; with_reducible refine (within_dec a 0 15 v _ h).mono ?_; rintro e' w2 ⟨rfl, rfl⟩)
  go_ret
  exact ⟨rfl, rfl⟩
theorem clOk_iff {f t m : Int} : clOk (f, t, m) ↔ (0 ≤ f ∧ f ≤ 15) ∧ (0 ≤ t ∧ t ≤ 15) ∧ f ≠ t ∧ (0 ≤ m ∧ m ≤ 200) := by
  unfold clOk; constructor
  · rintro ⟨a, b, c, d, e, g, h⟩; exact ⟨⟨a, b⟩, ⟨c, d⟩, e, ⟨g, h⟩⟩
  · rintro ⟨⟨a, b⟩, ⟨c, d⟩, e, ⟨g, h⟩⟩; exact ⟨a, b, c, d, e, g, h⟩

set_option maxHeartbeats 2000000 in
theorem impl_validCall (w : World) (f t m : Int) (r : Bool) (hr : r = decide (clOk (f, t, m))) :
    Calls Tryz.prog 70 #[.agg #[.int .i64 f, .int .i64 t, .int .i64 m]] w fun e w' => e = .returned (.bool r) ∧ Below w.heap.size w w' := by
  go_enter Tryz.func70, Tryz.ntmps70
  by_cases h1 : 0 ≤ f ∧ f ≤ 15
  · have d1 : (decide (0 ≤ f) && decide (f ≤ 15)) = true := by simp; omega
    by_cases h2 : 0 ≤ t ∧ t ≤ 15
    · have d2 : (decide (0 ≤ t) && decide (t ≤ 15)) = true := by simp; omega
      by_cases h3 : f = t
      · have d3 : (f != t) = false := by simp [h3]
        have HR : Hid (r = false) := by unfold Hid; rw [hr]; exact decide_eq_false (fun h => (clOk_iff.1 h).2.2.1 h3)
        clear h3 hr
        go_wp2_with (first
          | (go_at_call 49; with_reducible refine (validFloor_dec f true _ d1).mono ?_; rintro e' w2 ⟨rfl, rfl⟩)
          | (go_at_call 49; with_reducible refine (validFloor_dec t true _ d2).mono ?_; rintro e' w2 ⟨rfl, rfl⟩))
        go_ret
        exact ⟨by rw [HR.out]; rfl, (Below.refl _ _).alloc (Nat.le_refl _) _⟩
      · have d3 : (f != t) = true := by simp [h3]
        by_cases h4 : 0 ≤ m ∧ m ≤ 200
        · have d4 : (decide (0 ≤ m) && decide (m ≤ 200)) = true := by simp; omega
          have HR : Hid (r = true) := by unfold Hid; rw [hr]; exact decide_eq_true (clOk_iff.2 ⟨h1, h2, h3, h4⟩)
          clear h3 hr
          go_wp2_with (first
            | (go_at_call 49; with_reducible refine (validFloor_dec f true _ d1).mono ?_; rintro e' w2 ⟨rfl, rfl⟩)
            | (go_at_call 49; with_reducible refine (validFloor_dec t true _ d2).mono ?_; rintro e' w2 ⟨rfl, rfl⟩)
            | (go_at_call 50; with_reducible refine (within_dec m 0 200 true _ d4).mono ?_; rintro e' w2 ⟨rfl, rfl⟩))
          go_ret
          exact ⟨by rw [HR.out]; rfl, (Below.refl _ _).alloc (Nat.le_refl _) _⟩
        · have d4 : (decide (0 ≤ m) && decide (m ≤ 200)) = false := by simp; omega
          have HR : Hid (r = false) := by unfold Hid; rw [hr]; exact decide_eq_false (fun h => h4 (clOk_iff.1 h).2.2.2)
          clear h3 hr
          go_wp2_with (first
            | (go_at_call 49; with_reducible refine (validFloor_dec f true _ d1).mono ?_; rintro e' w2 ⟨rfl, rfl⟩)
            | (go_at_call 49; with_reducible refine (validFloor_dec t true _ d2).mono ?_; rintro e' w2 ⟨rfl, rfl⟩)
            | (go_at_call 50; with_reducible refine (within_dec m 0 200 false _ d4).mono ?_; rintro e' w2 ⟨rfl, rfl⟩))
          go_ret
          exact ⟨by rw [HR.out]; rfl, (Below.refl _ _).alloc (Nat.le_refl _) _⟩
    · have d2 : (decide (0 ≤ t) && decide (t ≤ 15)) = false := by simp; omega
      have HR : Hid (r = false) := by unfold Hid; rw [hr]; exact decide_eq_false (fun h => h2 (clOk_iff.1 h).2.1)
      clear hr
      go_wp2_with (first
        | (go_at_call 49; with_reducible refine (validFloor_dec f true _ d1).mono ?_; rintro e' w2 ⟨rfl, rfl⟩)
        | (go_at_call 49; with_reducible refine (validFloor_dec t false _ d2).mono ?_; rintro e' w2 ⟨rfl, rfl⟩))
      go_ret
      exact ⟨by rw [HR.out]; rfl, (Below.refl _ _).alloc (Nat.le_refl _) _⟩
  · have d1 : (decide (0 ≤ f) && decide (f ≤ 15)) = false := by simp; omega
    have HR : Hid (r = false) := by unfold Hid; rw [hr]; exact decide_eq_false (fun h => h1 (clOk_iff.1 h).1)
    clear hr
    go_wp2_with (go_at_call 49; with_reducible refine (validFloor_dec f false _ d1).mono ?_; rintro e' w2 ⟨rfl, rfl⟩)
    go_ret
    exact ⟨by rw [HR.out]; rfl, (Below.refl _ _).alloc (Nat.le_refl _) _⟩

set_option maxHeartbeats 2000000 in
theorem spec_validCall (w : World) (f t m : Int) (r : Bool) (hr : r = decide (clOk (f, t, m))) :
    Calls Tryz.prog 88 #[.agg #[.int .i64 f, .int .i64 t, .int .i64 m]] w fun e w' => e = .returned (.bool r) ∧ Below w.heap.size w w' := by
  go_enter Tryz.func88, Tryz.ntmps88
  by_cases h1 : 0 ≤ f ∧ f ≤ 15
  · have d1 : (decide (0 ≤ f) && decide (f ≤ 15)) = true := by simp; omega
    by_cases h2 : 0 ≤ t ∧ t ≤ 15
    · have d2 : (decide (0 ≤ t) && decide (t ≤ 15)) = true := by simp; omega
      by_cases h3 : f = t
      · have d3 : (f != t) = false := by simp [h3]
        have HR : Hid (r = false) := by unfold Hid; rw [hr]; exact decide_eq_false (fun h => (clOk_iff.1 h).2.2.1 h3)
        clear h3 hr
        go_wp2_with (first
          | (go_at_call 61; with_reducible refine (inRange_dec f 0 15 true _ d1).mono ?_; rintro e' w2 ⟨rfl, rfl⟩)
          | (go_at_call 61; with_reducible refine (inRange_dec t 0 15 true _ d2).mono ?_; rintro e' w2 ⟨rfl, rfl⟩))
        go_ret
        exact ⟨by rw [HR.out]; rfl, (Below.refl _ _).alloc (Nat.le_refl _) _⟩
      · have d3 : (f != t) = true := by simp [h3]
        by_cases h4 : 0 ≤ m ∧ m ≤ 200
        · have d4 : (decide (0 ≤ m) && decide (m ≤ 200)) = true := by simp; omega
          have HR : Hid (r = true) := by unfold Hid; rw [hr]; exact decide_eq_true (clOk_iff.2 ⟨h1, h2, h3, h4⟩)
          clear h3 hr
          go_wp2_with (first
            | (go_at_call 61; with_reducible refine (inRange_dec f 0 15 true _ d1).mono ?_; rintro e' w2 ⟨rfl, rfl⟩)
            | (go_at_call 61; with_reducible refine (inRange_dec t 0 15 true _ d2).mono ?_; rintro e' w2 ⟨rfl, rfl⟩)
            | (go_at_call 61; with_reducible refine (inRange_dec m 0 200 true _ d4).mono ?_; rintro e' w2 ⟨rfl, rfl⟩))
          go_ret
          exact ⟨by rw [HR.out]; rfl, (Below.refl _ _).alloc (Nat.le_refl _) _⟩
        · have d4 : (decide (0 ≤ m) && decide (m ≤ 200)) = false := by simp; omega
          have HR : Hid (r = false) := by unfold Hid; rw [hr]; exact decide_eq_false (fun h => h4 (clOk_iff.1 h).2.2.2)
          clear h3 hr
          go_wp2_with (first
            | (go_at_call 61; with_reducible refine (inRange_dec f 0 15 true _ d1).mono ?_; rintro e' w2 ⟨rfl, rfl⟩)
            | (go_at_call 61; with_reducible refine (inRange_dec t 0 15 true _ d2).mono ?_; rintro e' w2 ⟨rfl, rfl⟩)
            | (go_at_call 61; with_reducible refine (inRange_dec m 0 200 false _ d4).mono ?_; rintro e' w2 ⟨rfl, rfl⟩))
          go_ret
          exact ⟨by rw [HR.out]; rfl, (Below.refl _ _).alloc (Nat.le_refl _) _⟩
    · have d2 : (decide (0 ≤ t) && decide (t ≤ 15)) = false := by simp; omega
      have HR : Hid (r = false) := by unfold Hid; rw [hr]; exact decide_eq_false (fun h => h2 (clOk_iff.1 h).2.1)
      clear hr
      go_wp2_with (first
        | (go_at_call 61; with_reducible refine (inRange_dec f 0 15 true _ d1).mono ?_; rintro e' w2 ⟨rfl, rfl⟩)
        | (go_at_call 61; with_reducible refine (inRange_dec t 0 15 false _ d2).mono ?_; rintro e' w2 ⟨rfl, rfl⟩))
      go_ret
      exact ⟨by rw [HR.out]; rfl, (Below.refl _ _).alloc (Nat.le_refl _) _⟩
  · have d1 : (decide (0 ≤ f) && decide (f ≤ 15)) = false := by simp; omega
    have HR : Hid (r = false) := by unfold Hid; rw [hr]; exact decide_eq_false (fun h => h1 (clOk_iff.1 h).1)
    clear hr
    go_wp2_with (go_at_call 61; with_reducible refine (inRange_dec f 0 15 false _ d1).mono ?_; rintro e' w2 ⟨rfl, rfl⟩)
    go_ret
    exact ⟨by rw [HR.out]; rfl, (Below.refl _ _).alloc (Nat.le_refl _) _⟩

theorem clsOk_of {cs : List Cl} (h1 : cs.length ≤ 12) (h2 : ∀ j, j < cs.length → clOk (cs.getD j c0)) : clsOk cs := ⟨h1, fun c hc => by
  obtain ⟨i, hi, rfl⟩ := List.mem_iff_getElem.1 hc
  have := h2 i hi
  rw [List.getD_eq_getElem?_getD, List.getElem?_eq_getElem hi] at this; exact this⟩

set_option maxHeartbeats 4000000 in
theorem impl_validCalls (w : World) (lo : Nat) (v : Value) (cs : List Cl) (r : Bool) (hr : r = decide (clsOk cs)) (hv : Cls w lo v cs) :
    Calls Tryz.prog 54 #[v] w fun e w' => e = .returned (.bool r) ∧ Below w.heap.size w w' := by
  obtain ⟨ao, cap, rfl, hcap, hm⟩ := hv.form
  have HV := Lib.hid hv
  clear hv
  by_cases hl : 12 < cs.length
  · have d1 : (12 : Int) < (cs.length : Int) := by omega
    have HRR : Hid (r = false) := by unfold Hid; rw [hr]; exact decide_eq_false (fun h => by have := h.1; omega)
    clear hr
    go_enter Tryz.func54, Tryz.ntmps54
    go_wp2
    go_ret
    exact ⟨by rw [HRR.out]; rfl, Below.refl _ _⟩
  · have d1 : ¬ (12 : Int) < (cs.length : Int) := by omega
    go_enter Tryz.func54, Tryz.ntmps54
    go_wp2
    go_loopw [10] (fun i wo => ∃ k : Nat, k ≤ cs.length ∧ i = .int .i64 k ∧ Hid (∀ j, j < k → clOk (cs.getD j c0)) ∧ Below w.heap.size w wo) (fun i _ => cs.length - (intOf i).toNat)
    case atStart => exact ⟨0, Nat.zero_le _, rfl, fun j hj => by omega, Below.refl _ _⟩
    case round =>
      obtain ⟨k, hk, rfl, HA, hB⟩ := hrel
      have hsz := hB.size
      by_cases hlt : k < cs.length
      · have hkk : (k : Int) < (cs.length : Int) := by omega
        obtain ⟨b, off, rfl, _, hb1, hc⟩ := Cls.spot (Rd.below HV.out hB (Nat.le_refl _) (by decide)) (by omega)
        obtain ⟨s1, s2, s3⟩ := hc k hlt
        obtain ⟨x, hx⟩ : ∃ x, x = cs.getD k c0 := ⟨_, rfl⟩
        rw [← hx] at s1 s2 s3
        have HX := Lib.hid hx
        obtain ⟨xf, xt, xm⟩ := x
        simp only at s1 s2 s3
        clear hc hx
        by_cases hok : clOk (xf, xt, xm)
        · have HD : Hid (true = decide (clOk (xf, xt, xm))) := (decide_eq_true hok).symm
          clear hok
          go_wp2_with (go_at_call 70; refine (impl_validCall _ xf xt xm true HD.out).mono ?_; rintro e' w2 ⟨rfl, hB2⟩; have HB2 := Lib.hid hB2; clear hB2)
          go_roundw
          case rel => exact ⟨k + 1, by omega, by go_num, fun j hj => by
            by_cases h : j = k
            · subst h; rw [← HX.out]; exact of_decide_eq_true HD.out.symm
            · exact HA.out j (by omega), hB.trans ((((Below.refl _ _).alloc (Nat.le_refl _) _).trans (HB2.out.mono (by simp))).mono hB.size)⟩
          case measure => simp [intOf]; omega
        · have HD : Hid (false = decide (clOk (xf, xt, xm))) := (decide_eq_false hok).symm
          have HRR : Hid (r = false) := by
            unfold Hid; rw [hr]
            refine decide_eq_false (fun h => hok ?_)
            have := clsOk_at h k hlt
            rw [← HX.out] at this; exact this
          clear hok hr
          go_wp2_with (go_at_call 70; refine (impl_validCall _ xf xt xm false HD.out).mono ?_; rintro e' w2 ⟨rfl, hB2⟩; have HB2 := Lib.hid hB2; clear hB2)
          go_ret
          exact ⟨by rw [HRR.out]; rfl, hB.trans ((((Below.refl _ _).alloc (Nat.le_refl _) _).trans (HB2.out.mono (by simp))).mono hB.size)⟩
      · have hkk : ¬ (k : Int) < (cs.length : Int) := by omega
        have HRR : Hid (r = true) := by unfold Hid; rw [hr]; exact decide_eq_true (clsOk_of (by omega) (fun j hj => HA.out j (by omega)))
        clear hr
        go_wp2
        go_ret
        exact ⟨by rw [HRR.out]; rfl, hB⟩

set_option maxHeartbeats 4000000 in
theorem spec_validCalls (w : World) (lo : Nat) (v : Value) (cs : List Cl) (r : Bool) (hr : r = decide (clsOk cs)) (hv : Cls w lo v cs) :
    Calls Tryz.prog 63 #[v] w fun e w' => e = .returned (.bool r) ∧ Below w.heap.size w w' := by
  obtain ⟨ao, cap, rfl, hcap, hm⟩ := hv.form
  have HV := Lib.hid hv
  clear hv
  have hgo : True := trivial
  cases hgo with
  | intro =>
    go_enter Tryz.func63, Tryz.ntmps63
    go_wp2
    go_loopw [3] (fun i wo => ∃ k : Nat, k ≤ cs.length ∧ i = .int .i64 k ∧ Hid (∀ j, j < k → clOk (cs.getD j c0)) ∧ Below w.heap.size w wo) (fun i _ => cs.length - (intOf i).toNat)
    case atStart => exact ⟨0, Nat.zero_le _, rfl, fun j hj => by omega, Below.refl _ _⟩
    case round =>
      obtain ⟨k, hk, rfl, HA, hB⟩ := hrel
      have hsz := hB.size
      by_cases hlt : k < cs.length
      · have hkk : (k : Int) < (cs.length : Int) := by omega
        obtain ⟨b, off, rfl, _, hb1, hc⟩ := Cls.spot (Rd.below HV.out hB (Nat.le_refl _) (by decide)) (by omega)
        obtain ⟨s1, s2, s3⟩ := hc k hlt
        obtain ⟨x, hx⟩ : ∃ x, x = cs.getD k c0 := ⟨_, rfl⟩
        rw [← hx] at s1 s2 s3
        have HX := Lib.hid hx
        obtain ⟨xf, xt, xm⟩ := x
        simp only at s1 s2 s3
        clear hc hx
        by_cases hok : clOk (xf, xt, xm)
        · have HD : Hid (true = decide (clOk (xf, xt, xm))) := (decide_eq_true hok).symm
          clear hok
          go_wp2_with (go_at_call 88; refine (spec_validCall _ xf xt xm true HD.out).mono ?_; rintro e' w2 ⟨rfl, hB2⟩; have HB2 := Lib.hid hB2; clear hB2)
          go_roundw
          case rel => exact ⟨k + 1, by omega, by go_num, fun j hj => by
            by_cases h : j = k
            · subst h; rw [← HX.out]; exact of_decide_eq_true HD.out.symm
            · exact HA.out j (by omega), hB.trans (HB2.out.mono hB.size)⟩
          case measure => simp [intOf]; omega
        · have HD : Hid (false = decide (clOk (xf, xt, xm))) := (decide_eq_false hok).symm
          have HRR : Hid (r = false) := by
            unfold Hid; rw [hr]
            refine decide_eq_false (fun h => hok ?_)
            have := clsOk_at h k hlt
            rw [← HX.out] at this; exact this
          clear hok hr
          go_wp2_with (go_at_call 88; refine (spec_validCall _ xf xt xm false HD.out).mono ?_; rintro e' w2 ⟨rfl, hB2⟩; have HB2 := Lib.hid hB2; clear hB2)
          go_ret
          exact ⟨by rw [HRR.out]; rfl, hB.trans (HB2.out.mono hB.size)⟩
      · have hkk : ¬ (k : Int) < (cs.length : Int) := by omega
        by_cases hl : 12 < cs.length
        · have d1 : decide ((cs.length : Int) ≤ 12) = false := by simp; omega
          have d2 : ¬ (cs.length : Int) ≤ 12 := by omega
          have HRR : Hid (r = false) := by unfold Hid; rw [hr]; exact decide_eq_false (fun h => by have := h.1; omega)
          clear hr
          go_wp2
          go_ret
          exact ⟨by rw [HRR.out]; rfl, hB⟩
        · have d1 : (cs.length : Int) ≤ 12 := by omega
          have HRR : Hid (r = true) := by unfold Hid; rw [hr]; exact decide_eq_true (clsOk_of (by omega) (fun j hj => HA.out j (by omega)))
          clear hr
          go_wp2
          go_ret
          exact ⟨by rw [HRR.out]; rfl, hB⟩
end

section
open Go.RowKit

theorem toInt_any (b : Bool) (w : World) : Calls Tryz.prog 111 #[.bool b] w fun e w' => e = .returned (.int .i64 (b2i b)) ∧ w = w' := by
  cases b
  all_goals
    go_enter Tryz.func111, Tryz.ntmps111
    go_wp2
    go_ret
    exact ⟨rfl, rfl⟩
end

section
set_option linter.unusedVariables false
set_option linter.unusedSimpArgs false

theorem insd_congr {on off on' off' : List Int} : ∀ n, (∀ i, i < n → ((0 ≤ on.getD i 0 ∧ off.getD i 0 < 0) ↔ (0 ≤ on'.getD i 0 ∧ off'.getD i 0 < 0))) → insd on off n = insd on' off' n
  | 0, _ => rfl
  | n + 1, h => by
    unfold insd
    rw [insd_congr n (fun i hi => h i (by omega))]
    have := h n (by omega)
    by_cases e : 0 ≤ on.getD n 0 ∧ off.getD n 0 < 0
    · rw [if_pos e, if_pos (this.1 e)]
    · rw [if_neg e, if_neg (fun x => e (this.2 x))]
theorem insd_out {on off : List Int} {k : Nat} {t : Int} (hk : k < off.length) (h1 : 0 ≤ on.getD k 0) (h2 : off.getD k 0 < 0) (ht : 0 ≤ t) : ∀ n, k < n → insd on (off.set k t) n + 1 = insd on off n
  | 0, h => by omega
  | n + 1, h => by
    unfold insd
    by_cases e : k = n
    · subst e
      rw [getD_set' _ _ _ _ hk, if_pos rfl, if_neg (show ¬ (0 ≤ on.getD k 0 ∧ t < 0) by omega), if_pos ⟨h1, h2⟩, insd_congr (on := on) (off := off.set k t) (on' := on) (off' := off) k (fun i hi => by rw [getD_set' _ _ _ _ hk, if_neg (by omega)])]
    · have ih := insd_out hk h1 h2 ht n (by omega)
      rw [getD_set' _ _ _ _ hk, if_neg (show ¬ n = k by omega)]
      omega
theorem insd_in {on off : List Int} {k : Nat} {t : Int} (hk : k < on.length) (h1 : on.getD k 0 < 0) (h2 : off.getD k 0 < 0) (ht : 0 ≤ t) : ∀ n, k < n → insd (on.set k t) off n = insd on off n + 1
  | 0, h => by omega
  | n + 1, h => by
    unfold insd
    by_cases e : k = n
    · subst e
      rw [getD_set' _ _ _ _ hk, if_pos rfl, if_pos ⟨ht, h2⟩, if_neg (show ¬ (0 ≤ on.getD k 0 ∧ off.getD k 0 < 0) by omega), insd_congr (on := on.set k t) (off := off) (on' := on) (off' := off) k (fun i hi => by rw [getD_set' _ _ _ _ hk, if_neg (by omega)])]
    · have ih := insd_in hk h1 h2 ht n (by omega)
      rw [getD_set' _ _ _ _ hk, if_neg (show ¬ n = k by omega)]
      omega
theorem cnt_set {off : List Int} {k : Nat} {t : Int} (hk : k < off.length) (h2 : off.getD k 0 < 0) (ht : 0 ≤ t) : ∀ n, k < n → cnt (off.set k t) n = cnt off n + 1
  | 0, h => by omega
  | n + 1, h => by
    unfold cnt
    by_cases e : k = n
    · subst e
      rw [getD_set' _ _ _ _ hk, if_pos rfl, if_pos ht, if_neg (show ¬ 0 ≤ off.getD k 0 by omega), cnt_congr (l := off.set k t) (l' := off) k (fun i hi => by rw [getD_set' _ _ _ _ hk, if_neg (by omega)])]
    · have ih := cnt_set hk h2 ht n (by omega)
      rw [getD_set' _ _ _ _ hk, if_neg (show ¬ n = k by omega)]
      omega
theorem insd_le (on off : List Int) : ∀ k, insd on off k ≤ k
  | 0 => Nat.le_refl _
  | k + 1 => by have := insd_le on off k; unfold insd; split <;> omega
theorem runS_dn {cs : List Cl} {k : Nat} (h : dnS cs (runS cs k)) : ∀ j, runS cs (k + j) = runS cs k
  | 0 => rfl
  | j + 1 => by
    have ih := runS_dn h j
    show (if dnS cs (runS cs (k + j)) then runS cs (k + j) else _) = _
    rw [ih, if_pos h]
theorem runS_end {cs : List Cl} {k : Nat} (hk : k ≤ 901) (h : dnS cs (runS cs k)) : runS cs 901 = runS cs k := by
  have := runS_dn h (901 - k)
  rwa [show k + (901 - k) = 901 by omega] at this
theorem runS_go {cs : List Cl} {k : Nat} (h : ¬ dnS cs (runS cs k)) : runS cs (k + 1) = stepS cs k (runS cs k) := by
  show (if dnS cs (runS cs k) then _ else _) = _
  rw [if_neg h]
/-- Somebody has not left: a time is -1. -/
theorem dn_iff {cs : List Cl} {s : RSt} (h : InvS cs s) : dnS cs s ↔ ¬ (-1 : Int) ∈ s.off := by
  unfold dnS
  rw [cnt_all]
  constructor
  · intro hx hm
    obtain ⟨i, hi, e⟩ := List.mem_iff_getElem.1 hm
    have h1 := hx i (by rw [← h.lof]; exact hi)
    rw [List.getD_eq_getElem?_getD, List.getElem?_eq_getElem hi, Option.getD_some, e] at h1
    omega
  · intro hx i hi
    rcases (h.sof i hi).1 with e | e
    · refine absurd ?_ hx
      rw [← e, List.getD_eq_getElem?_getD, List.getElem?_eq_getElem (by rw [h.lof]; exact hi)]
      exact List.getElem_mem _
    · exact e
theorem ahd_app (a b : List Int) (fl hd : Int) : ahd (a ++ b) fl hd = (ahd a fl hd || ahd b fl hd) := by unfold ahd; rw [List.any_append]
theorem ahd_one (f fl hd : Int) : ahd [f] fl hd = decide (0 < (f - fl) * hd) := by unfold ahd; simp
theorem ahd_nil (fl hd : Int) : ahd [] fl hd = false := rfl
theorem tg_len (cs : List Cl) (t : Int) (on off : List Int) : ∀ k, (tg cs t on off k).length ≤ k
  | 0 => Nat.le_refl _
  | k + 1 => by
    have := tg_len cs t on off k
    unfold tg
    rw [List.length_append]
    split
    · simp; omega
    · split
      · simp; omega
      · simp; omega
end

section
open Go.RowKit
set_option linter.unusedVariables false
set_option linter.unusedSimpArgs false

def cdf (d : Array Cl) : List Value := d.toList.flatMap clCells
theorem cdf_len (d : Array Cl) : (cdf d).length = d.size * 3 := by unfold cdf; rw [flat_len clCells_len]; simp
theorem cl_set (e : Cl) : ∀ (es : List Cl) (j : Nat), (((es.flatMap clCells).set (j * 3) (.int .i64 e.1)).set (j * 3 + 1) (.int .i64 e.2.1)).set (j * 3 + 2) (.int .i64 e.2.2) = (es.set j e).flatMap clCells := by
  intro es
  induction es with
  | nil => intro j; simp
  | cons x r ih =>
    intro j
    cases j with
    | zero => simp [clCells, List.flatMap_cons]
    | succ j =>
      have e1 : (j + 1) * 3 = j * 3 + 1 + 1 + 1 := by omega
      have e3 : j * 3 + 1 + 1 + 1 + 2 = j * 3 + 2 + 1 + 1 + 1 := by omega
      rw [e1, e3]
      have := ih j
      simp only [List.flatMap_cons, clCells, List.cons_append, List.nil_append, List.set_cons_succ] at this ⊢
      rw [← this]
theorem cdf_set (d : Array Cl) (j : Nat) (e : Cl) : (((cdf d).set (j * 3) (.int .i64 e.1)).set (j * 3 + 1) (.int .i64 e.2.1)).set (j * 3 + 2) (.int .i64 e.2.2) = cdf (d.setIfInBounds j e) := by
  unfold cdf
  rw [cl_set, Array.toList_setIfInBounds]
theorem info_call : (Tryz.prog.info? 73).map (fun i => (i.zero, i.size, i.bytes)) = some (some (.agg #[.int .i64 0, .int .i64 0, .int .i64 0]), 3, 24) := by kernel_rfl
def OwnC (w : World) (lo : Nat) (g n cap : Nat) (d : Array Cl) : Prop := d.size = n ∧ Own w lo 73 3 (.slice (some ⟨g, 0, none⟩) n cap) n (cdf d)
theorem OwnC.at {w : World} {lo g n cap : Nat} {d : Array Cl} (h : OwnC w lo g n cap d) {i : Nat} (hi : i < n) :
    g < w.heap.size ∧ lo ≤ g ∧ w.cell? ⟨g, i * 3, none⟩ = some (.int .i64 (d[i]!).1) ∧ w.cell? ⟨g, i * 3 + 1, none⟩ = some (.int .i64 (d[i]!).2.1) ∧ w.cell? ⟨g, i * 3 + 2, none⟩ = some (.int .i64 (d[i]!).2.2) ∧ (∀ j, w.frozen? ⟨g, j, none⟩ = false) := by
  obtain ⟨hs, hO⟩ := h
  obtain ⟨g', e1, hlo, hg, hc, hf, _⟩ := hO.parts (by omega)
  cases e1
  have key : ∀ j, j < 3 → w.cell? ⟨g, i * 3 + j, none⟩ = (clCells d[i]!)[j]? := by
    intro j hj
    have hlt : i * 3 + j < (cdf d).length := by rw [cdf_len]; omega
    rw [hc _ hlt, ← List.getElem?_eq_getElem hlt]
    unfold cdf
    rw [flat_get clCells_len d.toList i j hj]
    simp [hs, hi]
  refine ⟨hg, hlo, ?_, ?_, ?_, hf⟩
  · exact key 0 (by omega)
  · exact key 1 (by omega)
  · exact key 2 (by omega)
theorem OwnC.put {w : World} {lo g n cap : Nat} {d : Array Cl} (h : OwnC w lo g n cap d) (hn : 0 < n) (i : Nat) (e : Cl) :
    OwnC (((w.setCell ⟨g, i * 3, none⟩ (.int .i64 e.1)).setCell ⟨g, i * 3 + 1, none⟩ (.int .i64 e.2.1)).setCell ⟨g, i * 3 + 2, none⟩ (.int .i64 e.2.2)) lo g n cap (d.setIfInBounds i e) ∧ w.grownBy (((w.setCell ⟨g, i * 3, none⟩ (.int .i64 e.1)).setCell ⟨g, i * 3 + 1, none⟩ (.int .i64 e.2.1)).setCell ⟨g, i * 3 + 2, none⟩ (.int .i64 e.2.2)) (some g) := by
  obtain ⟨hs, hO⟩ := h
  obtain ⟨h1, g1⟩ := hO.store hn (i * 3) (.int .i64 e.1)
  obtain ⟨h2, g2⟩ := h1.store hn (i * 3 + 1) (.int .i64 e.2.1)
  obtain ⟨h3, g3⟩ := h2.store hn (i * 3 + 2) (.int .i64 e.2.2)
  rw [cdf_set] at h3
  exact ⟨⟨by simp [hs], h3⟩, grownBy_trans (grownBy_trans g1 g2 (fun x hx => .inl hx)) g3 (fun x hx => .inl hx)⟩
theorem OwnC.drewN {w : World} {lo g n cap : Nat} {d : Array Cl} (h : OwnC w lo g n cap d) (m : Nat) : OwnC (w.drewN m) lo g n cap d := ⟨h.1, h.2.drewN m⟩
theorem OwnC.grown {w w' : World} {lo g n cap : Nat} {d : Array Cl} {row : Option Nat} (h : OwnC w lo g n cap d) (hg : w.grownBy w' row) (hr : ∀ k, row = some k → k ≠ g) : OwnC w' lo g n cap d :=
  ⟨h.1, h.2.grown hg (fun k hk => .inr (fun e => hr k hk (Option.some.inj e).symm))⟩
theorem swp_set {d : Array Cl} {j : Nat} (hj : j + 1 < d.size) : (d.setIfInBounds (j + 1) d[j]!).setIfInBounds j d[j + 1]! = Go.Sort.swp d (j + 1) j := rfl

theorem sortC_nil : sortC [] = [] := List.perm_nil.1 (sortC_perm [])
def SortRet (w : World) (cs : List Cl) (e : Ending) (w' : World) : Prop :=
  ∃ v', e = .returned v' ∧ Own w' w.heap.size 73 3 v' cs.length ((sortC cs).flatMap clCells) ∧ Below w.heap.size w w'

set_option maxRecDepth 100000 in
set_option maxHeartbeats 16000000 in
theorem spec_sortCalls (w : World) (v : Value) (cs : List Cl) (hv : Cls w 0 v cs) (hn : cs.length ≤ 1000) :
    Calls Tryz.prog 64 #[v] w (SortRet w cs) := by
  obtain ⟨ao, cap, rfl, hcap, hm⟩ := hv.form
  have hO := Own.made w [] 73 w.heap.size 3 0 rfl (Nat.le_refl _) (by decide)
  have hB : Below w.heap.size w (w.alloc (.cells #[] 73)) := (Below.refl _ _).alloc (Nat.le_refl _) _
  have hv1 := Rd.below hv hB (Nat.le_refl _) (by decide)
  have hsz := hB.size
  clear hv
  go_enter Tryz.func64, Tryz.ntmps64
  go_wp2_with (at_builtin; refine wpList_append_Own _ rfl _ _ 41 rfl 73 (.agg #[.int .i64 0, .int .i64 0, .int .i64 0]) 3 24 Tryz.underlying41 info_call rfl (by omega) w.heap.size _ _ _ rfl hO _ 0 cs.length _ rfl hv1 (by
    intro u hu
    obtain ⟨c, _, hc⟩ := List.mem_flatMap.1 hu
    simp [clCells] at hc
    rcases hc with rfl | rfl | rfl <;> rfl) (by unfold maxLen; omega) (by omega) hsz ?_; intro v' w2 hO2 hg2 _)
  have hB2 := hB.trans (below_of_grownBy hg2 hsz (fun k hk => (hO.wblk hk).1))
  clear hg2 hO hB hv1
  simp only [Nat.zero_add, List.nil_append] at hO2
  obtain ⟨ao2, cap2, rfl, hc2, hm2⟩ := hO2.form
  by_cases hn0 : cs.length = 0
  · have h0 : cs = [] := List.eq_nil_of_length_eq_zero hn0
    subst h0
    have hF : SortRet w [] (.returned (.slice ao2 0 cap2)) w2 := ⟨_, rfl, by rw [sortC_nil]; exact hO2, hB2⟩
    have HF := Lib.hid hF
    clear hF hn0
    go_wp2_with fail
    go_loopw [4] (fun vi W => vi = .int .i64 1 ∧ W = w2) (fun _ _ => 0)
    case atStart => exact ⟨rfl, rfl⟩
    case round =>
      obtain ⟨rfl, rfl⟩ := hrel
      go_wp2_with fail
      go_ret
      exact HF.out
  obtain ⟨g, e1, hlo, hg, _, _, _⟩ := hO2.parts (by omega)
  cases e1
  obtain ⟨d0, hd0⟩ : ∃ d0 : Array Cl, d0 = cs.toArray := ⟨_, rfl⟩
  obtain ⟨n, hnn⟩ : ∃ n, n = cs.length := ⟨_, rfl⟩
  have hC : OwnC w2 w.heap.size g n cap2 d0 := ⟨by rw [hd0, hnn]; simp, by rw [hd0, hnn]; exact hO2⟩
  have HFIN : Hid (∀ (dk : Array Cl) (W : World), OwnC W w.heap.size g n cap2 dk → dk = Go.Sort.insOuter ltC 0 n 1 d0 → Below w.heap.size w W → SortRet w cs (.returned (.slice (some ⟨g, 0, none⟩) n cap2)) W) := by
    intro dk W h1 h2 h3
    refine ⟨_, rfl, ?_, h3⟩
    rw [← hnn]
    have : (sortC cs).flatMap clCells = cdf dk := by rw [h2, hd0, hnn]; rfl
    rw [this]
    exact h1.2
  rw [← hnn] at hn hn0 ⊢
  clear hO2 hd0 hnn
  go_wp2_with fail
  go_loopw [4] (fun vi W => ∃ (i : Nat) (dk : Array Cl), vi = .int .i64 i ∧ 1 ≤ i ∧ i ≤ n ∧ OwnC W w.heap.size g n cap2 dk ∧ Hid (Go.Sort.insOuter ltC 0 n i dk = Go.Sort.insOuter ltC 0 n 1 d0) ∧ Below w.heap.size w W) (fun vi _ => n - (intOf vi).toNat)
  case atStart => exact ⟨1, d0, rfl, Nat.le_refl _, by omega, hC, rfl, hB2⟩
  case round =>
    clear hC hB2
    obtain ⟨i, dk, rfl, hi1, hin, hC, HO, hB⟩ := hrel
    by_cases hlt : i < n
    · have hltz : (i : Int) < (n : Int) := by omega
      go_wp2_with fail
      go_loopw [5] (fun vk W => ∃ (k : Nat) (dj : Array Cl), vk = .int .i64 k ∧ k ≤ i ∧ OwnC W w.heap.size g n cap2 dj ∧ Hid (Go.Sort.insInner ltC 0 k dj = Go.Sort.insInner ltC 0 i dk) ∧ Below w.heap.size w W) (fun vk _ => (intOf vk).toNat)
      case atStart => exact ⟨i, dk, rfl, Nat.le_refl _, hC, rfl, hB⟩
      case round =>
        clear hC hB
        obtain ⟨k, dj, rfl, hki, hC, HI, hB⟩ := hrel
        have hsz2 := hB.size
        have OUT : Hid ((k ≤ 0 ∨ ltC dj[k]! dj[k - 1]! = false) → Hid (Go.Sort.insOuter ltC 0 n (i + 1) dj = Go.Sort.insOuter ltC 0 n 1 d0)) := fun hs => by
          show _ = _
          rw [← HO.out, Go.Proofs.insOuter_go _ _ _ _ _ hlt, ← HI.out, Go.Proofs.insInner_stop _ _ _ _ hs]
        by_cases hk0 : k = 0
        · subst hk0
          have HE := OUT.out (.inl (Nat.le_refl _))
          clear OUT HI HO
          go_wp2_with fail
          go_quiet (fail)
          go_wp2
          go_roundw
          case rel => exact ⟨i + 1, dj, by go_num, by omega, by omega, hC.drewN _, HE.out, below_drewN hB _⟩
          case measure => simp [intOf]; omega
        · have hkz : (0 : Int) < (k : Int) := by omega
          obtain ⟨q, hq⟩ : ∃ q, q + 1 = k := ⟨k - 1, by omega⟩
          have hq1 : k - 1 = q := by omega
          rw [hq1] at OUT
          have hwr : IntKind.i64.wrap ((k : Int) - 1) = (q : Int) := by rw [IntWalk.i64_in _ (by omega)]; omega
          have hkN : 0 < k := by omega
          have hqk : q < k := by omega
          have dkN : decide (0 < k) = true := decide_eq_true hkN
          have hkn : (k : Int) < (n : Int) := by omega
          have hqn : (q : Int) < (n : Int) := by omega
          obtain ⟨hgl, hgb, a1, a2, a3, hf⟩ := hC.at (i := k) (by omega)
          obtain ⟨_, _, b1, b2, b3, _⟩ := hC.at (i := q) (by omega)
          have HST : Hid (ltC dj[k]! dj[q]! = true → Go.Sort.insInner ltC 0 k dj = Go.Sort.insInner ltC 0 q (Go.Sort.swp dj k q)) := fun h => by
            have := Go.Proofs.insInner_go ltC 0 k dj (by omega) (by rw [hq1]; exact h)
            rw [hq1] at this; exact this
          have HPUT : Hid (∀ W, OwnC W w.heap.size g n cap2 dj → OwnC W w.heap.size g n cap2 dj) := fun W h => h
          obtain ⟨x, hx⟩ : ∃ x, x = dj[k]! := ⟨_, rfl⟩
          obtain ⟨y, hy⟩ : ∃ y, y = dj[q]! := ⟨_, rfl⟩
          have HSW : Hid ((dj.setIfInBounds k y).setIfInBounds q x = Go.Sort.swp dj k q) := by rw [hx, hy]; rfl
          rw [← hx] at a1 a2 a3 HST OUT
          rw [← hy] at b1 b2 b3 HST OUT
          have HX := Lib.hid hx
          have HY := Lib.hid hy
          clear hx hy HPUT
          obtain ⟨xf, xt, xm⟩ := x
          obtain ⟨yf, yt, ym⟩ := y
          simp only at a1 a2 a3 b1 b2 b3
          have HLT : Hid (ltC (xf, xt, xm) (yf, yt, ym) = decide (xm < ym)) := rfl
          by_cases hlt2 : xm < ym
          · have HS2 := Lib.hid (HST.out (by rw [HLT.out]; exact decide_eq_true hlt2))
            clear OUT HST HLT
            have HC := Lib.hid hC
            clear hC
            go_wp2_with fail
            go_quiet (fail)
            have m0 : ¬ q = k := by omega
            have mm0 : ¬ k = q := by omega
            have m1 : ¬ q * 3 = k * 3 := by omega
            have m2 : ¬ k * 3 = q * 3 := by omega
            have m3 : ¬ q * 3 = k * 3 + 1 := by omega
            have m4 : ¬ k * 3 + 1 = q * 3 := by omega
            have m5 : ¬ q * 3 = k * 3 + 2 := by omega
            have m6 : ¬ k * 3 + 2 = q * 3 := by omega
            have m7 : ¬ q * 3 + 1 = k * 3 := by omega
            have m8 : ¬ k * 3 = q * 3 + 1 := by omega
            have m9 : ¬ q * 3 + 1 = k * 3 + 1 := by omega
            have m10 : ¬ k * 3 + 1 = q * 3 + 1 := by omega
            have m11 : ¬ q * 3 + 1 = k * 3 + 2 := by omega
            have m12 : ¬ k * 3 + 2 = q * 3 + 1 := by omega
            have m13 : ¬ q * 3 + 2 = k * 3 := by omega
            have m14 : ¬ k * 3 = q * 3 + 2 := by omega
            have m15 : ¬ q * 3 + 2 = k * 3 + 1 := by omega
            have m16 : ¬ k * 3 + 1 = q * 3 + 2 := by omega
            have m17 : ¬ q * 3 + 2 = k * 3 + 2 := by omega
            have m18 : ¬ k * 3 + 2 = q * 3 + 2 := by omega
            have hgw := hgb
            have hCq := HC.out.drewN nq
            have hBq := below_drewN hB nq
            clear a1 a2 a3 b1 b2 b3 hf hgl HC hB hsz2
            generalize hwq : wr.drewN nq = wq at hCq hBq ⊢
            clear hwq
            have hsz2 := hBq.size
            obtain ⟨hgl, _, a1, a2, a3, hf⟩ := hCq.at (i := k) (by omega)
            obtain ⟨_, _, b1, b2, b3, _⟩ := hCq.at (i := q) (by omega)
            rw [← HX.out] at a1 a2 a3
            rw [← HY.out] at b1 b2 b3
            simp only at a1 a2 a3 b1 b2 b3
            have f1 := hf (k * 3); have f2 := hf (k * 3 + 1); have f3 := hf (k * 3 + 2)
            have f4 := hf (q * 3); have f5 := hf (q * 3 + 1); have f6 := hf (q * 3 + 2)
            clear hf
            clear hq hq1
            have HCQ := Lib.hid hCq
            have HBQ := Lib.hid hBq
            clear hCq hBq
            go_wp2
            obtain ⟨p1, g1⟩ := HCQ.out.put (by omega) k (yf, yt, ym)
            obtain ⟨p2, g2⟩ := p1.put (by omega) q (xf, xt, xm)
            have hl := (p2.at (i := k) (by omega)).1
            have HB1 := HBQ.out.trans (below_of_grownBy g1 HBQ.out.size (fun x hx => by cases hx; exact hgw))
            have HB2 := HB1.trans (below_of_grownBy g2 HB1.size (fun x hx => by cases hx; exact hgw))
            refine ⟨⟨q, _, rfl, by omega, p2.grown (World.grownBy_alloc _ _ none) (fun x hx => by cases hx), ?_, HB2.alloc HB2.size _⟩, ?_⟩
            · show _ = _
              rw [← HI.out, HS2.out, ← HSW.out]
            · simp only [intOf]; omega
          · have HE := OUT.out (.inr (by rw [HLT.out]; exact decide_eq_false hlt2))
            clear OUT HST HLT
            have HC := Lib.hid hC
            clear hC
            go_wp2_with fail
            go_quiet (fail)
            go_wp2
            go_roundw
            case rel => exact ⟨i + 1, dj, by go_num, by omega, by omega, HC.out.drewN _, HE.out, below_drewN hB _⟩
            case measure => simp [intOf]; omega
    · have hltz : ¬ (i : Int) < (n : Int) := by omega
      have HE := Lib.hid (HFIN.out dk _ hC (by rw [← HO.out, Go.Proofs.insOuter_stop _ _ _ _ _ hlt]) hB)
      go_wp2_with fail
      go_ret
      exact HE.out
end

section
open Go.RowKit
set_option linter.unusedVariables false
set_option linter.unusedSimpArgs false

theorem spec_isIn (w : World) (lo : Nat) (v : Value) (xs : List Int) (x : Int) (r : Bool) (hr : r = decide (x ∈ xs)) (hv : Ints w lo v xs) :
    Calls Tryz.prog 110 #[v, .int .i64 x] w fun e w' => e = .returned (.bool r) ∧ w = w' := by
  obtain ⟨ao, cap, rfl, hcap, hm⟩ := hv.form
  have HV := Lib.hid hv
  have HR := Lib.hid hr
  clear hv hr
  go_enter Tryz.func110, Tryz.ntmps110
  go_wp2
  go_loop [5] (fun i => ∃ k : Nat, k ≤ xs.length ∧ i = .int .i64 k ∧ ∀ j, j < k → xs.getD j 0 ≠ x) (fun i => xs.length - (intOf i).toNat)
  case atStart => exact ⟨0, Nat.zero_le _, rfl, fun j hj => by omega⟩
  case round =>
    obtain ⟨k, hk, rfl, hall⟩ := hrel
    have HA := Lib.hid hall
    clear hall
    by_cases hlt : k < xs.length
    · obtain ⟨b0, off, rfl, _, hb, hc⟩ := HV.out.spot 0 (by omega)
      have hck := hc k hlt
      clear hc
      obtain ⟨y, hy⟩ : ∃ y, y = xs.getD k 0 := ⟨_, rfl⟩
      rw [← hy] at hck
      have HY := Lib.hid hy
      clear hy
      by_cases he : y = x
      · have t1 : (y == x) = true := by simp [he]
        have HN : Hid (r = true) := by
          unfold Hid; rw [HR.out]; refine decide_eq_true ?_
          rw [← he, HY.out, List.getD_eq_getElem?_getD, List.getElem?_eq_getElem hlt]; exact List.getElem_mem _
        clear he
        go_wp2
        go_ret
        exact ⟨by rw [HN.out]; rfl, rfl⟩
      · have t1 : (y == x) = false := by simp [he]
        have HE := Lib.hid he
        clear he
        go_wp2
        go_round
        case rel => exact ⟨k + 1, by omega, by go_num, fun j hj => by
          by_cases h : j = k
          · subst h; rw [← HY.out]; exact HE.out
          · exact HA.out j (by omega)⟩
        case measure => simp [intOf]; omega
    · have HN : Hid (r = false) := by
        unfold Hid; rw [HR.out]; refine decide_eq_false (fun hm => ?_)
        obtain ⟨i, hi, e⟩ := List.mem_iff_getElem.1 hm
        have := HA.out i (by omega)
        rw [List.getD_eq_getElem?_getD, List.getElem?_eq_getElem hi] at this
        exact this e
      go_wp2
      go_ret
      exact ⟨by rw [HN.out]; rfl, rfl⟩

theorem spec_waiting (w : World) (lo : Nat) (v : Value) (xs : List Int) (r : Bool) (hr : r = decide ((-1 : Int) ∈ xs)) (hv : Ints w lo v xs) :
    Calls Tryz.prog 89 #[v] w fun e w' => e = .returned (.bool r) ∧ w = w' := by
  go_enter Tryz.func89, Tryz.ntmps89
  have HR := Lib.hid hr
  clear hr
  go_wp2_with (go_at_call 110; with_reducible refine (spec_isIn _ lo v xs (-1) r HR.out hv).mono ?_; rintro e' w2 ⟨rfl, rfl⟩)
  go_ret
  exact ⟨rfl, rfl⟩

theorem toInt_yes (w : World) : Calls Tryz.prog 111 #[.bool true] w fun e w' => e = .returned (.int .i64 1) ∧ w = w' := toInt_any true w
theorem toInt_not (w : World) : Calls Tryz.prog 111 #[.bool false] w fun e w' => e = .returned (.int .i64 0) ∧ w = w' := toInt_any false w
theorem insd_yes {on off : List Int} {k : Nat} (h1 : 0 ≤ on.getD k 0) (h2 : off.getD k 0 < 0) : insd on off (k + 1) = insd on off k + 1 := by
  show insd on off k + _ = _; rw [if_pos ⟨h1, h2⟩]
theorem insd_not {on off : List Int} {k : Nat} (h : ¬ (0 ≤ on.getD k 0 ∧ off.getD k 0 < 0)) : insd on off (k + 1) = insd on off k := by
  show insd on off k + _ = _; rw [if_neg h]; rfl

set_option maxHeartbeats 2000000 in
theorem spec_inside (w : World) (lo lo' : Nat) (v v' : Value) (on off : List Int) (n : Nat) (hv : Ints w lo v on) (hv' : Ints w lo' v' off) (hn : on.length = n) (hl : off.length = n) (h12 : n ≤ 12) (r : Nat) (hr : r = insd on off n) :
    Calls Tryz.prog 90 #[v, v'] w fun e w' => e = .returned (.int .i64 r) ∧ w = w' := by
  obtain ⟨ao, cap, rfl, hcap, hm⟩ := hv.form
  obtain ⟨ao', cap', rfl, hcap', hm'⟩ := hv'.form
  have HV := Lib.hid hv
  have HV' := Lib.hid hv'
  have HR := Lib.hid hr
  clear hv hv' hr
  rw [hl] at hcap'
  rw [hn] at hcap
  rw [hl, hn]
  go_enter Tryz.func90, Tryz.ntmps90
  go_wp2
  go_loop [5, 6] (fun s i => ∃ k q : Nat, k ≤ n ∧ i = .int .i64 k ∧ s = .int .i64 q ∧ q ≤ k ∧ Hid (insd on off k = q)) (fun _ i => n - (intOf i).toNat)
  case atStart => exact ⟨0, 0, Nat.zero_le _, rfl, rfl, Nat.le_refl _, rfl⟩
  case round =>
    obtain ⟨k, q, hk, rfl, rfl, hq, HI⟩ := hrel
    by_cases hlt : k < n
    · obtain ⟨b, o, rfl, _, hb, hc⟩ := HV.out.spot 0 (by omega)
      obtain ⟨b', o', rfl, _, hb', hc'⟩ := HV'.out.spot 0 (by omega)
      have s1 := hc k (by omega)
      have s2 := hc' k (by omega)
      clear hc hc'
      have HY : Hid (0 ≤ on.getD k 0 → off.getD k 0 < 0 → insd on off (k + 1) = q + 1) := fun h1 h2 => by rw [insd_yes h1 h2, HI.out]
      have HN : Hid (¬ (0 ≤ on.getD k 0 ∧ off.getD k 0 < 0) → insd on off (k + 1) = q) := fun h => by rw [insd_not h, HI.out]
      obtain ⟨x, hx⟩ : ∃ x, x = on.getD k 0 := ⟨_, rfl⟩
      obtain ⟨y, hy⟩ : ∃ y, y = off.getD k 0 := ⟨_, rfl⟩
      rw [← hx] at s1 HY HN
      rw [← hy] at s2 HY HN
      clear hx hy HI
      have wr1 : IntKind.i64.wrap ((q : Int) + 1) = (q : Int) + 1 := IntWalk.i64_in _ (by omega)
      have wr0 : IntKind.i64.wrap (q : Int) = (q : Int) := IntWalk.i64_in _ (by omega)
      by_cases h1 : 0 ≤ x
      · by_cases h2 : y < 0
        · have HE := Lib.hid (HY.out h1 h2)
          clear HY HN
          go_wp2_with (go_at_call 111; with_reducible refine (toInt_yes _).mono ?_; rintro e' w2 ⟨rfl, rfl⟩)
          go_round
          case rel => exact ⟨k + 1, q + 1, by omega, by go_num, by go_num, by omega, HE⟩
          case measure => simp [intOf]; omega
        · have HE := Lib.hid (HN.out (fun h => h2 h.2))
          clear HY HN
          go_wp2_with (go_at_call 111; with_reducible refine (toInt_not _).mono ?_; rintro e' w2 ⟨rfl, rfl⟩)
          go_round
          case rel => exact ⟨k + 1, q, by omega, by go_num, by go_num, by omega, HE⟩
          case measure => simp [intOf]; omega
      · have HE := Lib.hid (HN.out (fun h => h1 h.1))
        clear HY HN
        go_wp2_with (go_at_call 111; with_reducible refine (toInt_not _).mono ?_; rintro e' w2 ⟨rfl, rfl⟩)
        go_round
        case rel => exact ⟨k + 1, q, by omega, by go_num, by go_num, by omega, HE⟩
        case measure => simp [intOf]; omega
    · have e : k = n := by omega
      have HE : Hid (r = q) := by unfold Hid; rw [HR.out, ← e]; exact HI.out
      go_wp2
      go_ret
      exact ⟨by rw [HE.out]; rfl, rfl⟩
end

section
open Go.RowKit
set_option linter.unusedVariables false
set_option linter.unusedSimpArgs false

theorem info_intR : (Tryz.prog.info? 3).map (fun i => (i.zero, i.size, i.bytes)) = some (some (.int .i64 0), 1, 8) := by kernel_rfl
def TgRet (w : World) (l : List Int) (e : Ending) (w' : World) : Prop :=
  ∃ v', e = .returned v' ∧ Own w' w.heap.size 3 1 v' l.length (l.map (.int .i64)) ∧ Below w.heap.size w w'
theorem tg_a {cs : List Cl} {t : Int} {on off : List Int} {k : Nat} (h : 0 ≤ on.getD k 0 ∧ off.getD k 0 < 0) : tg cs t on off (k + 1) = tg cs t on off k ++ [(cs.getD k c0).2.1] := by
  show _ ++ _ = _; rw [if_pos h]
theorem tg_b {cs : List Cl} {t : Int} {on off : List Int} {k : Nat} (h : on.getD k 0 < 0 ∧ (cs.getD k c0).2.2 ≤ t ∧ insd on off cs.length < 4) : tg cs t on off (k + 1) = tg cs t on off k ++ [(cs.getD k c0).1] := by
  show _ ++ _ = _; rw [if_neg (by omega), if_pos h]
theorem tg_c {cs : List Cl} {t : Int} {on off : List Int} {k : Nat} (h1 : ¬ (0 ≤ on.getD k 0 ∧ off.getD k 0 < 0)) (h2 : ¬ (on.getD k 0 < 0 ∧ (cs.getD k c0).2.2 ≤ t ∧ insd on off cs.length < 4)) : tg cs t on off (k + 1) = tg cs t on off k := by
  show _ ++ _ = _; rw [if_neg h1, if_neg h2, List.append_nil]
/-- One more number behind a list that the call owns. -/
theorem own_snoc {w : World} {lo : Nat} {v : Value} {l l' : List Int} {x : Int} (h : Own w lo 3 1 v (l.length + 1) (l.map (Value.int .i64) ++ [.int .i64 x])) (e : l' = l ++ [x]) : Own w lo 3 1 v l'.length (l'.map (Value.int .i64)) := by
  subst e; simpa using h

set_option maxRecDepth 100000 in
set_option maxHeartbeats 8000000 in
theorem spec_targets (w : World) (lo lo1 lo2 : Nat) (vc v v' : Value) (cs : List Cl) (on off : List Int) (t : Int) (hc : Cls w lo vc cs) (hv : Ints w lo1 v on) (hv' : Ints w lo2 v' off) (hn : on.length = cs.length) (hl : off.length = cs.length) (h12 : cs.length ≤ 12) (L : List Int) (hL : L = tg cs t on off cs.length) :
    Calls Tryz.prog 112 #[vc, v, v', .int .i64 t] w (TgRet w L) := by
  obtain ⟨aoc, capc, rfl, hcapc, hmc⟩ := hc.form
  obtain ⟨ao, cap, rfl, hcap, hm⟩ := hv.form
  obtain ⟨ao', cap', rfl, hcap', hm'⟩ := hv'.form
  have HV := Lib.hid hv
  have HV' := Lib.hid hv'
  have HC := Lib.hid hc
  have HL := Lib.hid hL
  have HTL : Hid (∀ k, (tg cs t on off k).length ≤ k) := tg_len cs t on off
  clear hv hv' hc hL
  obtain ⟨n, hnn⟩ : ∃ n, n = cs.length := ⟨_, rfl⟩
  have HNN := Lib.hid hnn
  have HON : Hid (on.length = n) := by unfold Hid; omega
  have HOF : Hid (off.length = n) := by unfold Hid; omega
  rw [hl, hn, ← hnn]
  have hn12 : n ≤ 12 := by omega
  rw [← hnn] at hcapc
  clear hn hl h12 hnn hcap hcap'
  obtain ⟨g0, hg0⟩ : ∃ g, g = insd on off n := ⟨_, rfl⟩
  have HG := Lib.hid hg0
  have hO0 := Own.made w [] 3 w.heap.size 1 0 rfl (Nat.le_refl _) (by decide)
  have hB0 : Below w.heap.size w (w.alloc (.cells #[] 3)) := (Below.refl _ _).alloc (Nat.le_refl _) _
  clear hg0
  go_enter Tryz.func112, Tryz.ntmps112
  go_wp2_with fail
  go_loopw [9, 10] (fun s i wo => ∃ (k : Nat) (l : List Int), k ≤ n ∧ i = .int .i64 k ∧ Hid (l = tg cs t on off k) ∧ Own wo w.heap.size 3 1 s l.length (l.map (Value.int .i64)) ∧ Below w.heap.size w wo) (fun _ i _ => n - (intOf i).toNat)
  case atStart => exact ⟨0, [], Nat.zero_le _, rfl, rfl, hO0, hB0⟩
  case round =>
    clear hO0 hB0
    obtain ⟨k, l, hk, rfl, HI, hO, hB⟩ := hrel
    have hsz := hB.size
    have hll : l.length ≤ 12 := by have := HTL.out k; rw [← HI.out] at this; omega
    by_cases hlt : k < n
    · obtain ⟨b, o, rfl, _, hb, hx⟩ := HV.out.spot 0 (by have := HON.out; omega)
      obtain ⟨b', o', rfl, _, hb', hx'⟩ := HV'.out.spot 0 (by have := HOF.out; omega)
      obtain ⟨b2, o2, rfl, _, hb2, hx2⟩ := HC.out.spot (by have := HNN.out; omega)
      have KX : Hid (∀ W, Below w.heap.size w W → W.cell? ⟨b, o + k, none⟩ = some (.int .i64 (on.getD k 0))) := fun W hW => (hW.cell (p := ⟨b, o + k, none⟩) hb).trans (hx k (by have := HON.out; omega))
      have KY : Hid (∀ W, Below w.heap.size w W → W.cell? ⟨b', o' + k, none⟩ = some (.int .i64 (off.getD k 0))) := fun W hW => (hW.cell (p := ⟨b', o' + k, none⟩) hb').trans (hx' k (by have := HOF.out; omega))
      obtain ⟨z1, z2, z3⟩ := hx2 k (by have := HNN.out; omega)
      have KC : Hid (∀ W, Below w.heap.size w W → W.cell? ⟨b2, o2 + k * 3, none⟩ = some (.int .i64 (cs.getD k c0).1) ∧ W.cell? ⟨b2, o2 + k * 3 + 1, none⟩ = some (.int .i64 (cs.getD k c0).2.1) ∧ W.cell? ⟨b2, o2 + k * 3 + 2, none⟩ = some (.int .i64 (cs.getD k c0).2.2)) := fun W hW => ⟨(hW.cell (p := ⟨b2, o2 + k * 3, none⟩) hb2).trans z1, (hW.cell (p := ⟨b2, o2 + k * 3 + 1, none⟩) hb2).trans z2, (hW.cell (p := ⟨b2, o2 + k * 3 + 2, none⟩) hb2).trans z3⟩
      clear hx hx' hx2 z1 z2 z3
      have TA : Hid (0 ≤ on.getD k 0 ∧ off.getD k 0 < 0 → tg cs t on off (k + 1) = l ++ [(cs.getD k c0).2.1]) := fun h => by rw [tg_a h, HI.out]
      have TB : Hid (on.getD k 0 < 0 ∧ (cs.getD k c0).2.2 ≤ t ∧ g0 < 4 → tg cs t on off (k + 1) = l ++ [(cs.getD k c0).1]) := fun h => by rw [tg_b (by rw [← HNN.out, ← HG.out]; exact h), HI.out]
      have TC : Hid (¬ (0 ≤ on.getD k 0 ∧ off.getD k 0 < 0) → ¬ (on.getD k 0 < 0 ∧ (cs.getD k c0).2.2 ≤ t ∧ g0 < 4) → tg cs t on off (k + 1) = l) := fun h1 h2 => by rw [tg_c h1 (by rw [← HNN.out, ← HG.out]; exact h2), HI.out]
      obtain ⟨x, hx⟩ : ∃ x, x = on.getD k 0 := ⟨_, rfl⟩
      obtain ⟨y, hy⟩ : ∃ y, y = off.getD k 0 := ⟨_, rfl⟩
      obtain ⟨c, hcc⟩ : ∃ c, c = cs.getD k c0 := ⟨_, rfl⟩
      rw [← hx] at KX TA TB TC
      rw [← hy] at KY TA TC
      rw [← hcc] at KC TA TB TC
      clear hx hy hcc HI
      obtain ⟨cf, ct, cm⟩ := c
      simp only at KC TA TB TC
      have kx := KX.out _ hB
      have ky := KY.out _ hB
      obtain ⟨k1, k2, k3⟩ := KC.out _ hB
      by_cases hA : 0 ≤ x
      · have hA' : ¬ x < 0 := by omega
        by_cases hA2 : y < 0
        · have HE := Lib.hid (TA.out ⟨hA, hA2⟩)
          clear TA TB TC
          go_wp2_with (at_builtin; refine wpList_append_one _ rfl _ _ 27 rfl 3 (.int .i64 0) 8 Tryz.underlying27 info_intR rfl w.heap.size _ _ _ rfl hO _ _ rfl rfl (by omega) (by omega) hsz ?_; intro v8 w8 hO8 hg8 _; have hB8 := hB.trans (below_of_grownBy hg8 hsz (fun q hq => (hO.wblk hq).1)); have kx8 := KX.out _ hB8)
          go_roundw
          case rel => exact ⟨k + 1, _, by omega, by go_num, HE.out.symm, own_snoc hO8 rfl, hB8⟩
          case measure => simp [intOf]; omega
        · have HE := Lib.hid (TC.out (fun h => hA2 h.2) (fun h => hA' h.1))
          clear TA TB TC
          go_wp2_with fail
          go_roundw
          case rel => exact ⟨k + 1, l, by omega, by go_num, HE.out.symm, hO, hB⟩
          case measure => simp [intOf]; omega
      · have hA' : x < 0 := by omega
        by_cases hM : cm ≤ t
        · have hV1 := Rd.below HV.out hB (Nat.le_refl _) (by decide)
          have hV2 := Rd.below HV'.out hB (Nat.le_refl _) (by decide)
          rw [HON.out] at hV1
          rw [HOF.out] at hV2
          have HI1 : Hid (Calls Tryz.prog 90 #[.slice (some ⟨b, o, none⟩) n cap, .slice (some ⟨b', o', none⟩) n cap'] wr fun e w' => e = .returned (.int .i64 g0) ∧ wr = w') := by
            refine spec_inside wr lo1 lo2 _ _ on off n ?_ ?_ HON.out HOF.out hn12 g0 HG.out
            · unfold Ints; rw [HON.out]; exact hV1
            · unfold Ints; rw [HOF.out]; exact hV2
          clear hV1 hV2
          by_cases hG : g0 < 4
          · have hGz : (g0 : Int) < 4 := by omega
            have dG : decide (g0 < 4) = true := decide_eq_true hG
            have HE := Lib.hid (TB.out ⟨hA', hM, hG⟩)
            clear TA TB TC
            go_wp2_with (first
              | (go_at_call 90; refine HI1.out.mono ?_; rintro e' w2 ⟨rfl, rfl⟩)
              | (at_builtin; refine wpList_append_one _ rfl _ _ 27 rfl 3 (.int .i64 0) 8 Tryz.underlying27 info_intR rfl w.heap.size _ _ _ rfl hO _ _ rfl rfl (by omega) (by omega) hsz ?_; intro v8 w8 hO8 hg8 _))
            have hB8 := hB.trans (below_of_grownBy hg8 hsz (fun q hq => (hO.wblk hq).1))
            go_roundw
            case rel => exact ⟨k + 1, _, by omega, by go_num, HE.out.symm, own_snoc hO8 rfl, hB8⟩
            case measure => simp [intOf]; omega
          · have hGz : ¬ (g0 : Int) < 4 := by omega
            have dG : decide (g0 < 4) = false := decide_eq_false hG
            have HE := Lib.hid (TC.out (fun h => hA h.1) (fun h => hG h.2.2))
            clear TA TB TC
            go_wp2_with (go_at_call 90; refine HI1.out.mono ?_; rintro e' w2 ⟨rfl, rfl⟩)
            go_roundw
            case rel => exact ⟨k + 1, l, by omega, by go_num, HE.out.symm, hO, hB⟩
            case measure => simp [intOf]; omega
        · have HE := Lib.hid (TC.out (fun h => hA h.1) (fun h => hM h.2.1))
          clear TA TB TC
          go_wp2_with fail
          go_roundw
          case rel => exact ⟨k + 1, l, by omega, by go_num, HE.out.symm, hO, hB⟩
          case measure => simp [intOf]; omega
    · have e : k = n := by omega
      have HE : Hid (l = L) := by unfold Hid; rw [HL.out, ← HNN.out, ← e]; exact HI.out
      go_wp2_with fail
      go_ret
      exact ⟨_, rfl, by rw [← HE.out]; exact hO, hB⟩

/-- Numbers so small that nothing wraps: floors. -/
def flrs (l : List Int) : Prop := ∀ x ∈ l, 0 ≤ x ∧ x ≤ 15
theorem ahd_at {l : List Int} {fl hd : Int} : ahd l fl hd = true ↔ ∃ i, i < l.length ∧ 0 < (l.getD i 0 - fl) * hd := by
  unfold ahd; rw [List.any_eq_true]
  constructor
  · rintro ⟨x, hx, h⟩
    obtain ⟨i, hi, rfl⟩ := List.mem_iff_getElem.1 hx
    exact ⟨i, hi, by rw [List.getD_eq_getElem?_getD, List.getElem?_eq_getElem hi]; exact of_decide_eq_true h⟩
  · rintro ⟨i, hi, h⟩
    rw [List.getD_eq_getElem?_getD, List.getElem?_eq_getElem hi] at h
    exact ⟨_, List.getElem_mem hi, decide_eq_true h⟩
set_option maxHeartbeats 2000000 in
theorem spec_ahead (w : World) (lo : Nat) (v : Value) (l : List Int) (fl hd : Int) (h0 : 0 ≤ fl ∧ fl ≤ 15) (hh : hd = 1 ∨ hd = -1) (hv : Ints w lo v l) (hf : flrs l) (r : Bool) (hr : r = ahd l fl hd) :
    Calls Tryz.prog 113 #[v, .int .i64 fl, .int .i64 hd] w fun e w' => e = .returned (.bool r) ∧ w = w' := by
  obtain ⟨ao, cap, rfl, hcap, hm⟩ := hv.form
  have HV := Lib.hid hv
  have HR := Lib.hid hr
  have HF := Lib.hid hf
  have HH := Lib.hid hh
  clear hv hr hf hh
  go_enter Tryz.func113, Tryz.ntmps113
  go_wp2
  go_loop [7] (fun i => ∃ k : Nat, k ≤ l.length ∧ i = .int .i64 k ∧ Hid (∀ j, j < k → ¬ 0 < (l.getD j 0 - fl) * hd)) (fun i => l.length - (intOf i).toNat)
  case atStart => exact ⟨0, Nat.zero_le _, rfl, fun j hj => by omega⟩
  case round =>
    obtain ⟨k, hk, rfl, HA⟩ := hrel
    by_cases hlt : k < l.length
    · obtain ⟨b0, off, rfl, _, hb, hc⟩ := HV.out.spot 0 (by omega)
      have hck := hc k hlt
      clear hc
      have hy0 : 0 ≤ l.getD k 0 ∧ l.getD k 0 ≤ 15 := HF.out _ (by rw [List.getD_eq_getElem?_getD, List.getElem?_eq_getElem hlt]; exact List.getElem_mem _)
      obtain ⟨y, hy⟩ : ∃ y, y = l.getD k 0 := ⟨_, rfl⟩
      rw [← hy] at hck hy0
      have HY := Lib.hid hy
      clear hy
      obtain ⟨p, hp⟩ : ∃ p, p = (y - fl) * hd := ⟨_, rfl⟩
      have hpb : -15 ≤ p ∧ p ≤ 15 := by rcases HH.out with e | e <;> rw [hp, e] <;> omega
      have wr1 : IntKind.i64.wrap (y - fl) = y - fl := IntWalk.i64_in _ (by omega)
      have wr2 : IntKind.i64.wrap ((y - fl) * hd) = p := by rw [← hp]; exact IntWalk.i64_in _ (by omega)
      have HP := Lib.hid hp
      clear hp
      by_cases he : 0 < p
      · have HN : Hid (r = true) := by
          unfold Hid; rw [HR.out]; exact ahd_at.2 ⟨k, hlt, by rw [← HY.out, ← HP.out]; exact he⟩
        go_wp2
        go_ret
        exact ⟨by rw [HN.out]; rfl, rfl⟩
      · have HE : Hid (¬ 0 < p) := he
        go_wp2
        go_round
        case rel => exact ⟨k + 1, by omega, by go_num, fun j hj => by
          by_cases h : j = k
          · subst h; rw [← HY.out, ← HP.out]; exact HE.out
          · exact HA.out j (by omega)⟩
        case measure => simp [intOf]; omega
    · have HN : Hid (r = false) := by
        unfold Hid; rw [HR.out, ← Bool.not_eq_true, ahd_at]
        rintro ⟨i, hi, h⟩
        exact HA.out i (by omega) h
      go_wp2
      go_ret
      exact ⟨by rw [HN.out]; rfl, rfl⟩
theorem tg_flrs {cs : List Cl} {t : Int} {on off : List Int} (hc : ∀ i, i < cs.length → clOk (cs.getD i c0)) : ∀ k, k ≤ cs.length → flrs (tg cs t on off k)
  | 0, _ => fun x hx => by simp [tg] at hx
  | k + 1, hk => fun x hx => by
    have ih := tg_flrs (t := t) (on := on) (off := off) hc k (by omega)
    have := hc k (by omega)
    unfold clOk at this
    unfold tg at hx
    rcases List.mem_append.1 hx with h | h
    · exact ih x h
    · split at h
      · rw [List.mem_singleton] at h; rw [h]; omega
      · split at h
        · rw [List.mem_singleton] at h; rw [h]; omega
        · simp at h
theorem own_rd {w : World} {lo : Nat} {v : Value} {l : List Int} (h : Own w lo 3 1 v l.length (l.map (Value.int .i64))) : Ints w lo v l := h.rd

set_option maxHeartbeats 2000000 in
theorem spec_turnAround (w : World) (lo lo1 lo2 : Nat) (vc v v' : Value) (cs : List Cl) (on off : List Int) (t fl hd : Int) (hok : ∀ i, i < cs.length → clOk (cs.getD i c0)) (hc : Cls w lo vc cs) (hv : Ints w lo1 v on) (hv' : Ints w lo2 v' off) (hn : on.length = cs.length) (hl : off.length = cs.length) (h12 : cs.length ≤ 12) (h0 : 0 ≤ fl ∧ fl ≤ 15) (hh : hd = 1 ∨ hd = -1)
    (r : Int) (hr : r = turnS (tg cs t on off cs.length) fl hd) :
    Calls Tryz.prog 91 #[vc, v, v', .int .i64 t, .int .i64 fl, .int .i64 hd] w fun e w' => e = .returned (.int .i64 r) ∧ Below w.heap.size w w' := by
  have HF := Lib.hid (tg_flrs (t := t) (on := on) (off := off) hok cs.length (Nat.le_refl _))
  obtain ⟨L, hL⟩ : ∃ L, L = tg cs t on off cs.length := ⟨_, rfl⟩
  rw [← hL] at HF hr
  have HT := Lib.hid (spec_targets w lo lo1 lo2 vc v v' cs on off t hc hv hv' hn hl h12 L hL)
  have hh2 : -hd = 1 ∨ -hd = -1 := by omega
  have wrn : IntKind.i64.wrap (-hd) = -hd := IntWalk.i64_in _ (by omega)
  have HR := Lib.hid hr
  have HH := Lib.hid hh
  have HH2 := Lib.hid hh2
  clear hok hc hv hv' hn hl h12 hL hr hh hh2
  go_enter Tryz.func91, Tryz.ntmps91
  cases ha : ahd L fl hd
  · cases hb : ahd L fl (-hd)
    · have HE : Hid (r = hd) := by unfold Hid; rw [HR.out]; unfold turnS; rw [if_neg (by rw [hb]; simp)]
      have HA := Lib.hid ha.symm
      have HB := Lib.hid hb.symm
      clear ha hb HR
      go_wp2_with (first
        | (go_at_call 112; refine HT.out.mono ?_; rintro e' w2 ⟨v9, rfl, hO9, hB9⟩; have HO9 := Lib.hid hO9; have HB9 := Lib.hid hB9; clear hO9 hB9)
        | (go_at_call 113; with_reducible refine (spec_ahead _ _ _ L fl hd h0 HH.out (own_rd HO9.out) HF.out false HA.out).mono ?_; rintro e' w3 ⟨rfl, rfl⟩)
        | (go_at_call 113; with_reducible refine (spec_ahead _ _ _ L fl (-hd) h0 HH2.out (own_rd HO9.out) HF.out false HB.out).mono ?_; rintro e' w3 ⟨rfl, rfl⟩))
      go_ret
      exact ⟨by rw [HE.out]; rfl, HB9.out⟩
    · have HE : Hid (r = -hd) := by unfold Hid; rw [HR.out]; unfold turnS; rw [if_pos ⟨ha, hb⟩]
      have HA := Lib.hid ha.symm
      have HB := Lib.hid hb.symm
      clear ha hb HR
      go_wp2_with (first
        | (go_at_call 112; refine HT.out.mono ?_; rintro e' w2 ⟨v9, rfl, hO9, hB9⟩; have HO9 := Lib.hid hO9; have HB9 := Lib.hid hB9; clear hO9 hB9)
        | (go_at_call 113; with_reducible refine (spec_ahead _ _ _ L fl hd h0 HH.out (own_rd HO9.out) HF.out false HA.out).mono ?_; rintro e' w3 ⟨rfl, rfl⟩)
        | (go_at_call 113; with_reducible refine (spec_ahead _ _ _ L fl (-hd) h0 HH2.out (own_rd HO9.out) HF.out true HB.out).mono ?_; rintro e' w3 ⟨rfl, rfl⟩))
      go_ret
      exact ⟨by rw [HE.out]; rfl, HB9.out⟩
  · have HE : Hid (r = hd) := by unfold Hid; rw [HR.out]; unfold turnS; rw [if_neg (by rw [ha]; simp)]
    have HA := Lib.hid ha.symm
    clear ha HR
    go_wp2_with (first
      | (go_at_call 112; refine HT.out.mono ?_; rintro e' w2 ⟨v9, rfl, hO9, hB9⟩; have HO9 := Lib.hid hO9; have HB9 := Lib.hid hB9; clear hO9 hB9)
      | (go_at_call 113; with_reducible refine (spec_ahead _ _ _ L fl hd h0 HH.out (own_rd HO9.out) HF.out true HA.out).mono ?_; rintro e' w3 ⟨rfl, rfl⟩))
    go_ret
    exact ⟨by rw [HE.out]; rfl, HB9.out⟩

set_option maxHeartbeats 2000000 in
theorem spec_moveOf (w : World) (lo lo1 lo2 : Nat) (vc v v' : Value) (cs : List Cl) (on off : List Int) (t fl hd : Int) (hok : ∀ i, i < cs.length → clOk (cs.getD i c0)) (hc : Cls w lo vc cs) (hv : Ints w lo1 v on) (hv' : Ints w lo2 v' off) (hn : on.length = cs.length) (hl : off.length = cs.length) (h12 : cs.length ≤ 12) (h0 : 0 ≤ fl ∧ fl ≤ 15) (hh : hd = 1 ∨ hd = -1)
    (r : Int) (hr : r = if ahd (tg cs t on off cs.length) fl hd = true then hd else 0) :
    Calls Tryz.prog 92 #[vc, v, v', .int .i64 t, .int .i64 fl, .int .i64 hd] w fun e w' => e = .returned (.int .i64 r) ∧ Below w.heap.size w w' := by
  have HF := Lib.hid (tg_flrs (t := t) (on := on) (off := off) hok cs.length (Nat.le_refl _))
  obtain ⟨L, hL⟩ : ∃ L, L = tg cs t on off cs.length := ⟨_, rfl⟩
  rw [← hL] at HF hr
  have HT := Lib.hid (spec_targets w lo lo1 lo2 vc v v' cs on off t hc hv hv' hn hl h12 L hL)
  have HR := Lib.hid hr
  have HH := Lib.hid hh
  clear hok hc hv hv' hn hl h12 hL hr hh
  go_enter Tryz.func92, Tryz.ntmps92
  cases ha : ahd L fl hd
  · have HE : Hid (r = 0) := by unfold Hid; rw [HR.out, if_neg (by rw [ha]; simp)]
    have HA := Lib.hid ha.symm
    clear ha HR
    go_wp2_with (first
      | (go_at_call 112; refine HT.out.mono ?_; rintro e' w2 ⟨v9, rfl, hO9, hB9⟩; have HO9 := Lib.hid hO9; have HB9 := Lib.hid hB9; clear hO9 hB9)
      | (go_at_call 113; with_reducible refine (spec_ahead _ _ _ L fl hd h0 HH.out (own_rd HO9.out) HF.out false HA.out).mono ?_; rintro e' w3 ⟨rfl, rfl⟩))
    go_ret
    exact ⟨by rw [HE.out]; rfl, HB9.out⟩
  · have HE : Hid (r = hd) := by unfold Hid; rw [HR.out, if_pos ha]
    have HA := Lib.hid ha.symm
    clear ha HR
    go_wp2_with (first
      | (go_at_call 112; refine HT.out.mono ?_; rintro e' w2 ⟨v9, rfl, hO9, hB9⟩; have HO9 := Lib.hid hO9; have HB9 := Lib.hid hB9; clear hO9 hB9)
      | (go_at_call 113; with_reducible refine (spec_ahead _ _ _ L fl hd h0 HH.out (own_rd HO9.out) HF.out true HA.out).mono ?_; rintro e' w3 ⟨rfl, rfl⟩))
    go_ret
    exact ⟨by rw [HE.out]; rfl, HB9.out⟩
end

section
open Go.RowKit
set_option linter.unusedVariables false
set_option linter.unusedSimpArgs false

theorem intsR_cell {w : World} {lo e g len cap n F : Nat} {ts : List Int} (h : Own w lo e 1 (.slice (some ⟨g, 0, none⟩) len cap) n (ts.map (Value.int .i64))) (hF : F < n) :
    w.cell? ⟨g, F, none⟩ = some (.int .i64 (ts.getD F 0)) ∧ w.frozen? ⟨g, F, none⟩ = false ∧ g < w.heap.size := by
  have hl := h.len
  obtain ⟨g', e1, h2, h3, h4, h5, h6⟩ := h.parts (by omega)
  cases e1
  refine ⟨?_, h5 F, h3⟩
  rw [h4 F (by omega)]
  simp at hl
  simp [show F < ts.length by omega]
/-- The two lists of times that a ride keeps. -/
def RidO (W : World) (B g1 g2 n : Nat) (on off : List Int) : Prop :=
  Own W B 3 1 (.slice (some ⟨g1, 0, none⟩) n n) n (on.map (Value.int .i64)) ∧ Own W B 3 1 (.slice (some ⟨g2, 0, none⟩) n n) n (off.map (Value.int .i64)) ∧ ¬ g1 = g2
theorem RidO.at {W : World} {B g1 g2 n : Nat} {on off : List Int} (h : RidO W B g1 g2 n on off) {i : Nat} (hi : i < n) :
    W.cell? ⟨g1, i, none⟩ = some (.int .i64 (on.getD i 0)) ∧ W.cell? ⟨g2, i, none⟩ = some (.int .i64 (off.getD i 0)) ∧ W.frozen? ⟨g1, i, none⟩ = false ∧ W.frozen? ⟨g2, i, none⟩ = false ∧ g1 < W.heap.size ∧ g2 < W.heap.size :=
  ⟨(intsR_cell h.1 hi).1, (intsR_cell h.2.1 hi).1, (intsR_cell h.1 hi).2.1, (intsR_cell h.2.1 hi).2.1, (intsR_cell h.1 hi).2.2, (intsR_cell h.2.1 hi).2.2⟩
theorem RidO.ll {W : World} {B g1 g2 n : Nat} {on off : List Int} (h : RidO W B g1 g2 n on off) : on.length = n ∧ off.length = n := by
  have h1 := h.1.len
  have h2 := h.2.1.len
  simp at h1 h2
  exact ⟨h1, h2⟩
theorem RidO.setOn {W : World} {B g1 g2 n : Nat} {on off : List Int} (h : RidO W B g1 g2 n on off) (i : Nat) (hi : i < n) (x : Int) : RidO (W.setCell ⟨g1, i, none⟩ (.int .i64 x)) B g1 g2 n (on.set i x) off := by
  obtain ⟨h1, h2, h3⟩ := h
  obtain ⟨k1, k2⟩ := h1.store (by omega) i (.int .i64 x)
  refine ⟨by rw [List.map_set]; exact k1, h2.grown k2 (fun k hk => .inr (fun e => h3 ?_)), h3⟩
  cases hk
  exact (Option.some.inj e).symm
theorem RidO.setOff {W : World} {B g1 g2 n : Nat} {on off : List Int} (h : RidO W B g1 g2 n on off) (i : Nat) (hi : i < n) (x : Int) : RidO (W.setCell ⟨g2, i, none⟩ (.int .i64 x)) B g1 g2 n on (off.set i x) := by
  obtain ⟨h1, h2, h3⟩ := h
  obtain ⟨k1, k2⟩ := h2.store (by omega) i (.int .i64 x)
  refine ⟨h1.grown k2 (fun k hk => .inr (fun e => h3 ?_)), by rw [List.map_set]; exact k1, h3⟩
  cases hk
  exact Option.some.inj e
theorem RidO.below {W W' : World} {B g1 g2 n : Nat} {on off : List Int} (h : RidO W B g1 g2 n on off) (hb : Below W.heap.size W W') : RidO W' B g1 g2 n on off :=
  ⟨h.1.below hb (Nat.le_refl _), h.2.1.below hb (Nat.le_refl _), h.2.2⟩
theorem RidO.rd1 {W : World} {B g1 g2 n : Nat} {on off : List Int} (h : RidO W B g1 g2 n on off) : Ints W B (.slice (some ⟨g1, 0, none⟩) n n) on := by
  unfold Ints; rw [h.ll.1]; exact h.1.rd
theorem RidO.rd2 {W : World} {B g1 g2 n : Nat} {on off : List Int} (h : RidO W B g1 g2 n on off) : Ints W B (.slice (some ⟨g2, 0, none⟩) n n) off := by
  unfold Ints; rw [h.ll.2]; exact h.2.1.rd

theorem step_stay {cs : List Cl} {t : Int} {s : RSt} {off1 on1 : List Int} {b1 b2 : Bool} (h : outS cs t s.fl s.on s.off cs.length = (off1, b1)) (h2 : inS cs t s.fl off1 s.on cs.length = (on1, b2)) (hb : (b1 || b2) = true) :
    stepS cs t s = ⟨on1, off1, s.fl, s.hd⟩ := by
  have e1 : outT cs t s = ⟨s.on, off1, s.fl, s.hd⟩ := by unfold outT; rw [h]
  have e2 : inT cs t (outT cs t s) = ⟨on1, off1, s.fl, s.hd⟩ := by rw [e1]; unfold inT; simp only; rw [h2]
  have e3 : outB cs t s = b1 := by unfold outB; rw [h]
  have e4 : inB cs t (outT cs t s) = b2 := by rw [e1]; unfold inB; simp only; rw [h2]
  unfold stepS; rw [e2, e3, e4, if_pos hb]
theorem step_drive {cs : List Cl} {t : Int} {s : RSt} {off1 on1 : List Int} {b1 b2 : Bool} (h : outS cs t s.fl s.on s.off cs.length = (off1, b1)) (h2 : inS cs t s.fl off1 s.on cs.length = (on1, b2)) (hb : (b1 || b2) = false) :
    stepS cs t s = ⟨on1, off1, s.fl + (if ahd (tg cs t on1 off1 cs.length) s.fl (turnS (tg cs t on1 off1 cs.length) s.fl s.hd) = true then turnS (tg cs t on1 off1 cs.length) s.fl s.hd else 0), turnS (tg cs t on1 off1 cs.length) s.fl s.hd⟩ := by
  have e1 : outT cs t s = ⟨s.on, off1, s.fl, s.hd⟩ := by unfold outT; rw [h]
  have e2 : inT cs t (outT cs t s) = ⟨on1, off1, s.fl, s.hd⟩ := by rw [e1]; unfold inT; simp only; rw [h2]
  have e3 : outB cs t s = b1 := by unfold outB; rw [h]
  have e4 : inB cs t (outT cs t s) = b2 := by rw [e1]; unfold inB; simp only; rw [h2]
  unfold stepS; rw [e2, e3, e4, if_neg (by rw [hb]; simp)]; rfl
theorem outR_yes {cs : List Cl} {t fl : Int} {on off off' : List Int} {j : Nat} {b : Bool} (h : outS cs t fl on off j = (off', b)) (hx : 0 ≤ on.getD j 0) (hy : off'.getD j 0 < 0) (hc : (cs.getD j c0).2.1 = fl) : outS cs t fl on off (j + 1) = (off'.set j t, true) := by
  unfold outS; rw [h]; exact if_pos ⟨hx, hy, hc⟩
theorem outR_not {cs : List Cl} {t fl : Int} {on off off' : List Int} {j : Nat} {b : Bool} (h : outS cs t fl on off j = (off', b)) (hn : ¬ (0 ≤ on.getD j 0 ∧ off'.getD j 0 < 0 ∧ (cs.getD j c0).2.1 = fl)) : outS cs t fl on off (j + 1) = (off', b) := by
  unfold outS; rw [h]; exact if_neg hn
theorem inR_yes {cs : List Cl} {t fl : Int} {on off on' : List Int} {j : Nat} {b : Bool} (h : inS cs t fl off on j = (on', b)) (hx : on'.getD j 0 < 0) (hm : (cs.getD j c0).2.2 ≤ t) (hc : (cs.getD j c0).1 = fl) (hi : insd on' off cs.length < 4) : inS cs t fl off on (j + 1) = (on'.set j t, true) := by
  unfold inS; rw [h]; exact if_pos ⟨hx, hm, hc, hi⟩
theorem inR_not {cs : List Cl} {t fl : Int} {on off on' : List Int} {j : Nat} {b : Bool} (h : inS cs t fl off on j = (on', b)) (hn : ¬ (on'.getD j 0 < 0 ∧ (cs.getD j c0).2.2 ≤ t ∧ (cs.getD j c0).1 = fl ∧ insd on' off cs.length < 4)) : inS cs t fl off on (j + 1) = (on', b) := by
  unfold inS; rw [h]; exact if_neg hn

def RideRet (w : World) (cs : List Cl) (e : Ending) (w' : World) : Prop :=
  ∃ v1 v2, e = .returned (.tuple #[v1, v2]) ∧ Own w' w.heap.size 3 1 v1 cs.length ((runS cs 901).on.map (Value.int .i64)) ∧ Own w' w.heap.size 3 1 v2 cs.length ((runS cs 901).off.map (Value.int .i64)) ∧ Below w.heap.size w w'

set_option maxRecDepth 100000 in
set_option maxHeartbeats 16000000 in
theorem spec_ride (w : World) (lo : Nat) (vc : Value) (cs : List Cl) (hc : Cls w lo vc cs) (hok : clsOk cs) :
    Calls Tryz.prog 65 #[vc, .int .i64 0] w (RideRet w cs) := by
  obtain ⟨aoc, capc, rfl, hcapc, hmc⟩ := hc.form
  obtain ⟨i0, hi0, hz0, hz1, hz2⟩ := info_parts info_intR
  have HC := Lib.hid hc
  have h12 := hok.1
  have HOK : Hid (∀ i, i < cs.length → clOk (cs.getD i c0)) := clsOk_at hok
  clear hc hok
  obtain ⟨n, hnn⟩ : ∃ n, n = cs.length := ⟨_, rfl⟩
  have HNN := Lib.hid hnn
  have HFIN : Hid (∀ (s : RSt) (W : World) (g1 g2 : Nat), s = runS cs 901 → RidO W w.heap.size g1 g2 n s.on s.off → Below w.heap.size w W → RideRet w cs (.returned (.tuple #[.slice (some ⟨g1, 0, none⟩) n n, .slice (some ⟨g2, 0, none⟩) n n])) W) := fun s W g1 g2 e h hB => by
    rw [e] at h
    exact ⟨_, _, rfl, by rw [← HNN.out]; exact h.1, by rw [← HNN.out]; exact h.2.1, hB⟩
  rw [← hnn] at hcapc h12 ⊢
  clear hnn
  go_enter Tryz.func65, Tryz.ntmps65
  go_wp2_with (first
    | (at_make; refine wpList_make_full _ rfl _ _ 27 rfl w.heap.size 3 i0 (.int .i64 0) 1 Tryz.underlying27 hi0 hz0 hz1 .i64 .i64 n n n rfl rfl rfl rfl (by rw [hz2]; omega) (by unfold maxLen; omega) hB1.size ?_; intro w2 hown2 hg2)
    | (at_make; refine wpList_make_full _ rfl _ _ 27 rfl w.heap.size 3 i0 (.int .i64 0) 1 Tryz.underlying27 hi0 hz0 hz1 .i64 .i64 n n n rfl rfl rfl rfl (by rw [hz2]; omega) (by unfold maxLen; omega) (Nat.le_refl _) ?_; intro w1 hown1 hg1; have hB1 := below_of_grownBy hg1 (Nat.le_refl _) (fun k hk => by cases hk)))
  have hO1 : Own w1 w.heap.size 3 1 (.slice (some ⟨w.heap.size, 0, none⟩) n n) n (madeCells (Value.int .i64 0).cells (n * 1)).toList := .inl hown1
  have hlt1 : w.heap.size < w1.heap.size := by
    rcases hown1.2 with ⟨h, _⟩ | ⟨g, cap, cur, h, _, hh, _⟩
    · cases h
    · cases h; exact (Array.getElem?_eq_some_iff.1 hh).1
  have hO2 : Own w2 w.heap.size 3 1 (.slice (some ⟨w1.heap.size, 0, none⟩) n n) n (madeCells (Value.int .i64 0).cells (n * 1)).toList := .inl hown2
  have hO1' := hO1.grown hg2 (fun k hk => by cases hk)
  have hB2 := hB1.trans (below_of_grownBy hg2 hB1.size (fun k hk => by cases hk))
  clear hown1 hg1 hown2 hg2 hO1 hB1
  obtain ⟨g1, hg1⟩ : ∃ g, g = w.heap.size := ⟨_, rfl⟩
  obtain ⟨g2, hg2⟩ : ∃ g, g = w1.heap.size := ⟨_, rfl⟩
  have hne : ¬ g1 = g2 := by omega
  have hne' : ¬ g2 = g1 := by omega
  have hgl : w.heap.size ≤ g1 ∧ w.heap.size ≤ g2 := by omega
  have HGL := Lib.hid hgl
  have hv1 : Value.slice (some ⟨w.heap.size, 0, none⟩) n n = .slice (some ⟨g1, 0, none⟩) n n := by rw [hg1]
  have hv2 : Value.slice (some ⟨w1.heap.size, 0, none⟩) n n = .slice (some ⟨g2, 0, none⟩) n n := by rw [hg2]
  rw [hv1] at hO1' ⊢
  rw [hv2] at hO2 ⊢
  clear hv1 hv2 hg1 hg2 hlt1 hgl
  go_wp2_with fail
  go_loopw [8] (fun i W => ∃ (k : Nat) (c1 c2 : List Value), k ≤ n ∧ i = .int .i64 k ∧ Own W w.heap.size 3 1 (.slice (some ⟨g1, 0, none⟩) n n) n c1 ∧ Own W w.heap.size 3 1 (.slice (some ⟨g2, 0, none⟩) n n) n c2 ∧ Hid (∀ j, j < k → c1[j]? = some (.int .i64 (-1)) ∧ c2[j]? = some (.int .i64 (-1))) ∧ Below w.heap.size w W) (fun i _ => n - (intOf i).toNat)
  case atStart => exact ⟨0, _, _, Nat.zero_le _, rfl, hO1', hO2, fun j hj => by omega, hB2⟩
  case round =>
    clear hO1' hO2 hB2
    obtain ⟨k, c1, c2, hk, rfl, hO1, hO2, HM, hB⟩ := hrel
    have hl1 := hO1.len
    have hl2 := hO2.len
    by_cases hlt : k < n
    · obtain ⟨_, e1, _, gl1, hcell1, hfr1, _⟩ := hO1.parts (by omega)
      cases e1
      obtain ⟨_, e2, _, gl2, hcell2, hfr2, _⟩ := hO2.parts (by omega)
      cases e2
      have d1 := hcell1 k (by omega)
      have d2 := hcell2 k (by omega)
      have f1 := hfr1 k
      have f2 := hfr2 k
      obtain ⟨p1, q1⟩ := hO1.store (by omega) k (.int .i64 (-1))
      have hO2' := hO2.grown q1 (fun x hx => .inr (fun e => by cases hx; exact hne' (Option.some.inj e)))
      obtain ⟨p2, q2⟩ := hO2'.store (by omega) k (.int .i64 (-1))
      have hO1' := p1.grown q2 (fun x hx => .inr (fun e => by cases hx; exact hne (Option.some.inj e)))
      have hB2 := (hB.setCell (p := ⟨g1, k, none⟩) HGL.out.1 (.int .i64 (-1))).setCell (p := ⟨g2, k, none⟩) HGL.out.2 (.int .i64 (-1))
      have HP2 := Lib.hid p2
      have HO1' := Lib.hid hO1'
      have HB2 := Lib.hid hB2
      clear hcell1 hcell2 hfr1 hfr2 hO1 hO2 p1 q1 hO2' p2 q2 hO1' hB hB2
      go_wp2
      go_roundw
      case rel => exact ⟨k + 1, _, _, by omega, by go_num, HO1'.out, HP2.out, fun j hj => by
        by_cases h : j = k
        · subst h; exact ⟨by rw [List.getElem?_set_self (by omega)], by rw [List.getElem?_set_self (by omega)]⟩
        · rw [List.getElem?_set_ne (fun e => h e.symm), List.getElem?_set_ne (fun e => h e.symm)]; exact HM.out j (by omega), HB2.out⟩
      case measure => simp [intOf]; omega
    · have e1 : c1 = (List.replicate n (-1)).map (Value.int .i64) := list_eq_of (n := n) (by omega) (by simp) (fun i hi => by rw [(HM.out i (by omega)).1]; simp [hi])
      have e2 : c2 = (List.replicate n (-1)).map (Value.int .i64) := list_eq_of (n := n) (by omega) (by simp) (fun i hi => by rw [(HM.out i (by omega)).2]; simp [hi])
      subst e1 e2
      have hR : RidO wr w.heap.size g1 g2 n (runS cs 0).on (runS cs 0).off := by
        have e : runS cs 0 = ⟨List.replicate n (-1), List.replicate n (-1), 0, 1⟩ := by rw [HNN.out]; rfl
        rw [e]; exact ⟨hO1, hO2, hne⟩
      clear hO1 hO2 HM hl1 hl2
      go_wp2_with fail
      go_loopw [9, 10, 11] (fun fv hv tv W => ∃ (k : Nat) (s : RSt), k ≤ 901 ∧ tv = .int .i64 k ∧ fv = .int .i64 s.fl ∧ hv = .int .i64 s.hd ∧ Hid (s = runS cs k) ∧ RidO W w.heap.size g1 g2 n s.on s.off ∧ Below w.heap.size w W) (fun _ _ tv _ => 901 - (intOf tv).toNat)
      case atStart => exact ⟨0, runS cs 0, by omega, rfl, rfl, rfl, rfl, hR, hB⟩
      case round =>
        clear hR hB hk hlt
        obtain ⟨t, s, ht, rfl, rfl, rfl, HS, hR, hB⟩ := hrel
        have hI : InvS cs s := by rw [HS.out]; exact runS_inv HOK.out t ht
        by_cases ht9 : t ≤ 900
        · have htz : (t : Int) ≤ 900 := by omega
          by_cases hd : dnS cs s
          · have HW : Hid (false = decide ((-1 : Int) ∈ s.off)) := (decide_eq_false ((dn_iff hI).1 hd)).symm
            have HE := Lib.hid (HFIN.out s wr g1 g2 (by rw [HS.out, runS_end ht (by rw [← HS.out]; exact hd)]) hR hB)
            have HR := Lib.hid hR
            clear hI hd hR
            go_wp2_with (go_at_call 89; with_reducible refine (spec_waiting _ w.heap.size _ s.off false HW.out HR.out.rd2).mono ?_; rintro e' w2 ⟨rfl, rfl⟩)
            refine bodyPost_ret (v := .tuple #[.slice (some ⟨g1, 0, none⟩) n n, .slice (some ⟨g2, 0, none⟩) n n]) (by simp [results, Tryz.results65, go_sem]) rfl ?_
            exact HE.out
          · have HW : Hid (true = decide ((-1 : Int) ∈ s.off)) := (decide_eq_true (Classical.not_not.1 (fun h => hd ((dn_iff hI).2 h)))).symm
            have HST : Hid (runS cs (t + 1) = stepS cs t s) := by unfold Hid; rw [runS_go (by rw [← HS.out]; exact hd), HS.out]
            have hflo := hI.flo
            have hhdo := hI.hdo
            have HHD := Lib.hid hhdo
            have HIN := Lib.hid hI
            have HRid := Lib.hid hR
            clear hI hd HS hhdo hR
            obtain ⟨on, off, fl, hd⟩ := s
            simp only at HW HST hflo HHD HRid
            go_wp2_with (go_at_call 89; with_reducible refine (spec_waiting _ w.heap.size _ off true HW.out HRid.out.rd2).mono ?_; rintro e' w2 ⟨rfl, rfl⟩)
            go_loopw [12, 13] (fun sv iv W => ∃ (j : Nat) (b : Bool) (off1 : List Int), j ≤ n ∧ iv = .int .i64 j ∧ sv = .bool b ∧ Hid (outS cs t fl on off j = (off1, b)) ∧ RidO W w.heap.size g1 g2 n on off1 ∧ Below w.heap.size w W) (fun _ iv _ => n - (intOf iv).toNat)
            case atStart => exact ⟨0, false, off, Nat.zero_le _, rfl, rfl, rfl, HRid.out, hB⟩
            case round =>
              clear HRid hB
              obtain ⟨j, b, off1, hj, rfl, rfl, HJ, hR, hB⟩ := hrel
              by_cases hjn : j < n
              · obtain ⟨a1, a2, _, f2, _, gl2⟩ := hR.at hjn
                obtain ⟨b2, o2, rfl, _, hb2, hx2⟩ := HC.out.spot (by have := HNN.out; omega)
                obtain ⟨_, z2, _⟩ := hx2 j (by have := HNN.out; omega)
                have a3 := (hB.cell (p := ⟨b2, o2 + j * 3 + 1, none⟩) hb2).trans z2
                have HY : Hid (0 ≤ on.getD j 0 → off1.getD j 0 < 0 → (cs.getD j c0).2.1 = fl → outS cs t fl on off (j + 1) = (off1.set j t, true)) := fun h1 h2 h3 => outR_yes HJ.out h1 h2 h3
                have HN : Hid (¬ (0 ≤ on.getD j 0 ∧ off1.getD j 0 < 0 ∧ (cs.getD j c0).2.1 = fl) → outS cs t fl on off (j + 1) = (off1, b)) := fun h => outR_not HJ.out h
                obtain ⟨x, hx⟩ : ∃ x, x = on.getD j 0 := ⟨_, rfl⟩
                obtain ⟨y, hy⟩ : ∃ y, y = off1.getD j 0 := ⟨_, rfl⟩
                obtain ⟨z, hz⟩ : ∃ z, z = (cs.getD j c0).2.1 := ⟨_, rfl⟩
                rw [← hx] at a1 HY HN
                rw [← hy] at a2 HY HN
                rw [← hz] at a3 HY HN
                clear hx2 z2 hx hy hz HJ
                have HR := Lib.hid hR
                have HB := Lib.hid hB
                clear hR hB
                by_cases h1 : 0 ≤ x
                · by_cases h2 : y < 0
                  · by_cases h3 : z = fl
                    · have t3 : (z == fl) = true := by simp [h3]
                      have HE := Lib.hid (HY.out h1 h2 h3)
                      clear HY HN h3
                      go_wp2_with fail
                      go_roundw
                      case rel => exact ⟨j + 1, true, off1.set j t, by omega, by go_num, rfl, HE.out, HR.out.setOff j hjn t, HB.out.setCell (p := ⟨g2, j, none⟩) HGL.out.2 _⟩
                      case measure => simp [intOf]; omega
                    · have t3 : (z == fl) = false := by simp [h3]
                      have HE := Lib.hid (HN.out (fun h => h3 h.2.2))
                      clear HY HN h3
                      go_wp2_with fail
                      go_roundw
                      case rel => exact ⟨j + 1, b, off1, by omega, by go_num, rfl, HE.out, HR.out, HB.out⟩
                      case measure => simp [intOf]; omega
                  · have HE := Lib.hid (HN.out (fun h => h2 h.2.1))
                    clear HY HN
                    go_wp2_with fail
                    go_roundw
                    case rel => exact ⟨j + 1, b, off1, by omega, by go_num, rfl, HE.out, HR.out, HB.out⟩
                    case measure => simp [intOf]; omega
                · have HE := Lib.hid (HN.out (fun h => h1 h.1))
                  clear HY HN
                  go_wp2_with fail
                  go_roundw
                  case rel => exact ⟨j + 1, b, off1, by omega, by go_num, rfl, HE.out, HR.out, HB.out⟩
                  case measure => simp [intOf]; omega
              · have ejn : j = n := by omega
                have HJ2 : Hid (outS cs t fl on off cs.length = (off1, b)) := by unfold Hid; rw [← HNN.out, ← ejn]; exact HJ.out
                have hjz : ¬ (j : Int) < (n : Int) := by omega
                clear HJ hj ejn
                go_wp2_with fail
                go_loopw [12, 14] (fun sv iv W => ∃ (j : Nat) (b2 : Bool) (on1 : List Int), j ≤ n ∧ iv = .int .i64 j ∧ sv = .bool (b || b2) ∧ Hid (inS cs t fl off1 on j = (on1, b2)) ∧ RidO W w.heap.size g1 g2 n on1 off1 ∧ Below w.heap.size w W) (fun _ iv _ => n - (intOf iv).toNat)
                case atStart => exact ⟨0, false, on, Nat.zero_le _, rfl, by simp, rfl, hR, hB⟩
                case round =>
                  clear hR hB
                  obtain ⟨j, b2, on1, hj, rfl, rfl, HJ, hR, hB⟩ := hrel
                  by_cases hjn : j < n
                  · obtain ⟨a1, _, f1, _, gl1, _⟩ := hR.at hjn
                    obtain ⟨b3, o2, rfl, _, hb2, hx2⟩ := HC.out.spot (by have := HNN.out; omega)
                    obtain ⟨z1, _, z3⟩ := hx2 j (by have := HNN.out; omega)
                    have a3 := (hB.cell (p := ⟨b3, o2 + j * 3, none⟩) hb2).trans z1
                    have a5 := (hB.cell (p := ⟨b3, o2 + j * 3 + 2, none⟩) hb2).trans z3
                    obtain ⟨q, hq⟩ : ∃ q, q = insd on1 off1 n := ⟨_, rfl⟩
                    have HY : Hid (on1.getD j 0 < 0 → (cs.getD j c0).2.2 ≤ t → (cs.getD j c0).1 = fl → q < 4 → inS cs t fl off1 on (j + 1) = (on1.set j t, true)) := fun h1 h2 h3 h4 => inR_yes HJ.out h1 h2 h3 (by rw [← HNN.out, ← hq]; exact h4)
                    have HN : Hid (¬ (on1.getD j 0 < 0 ∧ (cs.getD j c0).2.2 ≤ t ∧ (cs.getD j c0).1 = fl ∧ q < 4) → inS cs t fl off1 on (j + 1) = (on1, b2)) := fun h => inR_not HJ.out (by rw [← HNN.out, ← hq]; exact h)
                    have HI : Hid (Calls Tryz.prog 90 #[.slice (some ⟨g1, 0, none⟩) n n, .slice (some ⟨g2, 0, none⟩) n n] wr fun e w' => e = .returned (.int .i64 q) ∧ wr = w') :=
                      spec_inside wr w.heap.size w.heap.size _ _ on1 off1 n hR.rd1 hR.rd2 hR.ll.1 hR.ll.2 h12 q hq
                    obtain ⟨x, hx⟩ : ∃ x, x = on1.getD j 0 := ⟨_, rfl⟩
                    obtain ⟨z, hz⟩ : ∃ z, z = (cs.getD j c0).1 := ⟨_, rfl⟩
                    obtain ⟨m, hm⟩ : ∃ m, m = (cs.getD j c0).2.2 := ⟨_, rfl⟩
                    rw [← hx] at a1 HY HN
                    rw [← hz] at a3 HY HN
                    rw [← hm] at a5 HY HN
                    clear hx2 z1 z3 hx hz hm hq HJ
                    have HR := Lib.hid hR
                    have HB := Lib.hid hB
                    clear hR hB
                    by_cases h1 : x < 0
                    · by_cases h2 : m ≤ t
                      · by_cases h3 : z = fl
                        · have t3 : (z == fl) = true := by simp [h3]
                          by_cases h4 : q < 4
                          · have h4z : (q : Int) < 4 := by omega
                            have d4 : decide (q < 4) = true := decide_eq_true h4
                            have HE := Lib.hid (HY.out h1 h2 h3 h4)
                            clear HY HN h3
                            go_wp2_with (go_at_call 90; refine HI.out.mono ?_; rintro e' w2 ⟨rfl, rfl⟩)
                            go_roundw
                            case rel => exact ⟨j + 1, true, on1.set j t, by omega, by go_num, by simp, HE.out, HR.out.setOn j hjn t, HB.out.setCell (p := ⟨g1, j, none⟩) HGL.out.1 _⟩
                            case measure => simp [intOf]; omega
                          · have h4z : ¬ (q : Int) < 4 := by omega
                            have d4 : decide (q < 4) = false := decide_eq_false h4
                            have HE := Lib.hid (HN.out (fun h => h4 h.2.2.2))
                            clear HY HN h3
                            go_wp2_with (go_at_call 90; refine HI.out.mono ?_; rintro e' w2 ⟨rfl, rfl⟩)
                            go_roundw
                            case rel => exact ⟨j + 1, b2, on1, by omega, by go_num, rfl, HE.out, HR.out, HB.out⟩
                            case measure => simp [intOf]; omega
                        · have t3 : (z == fl) = false := by simp [h3]
                          have HE := Lib.hid (HN.out (fun h => h3 h.2.2.1))
                          clear HY HN h3
                          go_wp2_with fail
                          go_roundw
                          case rel => exact ⟨j + 1, b2, on1, by omega, by go_num, rfl, HE.out, HR.out, HB.out⟩
                          case measure => simp [intOf]; omega
                      · have HE := Lib.hid (HN.out (fun h => h2 h.2.1))
                        clear HY HN
                        go_wp2_with fail
                        go_roundw
                        case rel => exact ⟨j + 1, b2, on1, by omega, by go_num, rfl, HE.out, HR.out, HB.out⟩
                        case measure => simp [intOf]; omega
                    · have HE := Lib.hid (HN.out (fun h => h1 h.1))
                      clear HY HN
                      go_wp2_with fail
                      go_roundw
                      case rel => exact ⟨j + 1, b2, on1, by omega, by go_num, rfl, HE.out, HR.out, HB.out⟩
                      case measure => simp [intOf]; omega
                  · have ejn : j = n := by omega
                    have HJ3 : Hid (inS cs t fl off1 on cs.length = (on1, b2)) := by unfold Hid; rw [← HNN.out, ← ejn]; exact HJ.out
                    have hjz : ¬ (j : Int) < (n : Int) := by omega
                    clear HJ hj ejn
                    obtain ⟨b9, hb9⟩ : ∃ b9, b9 = (b || b2) := ⟨_, rfl⟩
                    rw [← hb9]
                    have HB9 := Lib.hid hb9
                    clear hb9
                    cases b9
                    · have HE := Lib.hid (HST.out.trans (step_drive (s := ⟨on, off, fl, hd⟩) HJ2.out HJ3.out HB9.out.symm))
                      simp only at HE
                      have HE := HE
                      obtain ⟨L, hL⟩ : ∃ L, L = tg cs t on1 off1 cs.length := ⟨_, rfl⟩
                      obtain ⟨hd2, hh2⟩ : ∃ h, h = turnS L fl hd := ⟨_, rfl⟩
                      obtain ⟨m, hm⟩ : ∃ m : Int, m = if ahd L fl hd2 = true then hd2 else 0 := ⟨_, rfl⟩
                      have hhd2 : hd2 = 1 ∨ hd2 = -1 := by
                        have := HHD.out
                        rw [hh2]; unfold turnS; split <;> omega
                      have hmb : -1 ≤ m ∧ m ≤ 1 := by rw [hm]; split <;> omega
                      have HE2 : Hid (runS cs (t + 1) = ⟨on1, off1, fl + m, hd2⟩) := by
                        unfold Hid; rw [HE.out, ← hL, ← hh2, ← hm]
                      have HT : Hid (∀ W, RidO W w.heap.size g1 g2 n on1 off1 → Below w.heap.size w W → Calls Tryz.prog 91 #[.slice aoc n capc, .slice (some ⟨g1, 0, none⟩) n n, .slice (some ⟨g2, 0, none⟩) n n, .int .i64 t, .int .i64 fl, .int .i64 hd] W fun e w' => e = .returned (.int .i64 hd2) ∧ Below W.heap.size W w') := fun W hR hB =>
                        spec_turnAround W lo w.heap.size w.heap.size _ _ _ cs on1 off1 t fl hd HOK.out (by have := Rd.below HC.out hB (Nat.le_refl _) (by decide); rw [← HNN.out] at this; unfold Cls; rw [← HNN.out]; exact this) hR.rd1 hR.rd2 (by rw [hR.ll.1]; exact HNN.out) (by rw [hR.ll.2]; exact HNN.out) (by rw [← HNN.out]; exact h12) hflo HHD.out hd2 (by rw [← hL]; exact hh2)
                      have HM : Hid (∀ W, RidO W w.heap.size g1 g2 n on1 off1 → Below w.heap.size w W → Calls Tryz.prog 92 #[.slice aoc n capc, .slice (some ⟨g1, 0, none⟩) n n, .slice (some ⟨g2, 0, none⟩) n n, .int .i64 t, .int .i64 fl, .int .i64 hd2] W fun e w' => e = .returned (.int .i64 m) ∧ Below W.heap.size W w') := fun W hR hB =>
                        spec_moveOf W lo w.heap.size w.heap.size _ _ _ cs on1 off1 t fl hd2 HOK.out (by have := Rd.below HC.out hB (Nat.le_refl _) (by decide); rw [← HNN.out] at this; unfold Cls; rw [← HNN.out]; exact this) hR.rd1 hR.rd2 (by rw [hR.ll.1]; exact HNN.out) (by rw [hR.ll.2]; exact HNN.out) (by rw [← HNN.out]; exact h12) hflo hhd2 m (by rw [← hL]; exact hm)
                      have wr1 : IntKind.i64.wrap (fl + m) = fl + m := IntWalk.i64_in _ (by omega)
                      have HR := Lib.hid hR
                      have HB := Lib.hid hB
                      clear hR hB HE hL hh2 hm hhd2 hmb
                      go_wp2_with (first
                        | (go_at_call 91; with_reducible refine (HT.out _ HR.out HB.out).mono ?_; rintro e' w3 ⟨rfl, hB3⟩; have HR3 := Lib.hid (HR.out.below hB3); have HB3 := Lib.hid (HB.out.trans (hB3.mono HB.out.size)); clear hB3)
                        | (go_at_call 92; with_reducible refine (HM.out _ HR3.out HB3.out).mono ?_; rintro e' w4 ⟨rfl, hB4⟩; have HR4 := Lib.hid (HR3.out.below hB4); have HB4 := Lib.hid (HB3.out.trans (hB4.mono HB3.out.size)); clear hB4))
                      go_roundw
                      case rel => exact ⟨t + 1, ⟨on1, off1, fl + m, hd2⟩, by omega, by go_num, rfl, rfl, HE2.out.symm, HR4.out, HB4.out⟩
                      case measure => simp [intOf]; omega
                    · have HE := Lib.hid (HST.out.trans (step_stay (s := ⟨on, off, fl, hd⟩) HJ2.out HJ3.out HB9.out.symm))
                      go_wp2_with fail
                      go_roundw
                      case rel => exact ⟨t + 1, ⟨on1, off1, fl, hd⟩, by omega, by go_num, rfl, rfl, HE.out.symm, hR, hB⟩
                      case measure => simp [intOf]; omega
        · have htz : ¬ (t : Int) ≤ 900 := by omega
          have HE := Lib.hid (HFIN.out s wr g1 g2 (by rw [HS.out, show t = 901 by omega]) hR hB)
          go_wp2_with fail
          refine bodyPost_ret (v := .tuple #[.slice (some ⟨g1, 0, none⟩) n n, .slice (some ⟨g2, 0, none⟩) n n]) (by simp [results, Tryz.results65, go_sem]) rfl ?_
          exact HE.out
end

section
open Go.RowKit
set_option linter.unusedVariables false
set_option linter.unusedSimpArgs false

theorem tot_facts {cs : List Cl} (h : clsOk cs) : (∀ i, i < cs.length → 0 ≤ (runS (sortC cs) 901).on.getD i 0 ∧ (runS (sortC cs) 901).on.getD i 0 ≤ 900 ∧ 0 ≤ ((sortC cs).getD i c0).2.2 ∧ ((sortC cs).getD i c0).2.2 ≤ 200) ∧
    (∀ k, k ≤ cs.length → 0 ≤ sumW (sortC cs) (runS (sortC cs) 901).on k ∧ sumW (sortC cs) (runS (sortC cs) 901).on k ≤ 900 * k) := by
  have hs := sortC_ok h
  have hl := sortC_len cs
  have hc := clsOk_at hs
  have ha := all_left hc hs.1
  have hL := runS_late hc 901 (Nat.le_refl _)
  have hI := runS_inv hc 901 (Nat.le_refl _)
  refine ⟨fun i hi => ?_, fun k hk => sumW_bd (on := (runS (sortC cs) 901).on) hc (fun i hi => ⟨hL i hi (ha.2 i hi), (hI.son i hi).2⟩) k (by omega)⟩
  have h1 := ha.2 i (by omega)
  have h2 := (hI.son i (by omega)).2
  have h3 := hc i (by omega)
  unfold clOk at h3
  exact ⟨h1, h2, h3.2.2.2.2.2⟩
theorem cls_of_own {w : World} {lo n : Nat} {v : Value} {cs : List Cl} (h : Own w lo 73 3 v n (cs.flatMap clCells)) (hn : cs.length = n) : Cls w lo v cs := by
  unfold Cls; rw [hn]; exact h.rd

theorem own_lenN {w : World} {lo n : Nat} {v : Value} {l : List Int} (h : Own w lo 3 1 v n (l.map (Value.int .i64))) : l.length = n := by
  have := h.len; simpa using this
theorem own_rdN {w : World} {lo n : Nat} {v : Value} {l : List Int} (h : Own w lo 3 1 v n (l.map (Value.int .i64))) : Ints w lo v l := by
  unfold Ints; rw [own_lenN h]; exact h.rd
set_option maxRecDepth 100000 in
set_option maxHeartbeats 8000000 in
theorem spec_totalWait (w : World) (v : Value) (cs : List Cl) (hv : Cls w 0 v cs) (hok : clsOk cs) :
    Calls Tryz.prog 46 #[v, .int .i64 0] w fun e w' => e = .returned (.int .i64 (totW cs)) ∧ Below w.heap.size w w' := by
  have HV := Lib.hid (spec_validCalls w 0 v cs true (decide_eq_true hok).symm hv)
  have HSO : Hid (∀ W, Below w.heap.size w W → Calls Tryz.prog 64 #[v] W (SortRet W cs)) := fun W hB => spec_sortCalls W v cs (Rd.below hv hB (Nat.le_refl _) (by decide)) (by have := hok.1; omega)
  have HF := Lib.hid (tot_facts hok)
  have h12 := hok.1
  obtain ⟨n, hnn⟩ : ∃ n, n = cs.length := ⟨_, rfl⟩
  obtain ⟨ss, hss⟩ : ∃ ss, ss = sortC cs := ⟨_, rfl⟩
  obtain ⟨on, hon⟩ : ∃ on, on = (runS (sortC cs) 901).on := ⟨_, rfl⟩
  have hsl : ss.length = n := by rw [hss, sortC_len, hnn]
  have HRI : Hid (∀ W v2, Own W 0 73 3 v2 n (ss.flatMap clCells) → Calls Tryz.prog 65 #[v2, .int .i64 0] W (fun e w' => ∃ v3 v4, e = .returned (.tuple #[v3, v4]) ∧ Own w' W.heap.size 3 1 v3 n (on.map (Value.int .i64)) ∧ Below W.heap.size W w')) := fun W v2 h => by
    have hk : clsOk ss := by rw [hss]; exact sortC_ok hok
    refine (spec_ride W 0 v2 ss (cls_of_own h hsl) hk).mono ?_
    rintro e w' ⟨v3, v4, rfl, h1, h2, h3⟩
    refine ⟨v3, v4, rfl, ?_, h3⟩
    rw [hon, ← hss, ← hsl]; exact h1
  have HT : Hid (totW cs = sumW ss on n) := by unfold Hid totW; rw [hss, hon, hnn]
  have HSR : Hid (∀ (W : World) (v' : Value) (W' : World), Own W' W.heap.size 73 3 v' cs.length ((sortC cs).flatMap clCells) → Own W' W.heap.size 73 3 v' n (ss.flatMap clCells)) := fun W v' W' h => by rw [hss, hnn]; exact h
  have HF1 : Hid ((∀ i, i < n → 0 ≤ on.getD i 0 ∧ on.getD i 0 ≤ 900 ∧ 0 ≤ (ss.getD i c0).2.2 ∧ (ss.getD i c0).2.2 ≤ 200) ∧ (∀ k, k ≤ n → 0 ≤ sumW ss on k ∧ sumW ss on k ≤ 900 * k)) := by unfold Hid; rw [hnn, hss, hon]; exact HF.out
  rw [← hnn] at h12
  have HSL := Lib.hid hsl
  clear hv hok hnn hss hon HF hsl
  have d1 : (decide ((0 : Int) ≤ 0) && decide ((0 : Int) ≤ 15)) = true := rfl
  go_enter Tryz.func46, Tryz.ntmps46
  go_wp2_with (first
    | (go_at_call 63; refine HV.out.mono ?_; rintro e' w1 ⟨rfl, hB1⟩; have HB1 := Lib.hid hB1; clear hB1)
    | (go_at_call 61; with_reducible refine (inRange_dec 0 0 15 true _ d1).mono ?_; rintro e' w2 ⟨rfl, rfl⟩)
    | (go_at_call 64; refine (HSO.out _ HB1.out).mono ?_; rintro e' w3 ⟨v3, rfl, hO3, hB3⟩; have HO3 := Lib.hid (HSR.out _ _ _ hO3); have HB3 := Lib.hid (HB1.out.trans (hB3.mono HB1.out.size)); clear hO3 hB3)
    | (go_at_call 65; refine (HRI.out _ _ (HO3.out.mono (Nat.zero_le _))).mono ?_; rintro e' w4 ⟨v4, v5, rfl, hO4, hB4⟩; have HO5 := Lib.hid (HO3.out.below hB4 (Nat.le_refl _)); have HO4 := Lib.hid hO4; have HB4 := Lib.hid (HB3.out.trans (hB4.mono HB3.out.size)); obtain ⟨a4, c4, rfl, hc4, hm4⟩ := hO4.form; obtain ⟨a3, c3, rfl, hc3, hm3⟩ := HO3.out.form; clear hO4 hB4))
  go_loopw [8, 9] (fun sv iv W => ∃ (k : Nat) (q : Int), k ≤ n ∧ iv = .int .i64 k ∧ sv = .int .i64 q ∧ Hid (q = sumW ss on k) ∧ ∃ m, W = w4.drewN m) (fun _ iv _ => n - (intOf iv).toNat)
  case atStart => exact ⟨0, 0, Nat.zero_le _, rfl, rfl, rfl, 0, rfl⟩
  case round =>
    obtain ⟨k, q, hk, rfl, rfl, HQ, m, rfl⟩ := hrel
    by_cases hlt : k < n
    · have hkk : (k : Int) < (n : Int) := by omega
      obtain ⟨b4, o4, rfl, _, hb4, hx4⟩ := (own_rdN HO4.out).spot 0 (by have := own_lenN HO4.out; omega)
      obtain ⟨b3, o3, rfl, _, hb3, hx3⟩ := (cls_of_own HO5.out HSL.out).spot (by have := HSL.out; omega)
      have s1 := hx4 k (by have := own_lenN HO4.out; omega)
      obtain ⟨_, _, s2⟩ := hx3 k (by have := HSL.out; omega)
      have hb := HF1.out.1 k hlt
      have hq1 := HF1.out.2 k hk
      rw [← HQ.out] at hq1
      have HN : Hid (sumW ss on (k + 1) = q + (on.getD k 0 - (ss.getD k c0).2.2)) := by rw [HQ.out]; rfl
      obtain ⟨x, hx⟩ : ∃ x, x = on.getD k 0 := ⟨_, rfl⟩
      obtain ⟨y, hy⟩ : ∃ y, y = (ss.getD k c0).2.2 := ⟨_, rfl⟩
      rw [← hx] at s1 hb HN
      rw [← hy] at s2 hb HN
      have wr1 : IntKind.i64.wrap (q + x) = q + x := IntWalk.i64_in _ (by omega)
      have wr2 : IntKind.i64.wrap (q + x - y) = q + x - y := IntWalk.i64_in _ (by omega)
      clear hx4 hx3 hx hy HQ
      go_wp2_with fail
      go_quiet (fail)
      go_wp2
      go_roundw
      case rel => exact ⟨k + 1, q + x - y, by omega, by go_num, rfl, by unfold Hid; rw [HN.out]; omega, _, rfl⟩
      case measure => simp [intOf]; omega
    · have hkk : ¬ (k : Int) < (n : Int) := by omega
      have HE : Hid (totW cs = q) := by unfold Hid; rw [HT.out, HQ.out, show k = n by omega]
      have HB5 := Lib.hid (below_drewN HB4.out m)
      go_wp2_with fail
      go_ret
      exact ⟨by rw [HE.out]; rfl, HB5.out⟩
end
end Go.Proofs.YtpaioaknppgggaaGreatDoor
