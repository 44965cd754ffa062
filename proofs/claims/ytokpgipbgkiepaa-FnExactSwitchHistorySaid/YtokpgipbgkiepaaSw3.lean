/- Plans that are switched: plain functions; no program. -/
import Derived.Test.YtokpgipbgkiepaaPlN
import Derived.Test.YtokpgipbgkiepaaPlP
namespace Go.Proofs.Ytokpgipbgkiepaa
set_option linter.unusedVariables false
set_option linter.unusedSimpArgs false

def br (a b : Pln) : Int := change a.cl (phA a 0) (phA b 0)
/-- The movements with green if a is replaced by b at the second T. -/
def swg (a b : Pln) (T s : Int) : List Int :=
  if s < T then grn a (s % cyc a) else if s < T + 5 then phA a 0 else if s < T + 5 + br a b then [] else grn b ((s - (T + 5 + br a b)) % cyc b)
def sameC (a b : Pln) : Bool := validP a && (validP b && decide (a.cl = b.cl))
def swV (a b : Pln) (f : Int) : Bool := sameC a b && inR f 0 9999
def swO (a b : Pln) (f s : Int) : List Int := if swV a b f = true ∧ inR s 0 9999 = true then swg a b (swt (cyc a) f) s else []
def spanB (first count : Int) : Bool := inR first 0 9999 && (inR count 0 150 && decide (first + count - 1 ≤ 9999))
def shO (a b : Pln) (f first count : Int) : List (List Int) := if swV a b f = true ∧ spanB first count = true then (List.range count.toNat).map fun (i : Nat) => swg a b (swt (cyc a) f) (first + (i : Int)) else []

theorem sameC_iff {a b : Pln} : sameC a b = true ↔ validP a = true ∧ validP b = true ∧ a.cl = b.cl := by
  simp [sameC]
theorem ph_st {p : Pln} (h : validP p = true) : 0 < p.st.length := by have := (validP_iff.1 h).2.1; omega
theorem br_bd {a b : Pln} (ha : validP a = true) (hb : validP b = true) (hc : a.cl = b.cl) : 0 ≤ br a b ∧ br a b ≤ 5 := by
  have h1 := (validP_st ha (ph_st ha)).1
  have h2 := (validP_st hb (ph_st hb)).1
  rw [← hc] at h2
  exact chg_bd (validP_iff.1 ha).1 h1 h2 _ (Nat.le_refl _)
theorem swt_nums {p : Pln} (h : validP p = true) {f : Int} (hf : inR f 0 9999 = true) : 0 ≤ swt (cyc p) f ∧ swt (cyc p) f ≤ 10224 := by
  obtain ⟨h1, h2⟩ := inR_iff.1 hf
  have hc := cyc_bd h
  have := swt_bd (c := cyc p) hc.1 h1
  omega
theorem swg_len {a b : Pln} {T s : Int} (ha : validP a = true) (hb : validP b = true) (hs : 0 ≤ s) (hT : 0 ≤ T) (hr : 0 ≤ br a b) : (swg a b T s).length ≤ 8 := by
  have hca := cyc_bd ha
  have hcb := cyc_bd hb
  unfold swg
  split
  · exact grn_len ha (Int.emod_nonneg _ (by omega)) (Int.emod_lt_of_pos _ (by omega))
  · split
    · have h8 := (validCl_iff.1 (validP_iff.1 ha).1).2.1
      have := movesB_len (validP_st ha (ph_st ha)).1 (by omega)
      unfold phA; omega
    · split
      · simp
      · exact grn_len hb (Int.emod_nonneg _ (by omega)) (Int.emod_lt_of_pos _ (by omega))
end Go.Proofs.Ytokpgipbgkiepaa
