/- ConflictsOf: the program's. -/
import Derived.Test.YtokpgipbgkiepaaPlE
namespace Go.Proofs.Ytokpgipbgkiepaa
open Go.RowKit
set_option linter.unusedVariables false
set_option linter.unusedSimpArgs false

def RowsB (w : World) (g B n : Nat) (t : List (List Int)) (hs : List Value) (a : Nat) : Prop :=
  B ≤ w.heap.size ∧ ∀ j, j < a → ∃ b1, hs[j]? = some (.slice (some ⟨b1, 0, none⟩) n n) ∧ g < b1 ∧ b1 < B ∧ ∀ c, c < n → w.cell? ⟨b1, c, none⟩ = some (.bool (decide (0 < tat t j c)))
theorem RowsB.grown {w w' : World} {g B n a : Nat} {t : List (List Int)} {hs : List Value} {row : Option Nat} (h : RowsB w g B n t hs a) (hg : w.grownBy w' row) (hr : ∀ k, row = some k → k ≤ g ∨ B ≤ k) : RowsB w' g B n t hs a := by
  refine ⟨Nat.le_trans h.1 hg.size, fun j hj => ?_⟩
  obtain ⟨b1, q1, q2, q3, q4⟩ := h.2 j hj
  refine ⟨b1, q1, q2, q3, fun c hc => ?_⟩
  rw [← q4 c hc]
  exact World.cell?_of_block (hg.block b1 (by have := h.1; omega) (fun e => by rcases hr b1 e.symm with h | h <;> omega))
theorem RowsB.set {w : World} {g B n a : Nat} {t : List (List Int)} {hs : List Value} (h : RowsB w g B n t hs a) (u : Value) : RowsB w g B n t (hs.set a u) a := by
  refine ⟨h.1, fun j hj => ?_⟩
  obtain ⟨b1, q1, q⟩ := h.2 j hj
  exact ⟨b1, by rw [List.getElem?_set_ne (by omega)]; exact q1, q⟩
theorem info_boolsl : (Try.prog.info? 100).map (fun i => (i.zero, i.size, i.bytes)) = some (some (.slice none 0 0), 1, 24) := by kernel_rfl
theorem info_bool1 : (Try.prog.info? 4).map (fun i => (i.zero, i.size, i.bytes)) = some (some (.bool false), 1, 1) := by kernel_rfl

def ConfRet (w : World) (t : List (List Int)) (e : Ending) (w' : World) : Prop := ∃ v', e = .returned v' ∧ ConfR w' w.heap.size v' t ∧ Below w.heap.size w w'

set_option maxHeartbeats 4000000 in
theorem impl_conflictsOf (w : World) (lo : Nat) (v : Value) (t : List (List Int)) (hv : IntSS w lo v t) (hval : validCl t = true) :
    Calls Try.prog 39 #[v] w (ConfRet w t) := by
  obtain ⟨ao, cap, rfl, hcap, hm⟩ := hv.form
  obtain ⟨hn1, hn2, hrow, hsym⟩ := validCl_iff.1 hval
  obtain ⟨b, off, rfl, _, hb, hc⟩ := hv.spot (by omega)
  have HC := Lib.hid hc
  have HROW := Lib.hid hrow
  have HV := Lib.hid hval
  obtain ⟨i0, hi, hz0, hz1, hz2⟩ := info_parts info_boolsl
  obtain ⟨i1, hj, hy0, hy1, hy2⟩ := info_parts info_bool1
  have hv0 := hv
  clear hc hrow hsym hv
  go_enter Try.func39, Try.ntmps39
  go_wp2_with fail
  go_at_call 62
  refine (impl_validClearance _ _ _ t hv0).mono ?_; rintro e' w2 ⟨rfl, rfl⟩
  rw [hval]
  clear hval hv0
  go_wp2_with (at_make; refine wpList_make_full _ rfl _ _ 58 rfl w.heap.size 100 i0 (.slice none 0 0) 1 Try.underlying58 hi hz0 hz1 .i64 .i64 t.length t.length t.length rfl rfl rfl rfl (by rw [hz2]; omega) (by unfold maxLen; omega) (Nat.le_refl _) ?_; intro w1 hown hg1)
  have hO : Own w1 w.heap.size 100 1 (.slice (some ⟨w.heap.size, 0, none⟩) t.length t.length) t.length (madeCells (Value.slice none 0 0).cells (t.length * 1)).toList := .inl hown
  have hB := below_of_grownBy hg1 (Nat.le_refl _) (fun k hk => by cases hk)
  have hR0 : RowsB w1 w.heap.size w1.heap.size t.length t (madeCells (Value.slice none 0 0).cells (t.length * 1)).toList 0 := ⟨Nat.le_refl _, fun j hj => by omega⟩
  clear hown hg1
  go_loopw [16] (fun i wo => ∃ a : Nat, ∃ hs, a ≤ t.length ∧ i = .int .i64 a ∧ Own wo w.heap.size 100 1 (.slice (some ⟨w.heap.size, 0, none⟩) t.length t.length) t.length hs ∧ RowsB wo w.heap.size wo.heap.size t.length t hs a ∧ Below w.heap.size w wo)
    (fun i _ => t.length - (intOf i).toNat)
  case atStart => exact ⟨0, _, Nat.zero_le _, rfl, hO, hR0, hB⟩
  case round =>
    clear hO hR0 hB
    obtain ⟨a, hs, ha, rfl, hO, hR, hB⟩ := hrel
    by_cases hlt : a < t.length
    · obtain ⟨ai, ci, h1w, hIw⟩ := HC.out a hlt
      have hrl := (rowOk_iff.1 (HROW.out a hlt)).1
      rw [hrl] at h1w hIw
      obtain ⟨b1, off1, rfl, _, hb1, hx⟩ := hIw.spot 0 (by omega)
      obtain ⟨_, hc1, hc2⟩ := IntSS.rowlen hIw
      have h1 := (hB.cell (p := ⟨b, off + a, none⟩) hb).trans h1w
      have HX : Hid (∀ c, c < t.length → w.cell? ⟨b1, off1 + c, none⟩ = some (.int .i64 (tat t a c))) := fun c hc => hx c (by omega)
      have hsz := hB.size
      have hlen := hO.len
      obtain ⟨gO, e0, _, hgO, hcell, hfr, _⟩ := hO.parts (by omega)
      cases e0
      have hfa := hfr a
      have hca := hcell a (by omega)
      clear hx hIw hcell hfr h1w
      go_wp2_with (at_make; refine wpList_make_full _ rfl _ _ 100 rfl wr.heap.size 4 i1 (.bool false) 1 Try.underlying100 hj hy0 hy1 .i64 .i64 t.length t.length t.length rfl rfl rfl rfl (by rw [hy2]; omega) (by unfold maxLen; omega) (Nat.le_refl _) ?_; intro w3 hown hg3; have hI3 : Own w3 wr.heap.size 4 1 (.slice (some ⟨wr.heap.size, 0, none⟩) t.length t.length) t.length (madeCells (Value.bool false).cells (t.length * 1)).toList := .inl hown; have hO3 := hO.grown hg3 (fun k hk => by cases hk); have hca3 : w3.cell? ⟨w.heap.size, a, none⟩ = some (hs[a]'(by omega)) := (World.cell?_of_block (hg3.block w.heap.size hgO (fun e => by cases e))).trans hca; have hfa3 : w3.frozen? ⟨w.heap.size, a, none⟩ = false := (by obtain ⟨_, e0, _, _, _, hf, _⟩ := hO3.parts (by omega); cases e0; exact hf a); have hgl3 : w.heap.size < w3.heap.size := Nat.lt_of_lt_of_le hgO hg3.size)
      have hO3 : Own w3 w.heap.size 100 1 (.slice (some ⟨w.heap.size, 0, none⟩) t.length t.length) t.length hs := hO3
      have hI3 : Own w3 wr.heap.size 4 1 (.slice (some ⟨wr.heap.size, 0, none⟩) t.length t.length) t.length (madeCells (Value.bool false).cells (t.length * 1)).toList := hI3
      have hS := hO3.store (by omega) a (.slice (some ⟨wr.heap.size, 0, none⟩) t.length t.length)
      have hI4 := hI3.grown hS.2 (fun k hk => .inl (by cases hk; omega))
      have hR4 := ((hR.grown hg3 (fun k hk => by cases hk)).grown hS.2 (fun k hk => .inl (by cases hk; omega))).set (.slice (some ⟨wr.heap.size, 0, none⟩) t.length t.length)
      have hB4 := (hB.trans (below_of_grownBy hg3 hsz (fun k hk => by cases hk))).setCell (p := ⟨w.heap.size, a, none⟩) (Nat.le_refl _) (.slice (some ⟨wr.heap.size, 0, none⟩) t.length t.length)
      have hz4 : wr.heap.size < w3.heap.size := by
        obtain ⟨_, e0, _, h3, _⟩ := hI3.parts (by omega); cases e0; exact h3
      have hz5 : wr.heap.size < (w3.setCell ⟨w.heap.size, a, none⟩ (.slice (some ⟨wr.heap.size, 0, none⟩) t.length t.length)).heap.size := by simpa using hz4
      have hO4 := hS.1
      obtain ⟨hs', hhs⟩ : ∃ hs', hs' = hs.set a (.slice (some ⟨wr.heap.size, 0, none⟩) t.length t.length) := ⟨_, rfl⟩
      have hsa : hs'[a]? = some (.slice (some ⟨wr.heap.size, 0, none⟩) t.length t.length) := by rw [hhs, List.getElem?_set_self (by omega)]
      rw [← hhs] at hO4 hR4
      obtain ⟨w4, hw4⟩ : ∃ w4, w4 = w3.setCell ⟨w.heap.size, a, none⟩ (.slice (some ⟨wr.heap.size, 0, none⟩) t.length t.length) := ⟨_, rfl⟩
      rw [← hw4] at hI4 hR4 hB4 hO4 hz5 ⊢
      obtain ⟨B1, hB1⟩ : ∃ B1, B1 = wr.heap.size := ⟨_, rfl⟩
      rw [← hB1] at hI4 hR4 hsa hz5 hgO
      have hgB : w.heap.size < B1 := hgO
      have HSA := Lib.hid hsa
      clear hw4 hhs hS hI3 hO3 hg3 hown hca3 hfa3 hgl3 hca hfa hR hO hB h1 hz4 hsa hgO
      go_loopw [29] (fun i wi => ∃ c : Nat, ∃ cs, c ≤ t.length ∧ i = .int .i64 c ∧ Own wi B1 4 1 (.slice (some ⟨B1, 0, none⟩) t.length t.length) t.length cs ∧ (∀ j, j < c → cs[j]? = some (.bool (decide (0 < tat t a j)))) ∧ Own wi w.heap.size 100 1 (.slice (some ⟨w.heap.size, 0, none⟩) t.length t.length) t.length hs' ∧ RowsB wi w.heap.size B1 t.length t hs' a ∧ Below w.heap.size w wi)
        (fun i _ => t.length - (intOf i).toNat)
      case atStart => exact ⟨0, _, Nat.zero_le _, rfl, hI4, fun j hj => by omega, hO4, hR4, hB4⟩
      case round =>
        clear hI4 hR4 hB4 hO4 hz5 hB1
        obtain ⟨c, cs, hcl, rfl, hI, hcs, hO, hR, hB⟩ := hrel
        have hlen := hI.len
        have hlenO := hO.len
        obtain ⟨_, e0, _, hbI, hcI, hfI, _⟩ := hI.parts (by omega)
        cases e0
        by_cases hltc : c < t.length
        · have hx := (hB.cell (p := ⟨b1, off1 + c, none⟩) hb1).trans (HX.out c hltc)
          have hd := hcI c (by omega)
          have hf := hfI c
          obtain ⟨_, e0, _, hbO, hcO, _, _⟩ := hO.parts (by omega)
          cases e0
          obtain ⟨hla, hea⟩ := List.getElem?_eq_some_iff.1 HSA.out
          have hh := hcO a hla
          rw [hea] at hh
          obtain ⟨x, hxx⟩ : ∃ x, x = tat t a c := ⟨_, rfl⟩
          rw [← hxx] at hx
          have HXX := Lib.hid hxx
          have hS := hI.store (by omega) c (.bool (decide (0 < x)))
          have HF : Hid (Own (wr.setCell ⟨B1, c, none⟩ (.bool (decide (0 < x)))) w.heap.size 100 1 (.slice (some ⟨w.heap.size, 0, none⟩) t.length t.length) t.length hs' ∧ RowsB (wr.setCell ⟨B1, c, none⟩ (.bool (decide (0 < x)))) w.heap.size B1 t.length t hs' a ∧ Below w.heap.size w (wr.setCell ⟨B1, c, none⟩ (.bool (decide (0 < x))))) :=
            ⟨hO.grown hS.2 (fun k hk => .inr (by cases hk; simp [Value.ownBlock]; omega)), hR.grown hS.2 (fun k hk => .inr (by cases hk; exact Nat.le_refl _)), hB.setCell (by show w.heap.size ≤ B1; omega) _⟩
          have HI := Lib.hid hS.1
          have HCS := Lib.hid hcs
          clear hI hO hR hB hcI hfI hcO hxx hS hcs hea
          go_wp2_with fail
          go_roundw
          case rel => exact ⟨c + 1, _, by omega, by go_num, HI.out, fun j hj => by
            by_cases h : j = c
            · subst h; rw [List.getElem?_set_self (by omega), ← HXX.out]
            · rw [List.getElem?_set_ne (fun e => h e.symm)]; exact HCS.out j (by omega), HF.out⟩
          case measure => simp [intOf]; omega
        · have HF : Hid (RowsB wr w.heap.size wr.heap.size t.length t hs' (a + 1)) := by
            refine ⟨Nat.le_refl _, fun j hj => ?_⟩
            by_cases h : j = a
            · subst h
              refine ⟨B1, HSA.out, hgB, hbI, fun q hq => ?_⟩
              obtain ⟨hl, he⟩ := List.getElem?_eq_some_iff.1 (hcs q (by omega))
              rw [hcI q hl, he]
            · obtain ⟨b9, p1, p2, p3, p4⟩ := hR.2 j (by omega)
              exact ⟨b9, p1, p2, by omega, p4⟩
          clear hcs hI hcI hfI hR
          go_wp2_with fail
          go_roundw
          case rel => exact ⟨a + 1, hs', by omega, by go_num, hO, HF.out, hB⟩
          case measure => simp [intOf]; omega
    · obtain rfl : a = t.length := by omega
      have hF : Hid (ConfR wr w.heap.size (.slice (some ⟨w.heap.size, 0, none⟩) t.length t.length) t ∧ Below w.heap.size w wr) := by
        refine ⟨⟨w.heap.size, 0, t.length, rfl, Nat.le_refl _, by omega, Nat.le_refl _, ?_, fun j hj => ?_⟩, hB⟩
        · obtain ⟨_, e0, _, h3, _⟩ := hO.parts (by omega); cases e0; exact h3
        · obtain ⟨b1, q1, q2, q3, q4⟩ := hR.2 j hj
          obtain ⟨_, e0, _, _, hcell, _⟩ := hO.parts (by omega)
          cases e0
          obtain ⟨hl, he⟩ := List.getElem?_eq_some_iff.1 q1
          refine ⟨b1, 0, t.length, by rw [Nat.zero_add, hcell j hl, he], Nat.le_refl _, by omega, by omega, q3, fun c hc => by rw [Nat.zero_add]; exact q4 c hc⟩
      clear hO hR hB
      go_wp2_with fail
      go_ret
      exact ⟨_, rfl, hF.out⟩
end Go.Proofs.Ytokpgipbgkiepaa
