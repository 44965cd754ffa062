/- The wave, the best offsets, and what the law asks of them: plain functions; no program. -/
import Derived.Test.YtbojkhmlfflakaaBo1
namespace Go.Proofs.Ytbojkhmlfflakaa
set_option linter.unusedVariables false
set_option linter.unusedSimpArgs false

/-- The offsets of a wave. -/
def wav (s : Str) : List Int := (List.range s.gr.length).map fun i => trS s i % s.cy
theorem wav_len (s : Str) : (wav s).length = s.gr.length := by simp [wav]
theorem wav_get {s : Str} {i : Nat} (hi : i < s.gr.length) : (wav s).getD i 0 = trS s i % s.cy := by simp [wav, hi]
theorem wav_zero {s : Str} (hv : validS s = true) : (wav s).getD 0 0 = 0 := by
  obtain ⟨hc, hg, _⟩ := validS_iff.1 hv
  rw [wav_get (by omega)]; simp [trS]
theorem wav_bd {s : Str} (hv : validS s = true) : ∀ x ∈ wav s, 0 ≤ x ∧ x < s.cy := by
  obtain ⟨hc, _⟩ := validS_iff.1 hv
  intro x hx
  simp only [wav, List.mem_map] at hx
  obtain ⟨i, _, rfl⟩ := hx
  exact ⟨Int.emod_nonneg _ (by omega), Int.emod_lt_of_pos _ (by omega)⟩
/-- Bands of both ways; -1 for others. -/
def tbO (s : Str) (offs : List Int) : Int := if offOk s offs = true then (tb s offs : Int) else -1
theorem offOk_iff {s : Str} {offs : List Int} : offOk s offs = true ↔ validS s = true ∧ offs.length = s.gr.length ∧ ∀ x ∈ offs, 0 ≤ x ∧ x ≤ s.cy - 1 := by
  unfold offOk
  simp only [Bool.and_eq_true, decide_eq_true_eq, allB, List.all_eq_true, inR_iff]
theorem tbO_pos {s : Str} {offs : List Int} (hv : validS s = true) (hl : offs.length = s.gr.length) (hb : ∀ x ∈ offs, 0 ≤ x ∧ x < s.cy) : tbO s offs = (tb s offs : Int) := by
  unfold tbO
  rw [if_pos (offOk_iff.2 ⟨hv, hl, fun x hx => by have := hb x hx; omega⟩)]
/-- How many ways there are. -/
def wys (s : Str) : Nat := s.cy.toNat ^ (s.gr.length - 1)
def bestO (s : Str) : List Int := if validS s = true ∧ wys s ≤ 900 then way s (am s (wys s)) else []
theorem way_len {s : Str} (hv : validS s = true) (w : Nat) : (way s w).length = s.gr.length := by
  obtain ⟨_, hg, _⟩ := validS_iff.1 hv
  simp only [way, List.length_cons, dgs_len]; omega
theorem way_bd {s : Str} (hv : validS s = true) (w : Nat) : ∀ x ∈ way s w, 0 ≤ x ∧ x < s.cy := by
  obtain ⟨hc, _⟩ := validS_iff.1 hv
  intro x hx
  have hcy : ((s.cy.toNat : Nat) : Int) = s.cy := by omega
  simp only [way, List.mem_cons] at hx
  rcases hx with rfl | hx
  · omega
  · have := dgs_bd (c := s.cy.toNat) (by omega) _ _ x hx; omega
theorem way_zero {s : Str} (hv : validS s = true) : way s 0 = List.replicate s.gr.length 0 := by
  obtain ⟨_, hg, _⟩ := validS_iff.1 hv
  unfold way
  rw [dgs_zero]
  obtain ⟨n, hn⟩ : ∃ n, s.gr.length = n + 1 := ⟨s.gr.length - 1, by omega⟩
  rw [hn]; rfl
theorem wys_pos {s : Str} (hv : validS s = true) : 1 ≤ wys s := by
  obtain ⟨hc, _⟩ := validS_iff.1 hv
  exact Nat.pow_pos (by omega)
theorem bestO_ok {s : Str} (hn : bestO s ≠ []) : validS s = true ∧ wys s ≤ 900 ∧ bestO s = way s (am s (wys s)) := by
  unfold bestO at hn ⊢
  by_cases h : validS s = true ∧ wys s ≤ 900
  · rw [if_pos h]; exact ⟨h.1, h.2, rfl⟩
  · rw [if_neg h] at hn; exact absurd rfl hn
/-- No choice of offsets with the first one zero is better. -/
theorem best_any {s : Str} (hn : bestO s ≠ []) {offs : List Int} (hl : offs.length = s.gr.length) (h0 : offs.getD 0 0 = 0) (hb : ∀ x ∈ offs, 0 ≤ x ∧ x < s.cy) : tbO s offs ≤ tbO s (bestO s) := by
  obtain ⟨hv, _, e⟩ := bestO_ok hn
  rw [e, tbO_pos hv hl hb, tbO_pos hv (way_len hv _) (way_bd hv _)]
  obtain ⟨w, hw, rfl⟩ := way_onto hv hl h0 hb
  exact_mod_cast am_best s (wys s) w hw
theorem best_wave {s : Str} (hn : bestO s ≠ []) : tbO s (wav s) ≤ tbO s (bestO s) := by
  have hv := (bestO_ok hn).1
  exact best_any hn (wav_len s) (wav_zero hv) (wav_bd hv)
theorem best_equal {s : Str} (hn : bestO s ≠ []) (e : Nat) (he : (e : Int) < s.cy) : tbO s (List.replicate s.gr.length (e : Int)) ≤ tbO s (bestO s) := by
  have hv := (bestO_ok hn).1
  obtain ⟨hc, hg, _⟩ := validS_iff.1 hv
  have h1 : tbO s (List.replicate s.gr.length (e : Int)) = tbO s (List.replicate s.gr.length 0) := by
    rw [tbO_pos hv (by simp) (fun x hx => by have := List.eq_of_mem_replicate hx; omega), tbO_pos hv (by simp) (fun x hx => by have := List.eq_of_mem_replicate hx; omega), tb_equal hc.1]
  rw [h1]
  refine best_any hn (by simp) ?_ (fun x hx => by have := List.eq_of_mem_replicate hx; omega)
  rw [List.getD_eq_getElem?_getD, List.getElem?_replicate]; split <;> rfl
theorem best_first {s : Str} (hn : bestO s ≠ []) : (bestO s).getD 0 0 = 0 := by
  obtain ⟨_, _, e⟩ := bestO_ok hn
  rw [e]; rfl
theorem bestO_len {s : Str} (hn : bestO s ≠ []) : (bestO s).length = s.gr.length := by
  obtain ⟨hv, _, e⟩ := bestO_ok hn
  rw [e, way_len hv]
theorem tb_le (s : Str) (offs : List Int) : tb s offs ≤ s.cy.toNat + s.cy.toNat := by
  unfold tb band
  have h1 := cnt_le (pasB s offs) 0 s.cy.toNat
  have h2 := cnt_le (pasB (revS s) offs.reverse) 0 (revS s).cy.toNat
  have : (revS s).cy = s.cy := rfl
  rw [this] at h2
  rw [this]
  omega
end Go.Proofs.Ytbojkhmlfflakaa
