/- Streets, bands and the best offsets: plain functions; no program. -/
import Derived.Test.YtbojkhmlfflakaaPl1
namespace Go.Proofs.Ytbojkhmlfflakaa
set_option linter.unusedVariables false
set_option linter.unusedSimpArgs false

structure Str where
  cy : Int
  gr : List Int
  tr : List Int
def validS (s : Str) : Bool := inR s.cy 1 30 && (inR s.gr.length 1 4 && (decide ((s.tr.length : Int) = (s.gr.length : Int) - 1) && (allB s.gr 0 s.cy && allB s.tr 0 60)))
theorem validS_iff {s : Str} : validS s = true ↔ (1 ≤ s.cy ∧ s.cy ≤ 30) ∧ (1 ≤ s.gr.length ∧ s.gr.length ≤ 4) ∧ s.tr.length + 1 = s.gr.length ∧ allB s.gr 0 s.cy = true ∧ allB s.tr 0 60 = true := by
  unfold validS
  simp only [Bool.and_eq_true, inR_iff, decide_eq_true_eq]
  constructor
  · rintro ⟨h1, h2, h3, h4, h5⟩; exact ⟨h1, by omega, by omega, h4, h5⟩
  · rintro ⟨h1, h2, h3, h4, h5⟩; exact ⟨h1, by omega, by omega, h4, h5⟩
def offOk (s : Str) (offs : List Int) : Bool := validS s && (decide (offs.length = s.gr.length) && allB offs 0 (s.cy - 1))
/-- The sum of the first i travels. -/
def trS (s : Str) : Nat → Int
  | 0 => 0
  | i + 1 => trS s i + s.tr.getD i 0
def pas1 (s : Str) (offs : List Int) (x : Int) (i : Nat) : Bool := decide ((x + trS s i - offs.getD i 0 + s.cy) % s.cy < s.gr.getD i 0)
def pasB (s : Str) (offs : List Int) (x : Int) : Bool := (List.range s.gr.length).all fun i => pas1 s offs x i
def cnt (f : Int → Bool) (a : Int) : Nat → Nat
  | 0 => 0
  | n + 1 => cnt f a n + if f (a + (n : Int)) = true then 1 else 0
def band (s : Str) (offs : List Int) : Nat := cnt (pasB s offs) 0 s.cy.toNat
def revS (s : Str) : Str := ⟨s.cy, s.gr.reverse, s.tr.reverse⟩
def tb (s : Str) (offs : List Int) : Nat := band s offs + band (revS s) offs.reverse

/-! Counting over a whole period. -/
theorem cnt_le (f : Int → Bool) (a : Int) (n : Nat) : cnt f a n ≤ n := by
  induction n with
  | zero => exact Nat.le_refl _
  | succ n ih => simp only [cnt]; split <;> omega
theorem cnt_front (f : Int → Bool) (a : Int) (n : Nat) : cnt f a (n + 1) = (if f a = true then 1 else 0) + cnt f (a + 1) n := by
  induction n with
  | zero => simp [cnt]
  | succ n ih =>
    have e : a + 1 + (n : Int) = a + ((n + 1 : Nat) : Int) := by omega
    rw [cnt, ih]
    simp only [cnt, e]
    omega
theorem cnt_shift1 {f : Int → Bool} {c : Nat} (hp : ∀ x, f (x + (c : Int)) = f x) (a : Int) : cnt f (a + 1) c = cnt f a c := by
  have h1 := cnt_front f a c
  have h2 : cnt f a (c + 1) = cnt f a c + if f (a + (c : Int)) = true then 1 else 0 := rfl
  rw [hp] at h2
  omega
theorem cnt_shift {f : Int → Bool} {c : Nat} (hp : ∀ x, f (x + (c : Int)) = f x) (e : Nat) : cnt f (0 - (e : Int)) c = cnt f 0 c := by
  induction e with
  | zero => simp
  | succ e ih =>
    have := cnt_shift1 hp (0 - ((e + 1 : Nat) : Int))
    rw [← this, ← ih]
    congr 1; omega
theorem cnt_cong {f g : Int → Bool} {a b : Int} (n : Nat) (h : ∀ k : Nat, k < n → f (a + (k : Int)) = g (b + (k : Int))) : cnt f a n = cnt g b n := by
  induction n with
  | zero => rfl
  | succ n ih => simp only [cnt]; rw [ih (fun k hk => h k (by omega)), h n (by omega)]

theorem pasB_cong {s : Str} {o p : List Int} {x y : Int} (h : ∀ i, i < s.gr.length → (x - o.getD i 0) % s.cy = (y - p.getD i 0) % s.cy) : pasB s o x = pasB s p y := by
  have key : ∀ i, i < s.gr.length → pas1 s o x i = pas1 s p y i := by
    intro i hi
    unfold pas1
    have e1 : (x + trS s i - o.getD i 0 + s.cy) % s.cy = ((x - o.getD i 0) % s.cy + trS s i) % s.cy := by
      rw [Int.add_emod_right, Int.emod_add_emod]; congr 1; omega
    have e2 : (y + trS s i - p.getD i 0 + s.cy) % s.cy = ((y - p.getD i 0) % s.cy + trS s i) % s.cy := by
      rw [Int.add_emod_right, Int.emod_add_emod]; congr 1; omega
    rw [e1, e2, h i hi]
  unfold pasB
  rw [Bool.eq_iff_iff]
  simp only [List.all_eq_true, List.mem_range]
  exact ⟨fun hh i hi => by rw [← key i hi]; exact hh i hi, fun hh i hi => by rw [key i hi]; exact hh i hi⟩

theorem repl_get {g : Nat} {e : Int} {i : Nat} (hi : i < g) : (List.replicate g e).getD i 0 = e := by simp [List.getD_eq_getElem?_getD, hi]
theorem band_equal {s : Str} (hc : 1 ≤ s.cy) {e : Nat} : band s (List.replicate s.gr.length (e : Int)) = band s (List.replicate s.gr.length 0) := by
  unfold band
  obtain ⟨c, hcc⟩ := Int.eq_ofNat_of_zero_le (show 0 ≤ s.cy by omega)
  have hper : ∀ x, pasB s (List.replicate s.gr.length 0) (x + (c : Int)) = pasB s (List.replicate s.gr.length 0) x := fun x => pasB_cong (fun i hi => by rw [hcc, repl_get hi]; simp)
  rw [hcc, Int.toNat_natCast, ← cnt_shift hper e]
  refine cnt_cong c (fun k hk => pasB_cong (fun i hi => ?_))
  rw [repl_get hi, repl_get hi]
  congr 1; omega
theorem tb_equal {s : Str} (hc : 1 ≤ s.cy) {e : Nat} : tb s (List.replicate s.gr.length (e : Int)) = tb s (List.replicate s.gr.length 0) := by
  unfold tb
  rw [band_equal hc, List.reverse_replicate, List.reverse_replicate]
  have h2 := band_equal (s := revS s) hc (e := e)
  have hl : (revS s).gr.length = s.gr.length := by simp [revS]
  rw [hl] at h2
  rw [h2]

/-! The ways to choose offsets, and the best one. -/
def dgs (c : Nat) : Nat → Nat → List Int
  | 0, _ => []
  | n + 1, w => dgs c n (w / c) ++ [((w % c : Nat) : Int)]
theorem dgs_len (c : Nat) : ∀ n w, (dgs c n w).length = n := by
  intro n
  induction n with
  | zero => intro w; rfl
  | succ n ih => intro w; simp only [dgs, List.length_append, ih]; rfl
theorem dgs_bd {c : Nat} (hc : 1 ≤ c) : ∀ n w, ∀ x ∈ dgs c n w, 0 ≤ x ∧ x < (c : Int) := by
  intro n
  induction n with
  | zero => intro w x hx; simp [dgs] at hx
  | succ n ih =>
    intro w x hx
    simp only [dgs, List.mem_append, List.mem_singleton] at hx
    rcases hx with hx | hx
    · exact ih _ x hx
    · have := Nat.mod_lt w (show 0 < c by omega)
      omega
theorem dgs_zero (c : Nat) : ∀ n, dgs c n 0 = List.replicate n 0 := by
  intro n
  induction n with
  | zero => rfl
  | succ n ih =>
    simp only [dgs, Nat.zero_div, Nat.zero_mod, ih]
    rw [List.replicate_succ']
    rfl
theorem dgs_onto {c : Nat} (hc : 1 ≤ c) : ∀ n (xs : List Int), xs.length = n → (∀ x ∈ xs, 0 ≤ x ∧ x < (c : Int)) → ∃ w, w < c ^ n ∧ dgs c n w = xs := by
  intro n
  induction n with
  | zero => intro xs hl _; exact ⟨0, by simp, by simp [dgs, List.eq_nil_of_length_eq_zero hl]⟩
  | succ n ih =>
    intro xs hl hx
    have hne : xs ≠ [] := by intro h; rw [h] at hl; simp at hl
    have hxs := List.dropLast_concat_getLast hne
    have hb := hx (xs.getLast hne) (List.getLast_mem hne)
    obtain ⟨x, hxe⟩ := Int.eq_ofNat_of_zero_le hb.1
    obtain ⟨w, hw, hd⟩ := ih xs.dropLast (by simp [hl]) (fun y hy => hx y ((List.dropLast_subset xs) hy))
    have hxc : x < c := by omega
    refine ⟨w * c + x, ?_, ?_⟩
    · rw [Nat.pow_succ]
      calc w * c + x < w * c + c := by omega
        _ = (w + 1) * c := by rw [Nat.add_mul]; simp
        _ ≤ c ^ n * c := Nat.mul_le_mul_right _ hw
    · have e1 : (w * c + x) / c = w := by rw [Nat.mul_comm, Nat.mul_add_div (by omega), Nat.div_eq_of_lt hxc]; simp
      have e2 : (w * c + x) % c = x := by rw [Nat.mul_comm, Nat.mul_add_mod, Nat.mod_eq_of_lt hxc]
      simp only [dgs]
      rw [e1, e2, hd]
      rw [← hxe]; exact hxs
def way (s : Str) (w : Nat) : List Int := 0 :: dgs s.cy.toNat (s.gr.length - 1) w
/-- The best of the first k ways. -/
def am (s : Str) : Nat → Nat
  | 0 => 0
  | k + 1 => if tb s (way s (am s k)) < tb s (way s k) then k else am s k
theorem am_best (s : Str) : ∀ k w, w < k → tb s (way s w) ≤ tb s (way s (am s k)) := by
  intro k
  induction k with
  | zero => intro w h; omega
  | succ k ih =>
    intro w h
    simp only [am]
    by_cases e : w = k
    · subst e; split <;> omega
    · have := ih w (by omega)
      split <;> omega
theorem way_onto {s : Str} (hv : validS s = true) {offs : List Int} (hl : offs.length = s.gr.length) (h0 : offs.getD 0 0 = 0) (hb : ∀ x ∈ offs, 0 ≤ x ∧ x < s.cy) : ∃ w, w < s.cy.toNat ^ (s.gr.length - 1) ∧ way s w = offs := by
  obtain ⟨hc, hg, _⟩ := validS_iff.1 hv
  cases offs with
  | nil => simp at hl; omega
  | cons x r =>
    have hx : x = 0 := by simpa using h0
    subst hx
    have hcy : ((s.cy.toNat : Nat) : Int) = s.cy := by omega
    obtain ⟨w, hw, hd⟩ := dgs_onto (c := s.cy.toNat) (by omega) (s.gr.length - 1) r (by simp at hl; omega) (fun y hy => by rw [hcy]; exact hb y (List.mem_cons_of_mem _ hy))
    exact ⟨w, hw, by unfold way; rw [hd]⟩
end Go.Proofs.Ytbojkhmlfflakaa
