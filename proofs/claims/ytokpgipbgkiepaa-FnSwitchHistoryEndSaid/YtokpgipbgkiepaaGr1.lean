/- Plans with other greens, and the greens that favour a tram; no program. -/
import Derived.Test.YtokpgipbgkiepaaPl2
namespace Go.Proofs.Ytokpgipbgkiepaa
set_option linter.unusedVariables false
set_option linter.unusedSimpArgs false

def wgs (p : Pln) (gs : List Int) : Pln := ⟨p.cl, (List.range p.st.length).map fun i => ⟨(p.st.getD i s0).ph, gs.getD i 0⟩⟩
def grs (p : Pln) : List Int := p.st.map Stg.gr
theorem wgs_len (p : Pln) (gs : List Int) : (wgs p gs).st.length = p.st.length := by simp [wgs]
theorem wgs_get {p : Pln} {gs : List Int} {i : Nat} (hi : i < p.st.length) : (wgs p gs).st.getD i s0 = ⟨(p.st.getD i s0).ph, gs.getD i 0⟩ := by simp [wgs, List.getD_eq_getElem?_getD, hi]
theorem grs_len (p : Pln) : (grs p).length = p.st.length := by simp [grs]
theorem grs_get {p : Pln} {i : Nat} (hi : i < p.st.length) : (grs p).getD i 0 = (p.st.getD i s0).gr := by simp [grs, List.getD_eq_getElem?_getD, hi]
theorem stg_ext {l m : List Stg} (hl : l.length = m.length) (h : ∀ i, i < l.length → l.getD i s0 = m.getD i s0) : l = m := by
  apply List.ext_getElem hl
  intro i h1 h2
  have := h i h1
  simpa [List.getD_eq_getElem?_getD, h1, h2] using this
theorem pln_ext {p q : Pln} (h1 : p.cl = q.cl) (h2 : p.st = q.st) : p = q := by cases p; cases q; simp_all
theorem wgs_grs (p : Pln) : wgs p (grs p) = p := by
  refine pln_ext rfl (stg_ext (wgs_len _ _) (fun i hi => ?_))
  rw [wgs_len] at hi
  rw [wgs_get hi, grs_get hi]
theorem wgs_wgs (p : Pln) (a b : List Int) : wgs (wgs p a) b = wgs p b := by
  refine pln_ext rfl (stg_ext (by rw [wgs_len, wgs_len, wgs_len]) (fun i hi => ?_))
  rw [wgs_len, wgs_len] at hi
  rw [wgs_get (by rw [wgs_len]; exact hi), wgs_get hi, wgs_get hi]
theorem grs_wgs {p : Pln} {gs : List Int} (hl : gs.length = p.st.length) : grs (wgs p gs) = gs := by
  apply List.ext_getElem (by rw [grs_len, wgs_len, hl])
  intro i h1 h2
  rw [grs_len, wgs_len] at h1
  have a := grs_get (p := wgs p gs) (i := i) (by rw [wgs_len]; exact h1)
  rw [wgs_get h1] at a
  simpa [List.getD_eq_getElem?_getD, h2, grs_len, wgs_len, h1] using a
/-- Greens as they may be. -/
def okG (p : Pln) (gs : List Int) : Bool := decide (gs.length = p.st.length) && allB gs 5 40
theorem okG_iff {p : Pln} {gs : List Int} : okG p gs = true ↔ gs.length = p.st.length ∧ ∀ i, i < p.st.length → 5 ≤ gs.getD i 0 ∧ gs.getD i 0 ≤ 40 := by
  unfold okG
  rw [Bool.and_eq_true, decide_eq_true_eq, allB_get]
  constructor
  · rintro ⟨h1, h2⟩; exact ⟨h1, fun i hi => h2 i (by omega)⟩
  · rintro ⟨h1, h2⟩; exact ⟨h1, fun i hi => h2 i (by omega)⟩
theorem wgs_valid {p : Pln} {gs : List Int} (h : validP p = true) (hg : okG p gs = true) : validP (wgs p gs) = true := by
  obtain ⟨h1, h2, h3, h4⟩ := validP_iff.1 h
  refine validP_iff.2 ⟨h1, by rw [wgs_len]; exact h2, by rw [wgs_len]; exact h3, fun i hi => ?_⟩
  rw [wgs_len] at hi
  have := h4 i hi
  rw [wgs_get hi]
  unfold stOk at this ⊢
  rw [Bool.and_eq_true] at this ⊢
  exact ⟨this.1, inR_iff.2 ((okG_iff.1 hg).2 i hi)⟩
theorem grs_ok {p : Pln} (h : validP p = true) : okG p (grs p) = true :=
  okG_iff.2 ⟨grs_len p, fun i hi => by rw [grs_get hi]; exact (validP_st h hi).2⟩
theorem gapA_wgs {p : Pln} {gs : List Int} {i : Nat} (hi : i < p.st.length) : gapA (wgs p gs) i = gapA p i := by
  unfold gapA
  rw [wgs_len, wgs_get hi, wgs_get (Nat.mod_lt _ (by omega))]
  rfl
def gsum (gs : List Int) : Nat → Int
  | 0 => 0
  | k + 1 => gsum gs k + gs.getD k 0
def gaps (p : Pln) : Nat → Int
  | 0 => 0
  | k + 1 => gaps p k + gapA p k
theorem beg_wgs {p : Pln} {gs : List Int} : ∀ k, k ≤ p.st.length → beg (wgs p gs) k = gsum gs k + gaps p k := by
  intro k
  induction k with
  | zero => intro _; rfl
  | succ k ih =>
    intro hk
    rw [beg_succ, ih (by omega), gapA_wgs (by omega), wgs_get (by omega)]
    show _ = gsum gs k + gs.getD k 0 + (gaps p k + gapA p k)
    show gsum gs k + gaps p k + gs.getD k 0 + gapA p k = _
    omega
theorem cyc_wgs (p : Pln) (gs : List Int) : cyc (wgs p gs) = gsum gs p.st.length + gaps p p.st.length := by
  unfold cyc; rw [wgs_len, beg_wgs _ (Nat.le_refl _)]

/-- n seconds from one stage to another. -/
def shf (g : List Int) (n : Int) (a b : Nat) : List Int := (g.set a (g.getD a 0 - n)).set b (g.getD b 0 + n)
theorem shf_len (g : List Int) (n : Int) (a b : Nat) : (shf g n a b).length = g.length := by simp [shf]
theorem getD_set0 {g : List Int} {a i : Nat} {x : Int} (ha : a < g.length) : (g.set a x).getD i 0 = if i = a then x else g.getD i 0 := by
  by_cases e : i = a
  · subst e; simp [List.getD_eq_getElem?_getD, ha]
  · rw [if_neg e]; simp [List.getD_eq_getElem?_getD, List.getElem?_set_ne (fun h => e h.symm)]
theorem shf_get {g : List Int} {n : Int} {a b i : Nat} (ha : a < g.length) (hb : b < g.length) : (shf g n a b).getD i 0 = if i = b then g.getD b 0 + n else if i = a then g.getD a 0 - n else g.getD i 0 := by
  unfold shf; rw [getD_set0 (by simpa using hb), getD_set0 ha]
theorem gsum_shf {g : List Int} {n : Int} {a b : Nat} (ha : a < g.length) (hb : b < g.length) (hab : a ≠ b) : ∀ k, gsum (shf g n a b) k = gsum g k + (if b < k then n else 0) - (if a < k then n else 0) := by
  intro k
  induction k with
  | zero => simp [gsum]
  | succ k ih =>
    show gsum (shf g n a b) k + (shf g n a b).getD k 0 = gsum g k + g.getD k 0 + _ - _
    rw [ih, shf_get ha hb]
    by_cases e1 : k = b
    · subst e1
      rw [if_pos rfl, if_neg (Nat.lt_irrefl k), if_pos (Nat.lt_succ_self k)]
      by_cases e2 : a < k
      · rw [if_pos e2, if_pos (by omega)]; omega
      · rw [if_neg e2, if_neg (by omega)]; omega
    · rw [if_neg e1]
      by_cases e2 : k = a
      · subst e2
        rw [if_pos rfl, if_neg (Nat.lt_irrefl k), if_pos (Nat.lt_succ_self k)]
        by_cases e3 : b < k
        · rw [if_pos e3, if_pos (by omega)]; omega
        · rw [if_neg e3, if_neg (by omega)]; omega
      · rw [if_neg e2]
        by_cases e3 : b < k
        · rw [if_pos e3, if_pos (show b < k + 1 by omega)]
          by_cases e4 : a < k
          · rw [if_pos e4, if_pos (show a < k + 1 by omega)]; omega
          · rw [if_neg e4, if_neg (show ¬ a < k + 1 by omega)]; omega
        · rw [if_neg e3, if_neg (show ¬ b < k + 1 by omega)]
          by_cases e4 : a < k
          · rw [if_pos e4, if_pos (show a < k + 1 by omega)]; omega
          · rw [if_neg e4, if_neg (show ¬ a < k + 1 by omega)]; omega
def okT (g : List Int) (n : Int) (a b : Nat) : Bool := decide (a ≠ b) && (decide (5 ≤ g.getD a 0 - n) && decide (g.getD b 0 + n ≤ 40))
theorem okT_iff {g : List Int} {n : Int} {a b : Nat} : okT g n a b = true ↔ a ≠ b ∧ 5 ≤ g.getD a 0 - n ∧ g.getD b 0 + n ≤ 40 := by simp [okT]
theorem shf_ok {p : Pln} (h : validP p = true) {n : Int} (hn : 0 ≤ n) {a b : Nat} (ha : a < p.st.length) (hb : b < p.st.length) (ht : okT (grs p) n a b = true) : okG p (shf (grs p) n a b) = true := by
  obtain ⟨h1, h2, h3⟩ := okT_iff.1 ht
  have hg := (okG_iff.1 (grs_ok h)).2
  refine okG_iff.2 ⟨by rw [shf_len, grs_len], fun i hi => ?_⟩
  rw [shf_get (by rw [grs_len]; exact ha) (by rw [grs_len]; exact hb)]
  have := hg i hi; have := hg a ha; have := hg b hb
  split
  · omega
  · split <;> omega

/-! The choice. -/
def twG (p : Pln) (st : Nat) (s : Int) (gs : List Int) : Int := tw (wgs p gs) st s
def fstep (p : Pln) (st : Nat) (s : Int) (best : List Int) (n : Int) (a b : Nat) : List Int :=
  if okT (grs p) n a b = true ∧ twG p st s (shf (grs p) n a b) < twG p st s best then shf (grs p) n a b else best
def f3 (p : Pln) (st : Nat) (s : Int) (best : List Int) (n : Int) (a : Nat) : Nat → List Int
  | 0 => best
  | b + 1 => fstep p st s (f3 p st s best n a b) n a b
def f2 (p : Pln) (st : Nat) (s : Int) (best : List Int) (n : Int) : Nat → List Int
  | 0 => best
  | a + 1 => f3 p st s (f2 p st s best n a) n a p.st.length
def f1 (p : Pln) (st : Nat) (s : Int) : Nat → List Int
  | 0 => grs p
  | n + 1 => f2 p st s (f1 p st s n) (n + 1 : Nat) p.st.length
def fav (p : Pln) (st : Nat) (s : Int) : List Int := f1 p st s 6

/-- What holds of the best greens. -/
def GoodG (p : Pln) (st : Nat) (s : Int) (best : List Int) : Prop :=
  best = grs p ∨ (∃ (n : Int) (a b : Nat), 1 ≤ n ∧ n ≤ 6 ∧ a < p.st.length ∧ b < p.st.length ∧ okT (grs p) n a b = true ∧ best = shf (grs p) n a b ∧ twG p st s best < twG p st s (grs p))
theorem fstep_good {p : Pln} {st : Nat} {s : Int} {best : List Int} (h : GoodG p st s best) {n : Int} (h1 : 1 ≤ n) (h6 : n ≤ 6) {a b : Nat} (ha : a < p.st.length) (hb : b < p.st.length) : GoodG p st s (fstep p st s best n a b) := by
  unfold fstep
  split
  · rename_i hc
    refine .inr ⟨n, a, b, h1, h6, ha, hb, hc.1, rfl, ?_⟩
    rcases h with h | ⟨_, _, _, _, _, _, _, _, _, h⟩
    · have := hc.2; rw [h] at this; exact this
    · have := hc.2; omega
  · exact h
theorem f3_good {p : Pln} {st : Nat} {s : Int} {best : List Int} (h : GoodG p st s best) {n : Int} (h1 : 1 ≤ n) (h6 : n ≤ 6) {a : Nat} (ha : a < p.st.length) : ∀ b, b ≤ p.st.length → GoodG p st s (f3 p st s best n a b) := by
  intro b
  induction b with
  | zero => intro _; exact h
  | succ b ih => intro hb; exact fstep_good (ih (by omega)) h1 h6 ha (by omega)
theorem f2_good {p : Pln} {st : Nat} {s : Int} {best : List Int} (h : GoodG p st s best) {n : Int} (h1 : 1 ≤ n) (h6 : n ≤ 6) : ∀ a, a ≤ p.st.length → GoodG p st s (f2 p st s best n a) := by
  intro a
  induction a with
  | zero => intro _; exact h
  | succ a ih => intro ha; exact f3_good (ih (by omega)) h1 h6 (by omega) _ (Nat.le_refl _)
theorem f1_good (p : Pln) (st : Nat) (s : Int) : ∀ n, n ≤ 6 → GoodG p st s (f1 p st s n) := by
  intro n
  induction n with
  | zero => intro _; exact .inl rfl
  | succ n ih => intro hn; exact f2_good (ih (by omega)) (by omega) (by omega) _ (Nat.le_refl _)
theorem GoodG.ok {p : Pln} (hv : validP p = true) {st : Nat} {s : Int} {best : List Int} (h : GoodG p st s best) : okG p best = true := by
  rcases h with rfl | ⟨n, a, b, h1, h6, ha, hb, ht, rfl, _⟩
  · exact grs_ok hv
  · exact shf_ok hv (by omega) ha hb ht
theorem GoodG.cyc {p : Pln} {st : Nat} {s : Int} {best : List Int} (h : GoodG p st s best) : cyc (wgs p best) = cyc p := by
  rcases h with rfl | ⟨n, a, b, h1, h6, ha, hb, ht, rfl, _⟩
  · rw [wgs_grs]
  · have e : Ytokpgipbgkiepaa.cyc p = gsum (grs p) p.st.length + gaps p p.st.length := by
      have := cyc_wgs p (grs p); rw [wgs_grs] at this; exact this
    rw [cyc_wgs, e, gsum_shf (by rw [grs_len]; exact ha) (by rw [grs_len]; exact hb) (okT_iff.1 ht).1, if_pos hb, if_pos ha]
    omega
theorem GoodG.le {p : Pln} {st : Nat} {s : Int} {best : List Int} (h : GoodG p st s best) : twG p st s best ≤ twG p st s (grs p) := by
  rcases h with rfl | ⟨n, a, b, h1, h6, ha, hb, ht, rfl, h⟩
  · exact Int.le_refl _
  · omega
theorem GoodG.near {p : Pln} {st : Nat} {s : Int} {best : List Int} (h : GoodG p st s best) {i : Nat} (hi : i < p.st.length) : -6 ≤ best.getD i 0 - (p.st.getD i s0).gr ∧ best.getD i 0 - (p.st.getD i s0).gr ≤ 6 := by
  rw [← grs_get hi]
  rcases h with rfl | ⟨n, a, b, h1, h6, ha, hb, ht, rfl, _⟩
  · omega
  · rw [shf_get (by rw [grs_len]; exact ha) (by rw [grs_len]; exact hb)]
    split
    · subst i; omega
    · split
      · subst i; omega
      · omega
theorem twG_grs (p : Pln) (st : Nat) (s : Int) : twG p st s (grs p) = tw p st s := by unfold twG; rw [wgs_grs]

/-! The reference's list of plans. -/
def l3 (p : Pln) (n : Int) (a : Nat) : Nat → List (List Int)
  | 0 => []
  | b + 1 => l3 p n a b ++ if okT (grs p) n a b = true then [shf (grs p) n a b] else []
def l2 (p : Pln) (n : Int) : Nat → List (List Int)
  | 0 => []
  | a + 1 => l2 p n a ++ l3 p n a p.st.length
def l1 (p : Pln) : Nat → List (List Int)
  | 0 => []
  | n + 1 => l1 p n ++ l2 p (n + 1 : Nat) p.st.length
def pick1 (p : Pln) (st : Nat) (s : Int) (best gs : List Int) : List Int := if twG p st s gs < twG p st s best then gs else best
theorem pick_l3 {p : Pln} {st : Nat} {s : Int} (best : List Int) (n : Int) (a : Nat) : ∀ b, (l3 p n a b).foldl (pick1 p st s) best = f3 p st s best n a b := by
  intro b
  induction b with
  | zero => rfl
  | succ b ih =>
    show (l3 p n a b ++ _).foldl _ _ = fstep p st s (f3 p st s best n a b) n a b
    rw [List.foldl_append, ih]
    unfold fstep
    by_cases h : okT (grs p) n a b = true
    · simp [h, pick1]
    · simp [h]
theorem pick_l2 {p : Pln} {st : Nat} {s : Int} (best : List Int) (n : Int) : ∀ a, (l2 p n a).foldl (pick1 p st s) best = f2 p st s best n a := by
  intro a
  induction a with
  | zero => rfl
  | succ a ih =>
    show (l2 p n a ++ _).foldl _ _ = f3 p st s (f2 p st s best n a) n a p.st.length
    rw [List.foldl_append, ih, pick_l3]
theorem pick_l1 {p : Pln} {st : Nat} {s : Int} : ∀ n, (l1 p n).foldl (pick1 p st s) (grs p) = f1 p st s n := by
  intro n
  induction n with
  | zero => rfl
  | succ n ih =>
    show (l1 p n ++ _).foldl _ _ = f2 p st s (f1 p st s n) (n + 1 : Nat) p.st.length
    rw [List.foldl_append, ih, pick_l2]
theorem l3_ok {p : Pln} (h : validP p = true) {n : Int} (hn : 0 ≤ n) {a : Nat} (ha : a < p.st.length) : ∀ b, b ≤ p.st.length → ∀ gs ∈ l3 p n a b, okG p gs = true := by
  intro b
  induction b with
  | zero => intro _ gs hg; simp [l3] at hg
  | succ b ih =>
    intro hb gs hg
    rcases List.mem_append.1 hg with hg | hg
    · exact ih (by omega) gs hg
    · by_cases ht : okT (grs p) n a b = true
      · rw [if_pos ht] at hg; simp at hg; subst hg; exact shf_ok h hn ha (by omega) ht
      · rw [if_neg ht] at hg; simp at hg
theorem l2_ok {p : Pln} (h : validP p = true) {n : Int} (hn : 0 ≤ n) : ∀ a, a ≤ p.st.length → ∀ gs ∈ l2 p n a, okG p gs = true := by
  intro a
  induction a with
  | zero => intro _ gs hg; simp [l2] at hg
  | succ a ih =>
    intro ha gs hg
    rcases List.mem_append.1 hg with hg | hg
    · exact ih (by omega) gs hg
    · exact l3_ok h hn (by omega) _ (Nat.le_refl _) gs hg
theorem l1_ok {p : Pln} (h : validP p = true) : ∀ n, ∀ gs ∈ l1 p n, okG p gs = true := by
  intro n
  induction n with
  | zero => intro gs hg; simp [l1] at hg
  | succ n ih =>
    intro gs hg
    rcases List.mem_append.1 hg with hg | hg
    · exact ih gs hg
    · exact l2_ok h (by omega) _ (Nat.le_refl _) gs hg
end Go.Proofs.Ytokpgipbgkiepaa
