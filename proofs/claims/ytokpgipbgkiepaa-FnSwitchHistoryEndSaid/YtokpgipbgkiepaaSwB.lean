/- Switching is safe: a plain proof; no program. The watch of FirstFault; FirstFault of a history without faults. FirstFault of a history without faults. What the laws of switched plans say, in plain words; no program. Facts of a history of switched plans, and ChangeTime of valid phases. -/
import Derived.Test.YtokpgipbgkiepaaSwA
import Derived.Test.YtokpgipbgkiepaaPlG
import Derived.Test.YtokpgipbgkiepaaSwA
import Derived.Test.YtokpgipbgkiepaaPlH
namespace Go.Proofs.Ytokpgipbgkiepaa

section
set_option linter.unusedVariables false
set_option linter.unusedSimpArgs false

/-- No two movements of a phase have a conflict. -/
def apt (t : List (List Int)) (P : List Int) : Prop := ∀ m n : Int, m ∈ P → n ∈ P → ¬ 0 < tat t m.toNat n.toNat
theorem tat_self {t : List (List Int)} (hv : validCl t = true) {a : Nat} (ha : a < t.length) : tat t a a = 0 := (symOk_iff.1 ((validCl_iff.1 hv).2.2.2 a ha a ha)).2 rfl
theorem tat_sym {t : List (List Int)} (hv : validCl t = true) {a b : Nat} (ha : a < t.length) (hb : b < t.length) : 0 < tat t a b ↔ 0 < tat t b a := (symOk_iff.1 ((validCl_iff.1 hv).2.2.2 a ha b hb)).1
theorem mem_getD {P : List Int} {m : Int} (h : m ∈ P) : ∃ i, i < P.length ∧ P.getD i 0 = m := hasB_iff.1 (hasB_mem.2 h)
theorem moves_mem {P : List Int} {n : Int} (h : movesB P n = true) {m : Int} (hm : m ∈ P) : 0 ≤ m ∧ m ≤ n - 1 := by
  obtain ⟨i, hi, rfl⟩ := mem_getD hm
  exact movesB_in h hi
theorem apt_of {t : List (List Int)} (hv : validCl t = true) {P : List Int} (h : fitsB t P = true) : apt t P := by
  obtain ⟨hm, ha⟩ := fitsB_iff.1 h
  intro m n h1 h2 hc
  have b1 := moves_mem hm h1
  have b2 := moves_mem hm h2
  obtain ⟨i, hi, ei⟩ := mem_getD h1
  obtain ⟨k, hk, ek⟩ := mem_getD h2
  rcases Nat.lt_trichotomy k i with h | h | h
  · exact ha i hi k h (by rw [ei, ek]; exact hc)
  · subst h
    have : m = n := by rw [← ei, ← ek]
    subst this
    rw [tat_self hv (by omega)] at hc
    omega
  · exact ha k hk i h (by rw [ei, ek]; exact (tat_sym hv (by omega) (by omega)).1 hc)
theorem stOk_fits {p : Pln} (h : validP p = true) {i : Nat} (hi : i < p.st.length) : fitsB p.cl (phA p i) = true := by
  have := (validP_iff.1 h).2.2.2 i hi
  unfold stOk at this
  rw [Bool.and_eq_true] at this
  exact this.1
theorem ph_apt {p : Pln} (h : validP p = true) {i : Nat} (hi : i < p.st.length) : apt p.cl (phA p i) := apt_of (validP_iff.1 h).1 (stOk_fits h hi)
theorem ph_moves {p : Pln} (h : validP p = true) {i : Nat} (hi : i < p.st.length) : movesB (phA p i) p.cl.length = true := (fitsB_iff.1 (stOk_fits h hi)).1

theorem chg1_ge {t : List (List Int)} {fr to : List Int} {a m : Int} (ht : hasB to a = false) {j : Nat} (hf : hasB fr (to.getD j 0) = false) : ∀ k, j < k → tat t a.toNat (to.getD j 0).toNat ≤ chg1 t fr to a m k ∧ m ≤ chg1 t fr to a m k := by
  have mono : ∀ k, m ≤ chg1 t fr to a m k := by
    intro k
    induction k with
    | zero => exact Int.le_refl _
    | succ k ih => simp only [chg1]; split <;> omega
  intro k hk
  refine ⟨?_, mono k⟩
  induction k with
  | zero => omega
  | succ k ih =>
    simp only [chg1]
    by_cases e : j = k
    · subst e; rw [if_pos ⟨ht, hf⟩]; omega
    · have := ih (by omega)
      split <;> omega
theorem chg1_mono {t : List (List Int)} {fr to : List Int} {a m : Int} : ∀ k, m ≤ chg1 t fr to a m k := by
  intro k
  induction k with
  | zero => exact Int.le_refl _
  | succ k ih => simp only [chg1]; split <;> omega
theorem change_ge {t : List (List Int)} {fr to : List Int} {a b : Int} (ha : a ∈ fr) (hb : b ∈ to) (h1 : a ∉ to) (h2 : b ∉ fr) : tat t a.toNat b.toNat ≤ change t fr to := by
  obtain ⟨i, hi, rfl⟩ := mem_getD ha
  obtain ⟨j, hj, rfl⟩ := mem_getD hb
  have n1 : hasB to (fr.getD i 0) = false := by cases h : hasB to (fr.getD i 0); rfl; exact absurd (hasB_mem.1 h) h1
  have n2 : hasB fr (to.getD j 0) = false := by cases h : hasB fr (to.getD j 0); rfl; exact absurd (hasB_mem.1 h) h2
  unfold change
  have key : ∀ k, i < k → tat t (fr.getD i 0).toNat (to.getD j 0).toNat ≤ chg t fr to k := by
    intro k
    induction k with
    | zero => intro h; omega
    | succ k ih =>
      intro hk
      rw [chg_succ]
      by_cases e : i = k
      · subst e; exact (chg1_ge n1 n2 _ hj).1
      · exact Int.le_trans (ih (by omega)) (chg1_mono _)
  exact key _ hi

/-- From the second x on: a phase up to the second B', and then the next one for five seconds at least. -/
def Seg (t : List (List Int)) (G : Int → List Int) (x : Int) : Prop :=
  ∃ E B' : Int, ∃ P P' : List Int, x < B' ∧ E + change t P P' ≤ B' ∧ (x < E ∨ ∀ m, m ∈ G x → m ∈ P') ∧ (∀ y, x ≤ y → y < B' → ∀ m, m ∈ G y → m ∈ P) ∧ (∀ y, B' ≤ y → y < B' + 5 → ∀ m, m ∈ G y → m ∈ P') ∧ apt t P ∧ apt t P' ∧ movesB P t.length = true ∧ movesB P' t.length = true

theorem seg_safe {t : List (List Int)} (hv : validCl t = true) {G : Int → List Int} {x y : Int} (hs : Seg t G x) (hxy : x < y) {m n : Int} (hm : m ∈ G x) (hn : n ∈ G y) (hmv : ∀ k, k ∈ G y → 0 ≤ k ∧ k ≤ (t.length : Int) - 1) : tat t m.toNat n.toNat ≤ y - x - 1 := by
  obtain ⟨E, B', P, P', h1, h2, h3, h4, h5, h6, h7, h8, h9⟩ := hs
  have mP := h4 x (Int.le_refl _) h1 m hm
  have bm := moves_mem h8 mP
  have bn := hmv n hn
  have hb := tat_bd hv (a := m.toNat) (b := n.toNat) (by omega) (by omega)
  by_cases hc : 0 < tat t m.toNat n.toNat
  · by_cases hy : y < B'
    · exact absurd hc (h6 m n mP (h4 y (Int.le_of_lt hxy) hy n hn))
    · by_cases hy5 : y < B' + 5
      · have nP := h5 y (by omega) hy5 n hn
        rcases h3 with h3 | h3
        · have g1 : m ∉ P' := fun h => h7 m n h nP hc
          have g2 : n ∉ P := fun h => h6 m n mP h hc
          have := change_ge (t := t) mP nP g1 g2
          omega
        · exact absurd hc (h7 m n (h3 m hm) nP)
      · omega
  · omega

theorem grn_early {p : Pln} (h : validP p = true) {j : Nat} (hj : j < p.st.length) {z : Int} (h1 : beg p j ≤ z) (h2 : z < beg p j + 5) : grn p z = phA p j := by
  obtain ⟨s1, s2⟩ := beg_step h hj
  have e := stgAt_eq h hj h1 (by omega)
  unfold grn
  rw [e, if_pos (by omega)]
theorem grn_sub {p : Pln} (h : validP p = true) {j : Nat} (hj : j < p.st.length) {z : Int} (h1 : beg p j ≤ z) (h2 : z < beg p (j + 1)) {m : Int} (hm : m ∈ grn p z) :
    m ∈ phA p j ∧ (z < beg p j + (p.st.getD j s0).gr ∨ m ∈ nxA p j) := by
  have e := stgAt_eq h hj h1 h2
  unfold grn at hm
  rw [e] at hm
  split at hm
  · exact ⟨hm, .inl (by omega)⟩
  · rw [List.mem_filter] at hm
    exact ⟨hm.1, .inr (hasB_mem.1 hm.2)⟩
theorem nx_ph (p : Pln) (i : Nat) : nxA p i = phA p ((i + 1) % p.st.length) := rfl

theorem plan_seg {p : Pln} (h : validP p = true) {base x : Int} {G : Int → List Int} (hb : base ≤ x) (hx : x < base + cyc p) (hG1 : ∀ y, x ≤ y → y < base + cyc p → G y = grn p (y - base))
    (hG2 : ∀ y, base + cyc p ≤ y → y < base + cyc p + 5 → G y = phA p 0) : Seg p.cl G x := by
  obtain ⟨hi, g1, g2⟩ := stgAt_spec h (s := x - base) (by omega) (by omega)
  obtain ⟨i, hie⟩ : ∃ i, i = stgAt p (x - base) := ⟨_, rfl⟩
  rw [← hie] at hi g1 g2
  have hs := beg_succ p i
  have hgap : gapA p i = change p.cl (phA p i) (nxA p i) := rfl
  have hbc : beg p (i + 1) ≤ cyc p := beg_mono h (by omega) (Nat.le_refl _)
  have hn : (i + 1) % p.st.length < p.st.length := Nat.mod_lt _ (by omega)
  refine ⟨base + beg p i + (p.st.getD i s0).gr, base + beg p (i + 1), phA p i, nxA p i, by omega, by omega, ?_, ?_, ?_, ph_apt h hi, ?_, ph_moves h hi, ?_⟩
  · by_cases he : x < base + beg p i + (p.st.getD i s0).gr
    · exact .inl he
    · right; intro m hm
      rw [hG1 x (Int.le_refl _) hx] at hm
      rcases (grn_sub h hi g1 g2 hm).2 with h' | h'
      · omega
      · exact h'
  · intro y y1 y2 m hm
    rw [hG1 y y1 (by omega)] at hm
    exact (grn_sub h hi (by omega) (by omega) hm).1
  · intro y y1 y2 m hm
    rw [nx_ph]
    by_cases hl : i + 1 < p.st.length
    · rw [Nat.mod_eq_of_lt hl]
      obtain ⟨s1, s2⟩ := beg_step h hl
      have : beg p (i + 1 + 1) ≤ cyc p := beg_mono h (by omega) (Nat.le_refl _)
      rw [hG1 y (by omega) (by omega), grn_early h hl (by omega) (by omega)] at hm
      exact hm
    · have e : i + 1 = p.st.length := by omega
      rw [e, Nat.mod_self]
      have : beg p (i + 1) = cyc p := by rw [e]; rfl
      rw [hG2 y (by omega) (by omega)] at hm
      exact hm
  · rw [nx_ph]; exact ph_apt h hn
  · rw [nx_ph]; exact ph_moves h hn

theorem base_of {c x : Int} (hc : 0 < c) : x - x % c ≤ x ∧ x < x - x % c + c ∧ (x - x % c) % c = 0 := by
  have h1 := Int.emod_nonneg x (show c ≠ 0 by omega)
  have h2 := Int.emod_lt_of_pos x hc
  refine ⟨by omega, by omega, ?_⟩
  have : x - x % c = c * (x / c) := by have := Int.emod_add_mul_ediv x c; omega
  rw [this]; simp
theorem emod_base {c b y : Int} (hc : 0 < c) (hb : b % c = 0) (h1 : b ≤ y) (h2 : y < b + c) : y % c = y - b := by
  have e : y = (y - b) + c * (b / c) := by have := Int.emod_add_mul_ediv b c; omega
  rw [e, Int.add_mul_emod_self_left, Int.emod_eq_of_lt (by omega) (by omega)]
  omega
theorem mult_le {c b T : Int} (hc : 0 < c) (hb : b % c = 0) (hT : T % c = 0) (h : b < T) : b + c ≤ T := by
  have e1 := Int.emod_add_mul_ediv b c
  have e2 := Int.emod_add_mul_ediv T c
  have : b / c < T / c := by
    apply Classical.byContradiction; intro hn
    have : c * (T / c) ≤ c * (b / c) := Int.mul_le_mul_of_nonneg_left (by omega) (by omega)
    omega
  have : c * (b / c + 1) ≤ c * (T / c) := Int.mul_le_mul_of_nonneg_left (by omega) (by omega)
  rw [Int.mul_add] at this
  omega

theorem swg_seg {a b : Pln} (hab : sameC a b = true) {T x : Int} (hT0 : 0 ≤ T) (hTc : T % cyc a = 0) (hx : 0 ≤ x) : Seg a.cl (swg a b T) x := by
  obtain ⟨ha, hb, hcl⟩ := sameC_iff.1 hab
  have ca := cyc_bd ha
  have cb := cyc_bd hb
  have hr := br_bd ha hb hcl
  have la := ph_st ha
  have lb := ph_st hb
  have z0 : beg a 0 = 0 := rfl
  have z0b : beg b 0 = 0 := rfl
  by_cases h1 : x < T
  · obtain ⟨b1, b2, b3⟩ := base_of (c := cyc a) (x := x) (by omega)
    obtain ⟨base, hbe⟩ : ∃ y, y = x - x % cyc a := ⟨_, rfl⟩
    rw [← hbe] at b1 b2 b3
    have b4 := mult_le (by omega) b3 hTc (show base < T by omega)
    refine plan_seg ha b1 b2 (fun y y1 y2 => ?_) (fun y y1 y2 => ?_)
    · unfold swg
      rw [if_pos (by omega), emod_base (by omega) b3 (by omega) y2]
    · by_cases h2 : base + cyc a < T
      · have b5 := mult_le (by omega) (show (base + cyc a) % cyc a = 0 by rw [Int.add_emod_right]; exact b3) hTc h2
        unfold swg
        rw [if_pos (by omega), emod_base (b := base + cyc a) (by omega) (by rw [Int.add_emod_right]; exact b3) y1 (by omega)]
        exact grn_early ha la (by omega) (by omega)
      · unfold swg
        rw [if_neg (by omega), if_pos (by omega)]
  · by_cases h2 : x < T + 5 + br a b
    · refine ⟨T + 5, T + 5 + br a b, phA a 0, phA b 0, h2, Int.le_refl _, ?_, ?_, ?_, ph_apt ha la, ?_, ph_moves ha la, ?_⟩
      · by_cases h3 : x < T + 5
        · exact .inl h3
        · right; intro m hm
          unfold swg at hm
          rw [if_neg h1, if_neg h3, if_pos h2] at hm
          simp at hm
      · intro y y1 y2 m hm
        unfold swg at hm
        rw [if_neg (by omega)] at hm
        split at hm
        · exact hm
        · simp at hm
      · intro y y1 y2 m hm
        unfold swg at hm
        rw [if_neg (by omega), if_neg (by omega), if_neg (by omega), Int.emod_eq_of_lt (by omega) (by omega), grn_early hb lb (by omega) (by omega)] at hm
        exact hm
      · rw [hcl]; exact ph_apt hb lb
      · rw [hcl]; exact ph_moves hb lb
    · obtain ⟨D, hD⟩ : ∃ D, D = T + 5 + br a b := ⟨_, rfl⟩
      rw [← hD] at h2
      obtain ⟨b1, b2, b3⟩ := base_of (c := cyc b) (x := x - D) (by omega)
      obtain ⟨base, hbe⟩ : ∃ y, y = (x - D) - (x - D) % cyc b := ⟨_, rfl⟩
      rw [← hbe] at b1 b2 b3
      have b0 : 0 ≤ base := by have e1 := Int.emod_add_mul_ediv (x - D) (cyc b); have e2 : 0 ≤ cyc b * ((x - D) / cyc b) := Int.mul_nonneg (by omega) (Int.ediv_nonneg (by omega) (by omega)); omega
      rw [hcl]
      refine plan_seg (base := D + base) hb (by omega) (by omega) (fun y y1 y2 => ?_) (fun y y1 y2 => ?_)
      · unfold swg
        rw [if_neg (by omega), if_neg (by omega), if_neg (by omega), ← hD, emod_base (b := base) (by omega) b3 (by omega) (by omega)]
        congr 1; omega
      · unfold swg
        rw [if_neg (by omega), if_neg (by omega), if_neg (by omega), ← hD, emod_base (b := base + cyc b) (by omega) (by rw [Int.add_emod_right]; exact b3) (by omega) (by omega)]
        exact grn_early hb lb (by omega) (by omega)
end

section
open Go.RowKit
set_option linter.unusedVariables false
set_option linter.unusedSimpArgs false

/-- What a watch reads: the table and the last seconds. -/
structure WatchR (W : World) (bw g : Nat) (t : List (List Int)) (bt ot ct : Nat) (L : List Int) : Prop where
  tab : IntSS W 0 (.slice (some ⟨bt, ot, none⟩) t.length ct) t
  c0 : W.cell? ⟨bw, 0, none⟩ = some (.slice (some ⟨bt, ot, none⟩) t.length ct)
  c1 : W.cell? ⟨bw, 1, none⟩ = some (.slice (some ⟨g, 0, none⟩) t.length t.length)
  ll : L.length = t.length
  cl : ∀ a, a < t.length → W.cell? ⟨g, a, none⟩ = some (.int .i64 (L.getD a 0))

theorem WatchR.at {W : World} {bw g : Nat} {t : List (List Int)} {bt ot ct : Nat} {L : List Int} (h : WatchR W bw g t bt ot ct L) (hv : validCl t = true) {a b : Nat} (ha : a < t.length) (hb : b < t.length) :
    ∃ g2 o2 c2, W.cell? ⟨bt, ot + a, none⟩ = some (.slice (some ⟨g2, o2, none⟩) t.length c2) ∧ W.cell? ⟨g2, o2 + b, none⟩ = some (.int .i64 (tat t a b)) ∧ t.length ≤ c2 ∧ c2 ≤ 9223372036854775807 := by
  obtain ⟨b', off, e, _, _, hc⟩ := h.tab.spot (by omega)
  cases e
  obtain ⟨ai, ci, h1, hI⟩ := hc a ha
  have hl := validCl_row hv ha
  obtain ⟨_, _, e, h3, h4⟩ := Rd.form hI
  cases e
  obtain ⟨g2, o2, rfl, _, _, h2⟩ := hI.spot 0 (by omega)
  have h5 := h2 b (by omega)
  rw [hl] at h1 h3
  exact ⟨g2, o2, ci, h1, h5, h3, h4⟩

set_option maxHeartbeats 8000000 in
theorem isFault_no (w : World) (bw g bt ot ct : Nat) (t : List (List Int)) (L : List Int) (lo : Nat) (vm : Value) (mv : List Int) (k : Nat) (hw : WatchR w bw g t bt ot ct L) (hv : validCl t = true) (hm : Ints w lo vm mv) (hmv : movesB mv t.length = true) (hk : k ≤ 1000)
    (hL : ∀ a, a < t.length → -1 ≤ L.getD a 0 ∧ L.getD a 0 ≤ 1000) (H1 : apt t mv) (H2 : ∀ n, n ∈ mv → ∀ a, a < t.length → 0 ≤ L.getD a 0 → ¬ ((k : Int) - L.getD a 0 - 1 < tat t a n.toNat)) :
    Calls Try.prog 99 #[.pointer (some ⟨bw, 0, none⟩), vm, .int .i64 k] w fun e w' => e = .returned (.bool false) ∧ w = w' := by
  obtain ⟨am, cm, rfl, hcm, hmm⟩ := hm.form
  have HW := Lib.hid hw
  have HM := Lib.hid hm
  have HMV := Lib.hid hmv
  have HL := Lib.hid hL
  have HA := Lib.hid H1
  have HB := Lib.hid H2
  have HV := Lib.hid hv
  have hn8 := (validCl_iff.1 hv).2.1
  have hct : t.length ≤ ct ∧ ct ≤ 9223372036854775807 := by obtain ⟨_, _, e, h3, h4⟩ := hw.tab.form; cases e; exact ⟨h3, h4⟩
  obtain ⟨hct1, hct2⟩ := hct
  have u0 := hw.c0
  have u1 := hw.c1
  clear hw hm hmv hL H1 H2 hv
  go_enter Try.func99, Try.ntmps99
  go_wp2_with fail
  go_loop [15] (fun iv => ∃ i : Nat, i ≤ mv.length ∧ iv = .int .i64 i) (fun iv => mv.length - (intOf iv).toNat)
  case atStart => exact ⟨0, Nat.zero_le _, rfl⟩
  case round =>
    obtain ⟨i, hi, rfl⟩ := hrel
    by_cases hlt : i < mv.length
    · obtain ⟨bm, om, rfl, _, _, hc⟩ := HM.out.spot 0 (by omega)
      have p1 := hc i hlt
      have hin := moves_mem HMV.out (getD_in hlt)
      obtain ⟨B, hB⟩ := Int.eq_ofNat_of_zero_le hin.1
      have hBn : B < t.length := by omega
      have HBB := Lib.hid hB
      have HCM := Lib.hid hc
      rw [hB] at p1
      have b0 : (0 : Int) ≤ (B : Int) := by omega
      have b1 : (B : Int) < (t.length : Int) := by omega
      clear hc hB hin
      go_wp2_with fail
      go_loop [21] (fun jv => ∃ j : Nat, j ≤ mv.length ∧ jv = .int .i64 j) (fun jv => mv.length - (intOf jv).toNat)
      case atStart => exact ⟨0, Nat.zero_le _, rfl⟩
      case round =>
        obtain ⟨j, hj, rfl⟩ := hrel
        by_cases hltj : j < mv.length
        · have p2 := HCM.out j hltj
          have hin := moves_mem HMV.out (getD_in hltj)
          obtain ⟨A, hA⟩ := Int.eq_ofNat_of_zero_le hin.1
          have hAn : A < t.length := by omega
          rw [hA] at p2
          obtain ⟨g2, o2, c2, q1, q2, q3, q4⟩ := HW.out.at HV.out hAn hBn
          have hno := HA.out _ _ (getD_in hltj) (getD_in hlt)
          rw [hA, HBB.out] at hno
          simp only [Int.toNat_natCast] at hno
          obtain ⟨x, hx⟩ : ∃ x, x = tat t A B := ⟨_, rfl⟩
          rw [← hx] at hno q2
          have d1 : decide (0 < x) = false := decide_eq_false hno
          have a0 : (0 : Int) ≤ (A : Int) := by omega
          have a1 : (A : Int) < (t.length : Int) := by omega
          clear hA hin hx hno
          go_wp2_with fail
          go_round
          case rel => exact ⟨j + 1, by omega, by go_num⟩
          case measure => simp [intOf]; omega
        · obtain rfl : j = mv.length := by omega
          go_wp2_with fail
          go_loop [42] (fun av => ∃ a : Nat, a ≤ t.length ∧ av = .int .i64 a) (fun av => t.length - (intOf av).toNat)
          case atStart => exact ⟨0, Nat.zero_le _, rfl⟩
          case round =>
            obtain ⟨a, ha, rfl⟩ := hrel
            by_cases hlta : a < t.length
            · have p3 := HW.out.cl a hlta
              have hlb := HL.out a hlta
              obtain ⟨g2, o2, c2, q1, q2, q3, q4⟩ := HW.out.at HV.out hlta hBn
              have hno := HB.out _ (getD_in hlt) a hlta
              rw [HBB.out, Int.toNat_natCast] at hno
              obtain ⟨x, hx⟩ : ∃ x, x = tat t a B := ⟨_, rfl⟩
              obtain ⟨y, hy⟩ : ∃ y, y = L.getD a 0 := ⟨_, rfl⟩
              rw [← hx] at hno q2
              rw [← hy] at hno p3 hlb
              have a0 : (0 : Int) ≤ (a : Int) := by omega
              have a1 : (a : Int) < (t.length : Int) := by omega
              clear hx hy
              by_cases h0 : 0 ≤ y
              · have d0 : decide (0 ≤ y) = true := decide_eq_true h0
                have d1 : decide ((k : Int) - y - 1 < x) = false := decide_eq_false (by have := hno h0; omega)
                have wr1 : IntKind.i64.wrap ((k : Int) - y) = (k : Int) - y := IntWalk.i64_in _ (by omega)
                have wr2 : IntKind.i64.wrap ((k : Int) - y - 1) = (k : Int) - y - 1 := IntWalk.i64_in _ (by omega)
                clear hno
                go_wp2_with fail
                go_round
                case rel => exact ⟨a + 1, by omega, by go_num⟩
                case measure => simp [intOf]; omega
              · have d0 : decide (0 ≤ y) = false := decide_eq_false h0
                clear hno
                go_wp2_with fail
                go_round
                case rel => exact ⟨a + 1, by omega, by go_num⟩
                case measure => simp [intOf]; omega
            · obtain rfl : a = t.length := by omega
              go_wp2_with fail
              go_round
              case rel => exact ⟨i + 1, by omega, by go_num⟩
              case measure => simp [intOf]; omega
    · obtain rfl : i = mv.length := by omega
      go_wp2_with fail
      go_ret
      exact ⟨rfl, rfl⟩

/-- The last seconds after a second k with green for mv. -/
def noteL (mv : List Int) (k : Int) (L : List Int) : List Int := (List.range L.length).map fun (a : Nat) => if hasB mv (a : Int) = true then k else L.getD a 0
theorem noteL_len (mv : List Int) (k : Int) (L : List Int) : (noteL mv k L).length = L.length := by simp [noteL]
theorem noteL_get {mv : List Int} {k : Int} {L : List Int} {a : Nat} (ha : a < L.length) : (noteL mv k L).getD a 0 = if hasB mv (a : Int) = true then k else L.getD a 0 := by
  simp [noteL, List.getD_eq_getElem?_getD, ha]
theorem noteL_nil (k : Int) (L : List Int) : noteL [] k L = L := by
  refine ints_ext (noteL_len _ _ _) (fun a ha => ?_)
  rw [noteL_len] at ha
  rw [noteL_get ha]
  rw [if_neg (by simp [hasB])]
theorem noteL_snoc {mv : List Int} {k : Int} {L : List Int} {j M : Nat} (hj : j < mv.length) (hM : mv.getD j 0 = (M : Int)) (hML : M < L.length) : noteL (mv.take (j + 1)) k L = (noteL (mv.take j) k L).set M k := by
  refine ints_ext (by rw [List.length_set, noteL_len, noteL_len]) (fun a ha => ?_)
  rw [noteL_len] at ha
  rw [noteL_get ha]
  have e1 : hasB (mv.take (j + 1)) a = true ↔ hasB (mv.take j) a = true ∨ M = a := by
    rw [hasB_mem, hasB_mem, List.take_succ_eq_append_getElem hj, List.mem_append, List.mem_singleton]
    have : mv[j] = (M : Int) := by rw [← hM]; simp [List.getD_eq_getElem?_getD, hj]
    rw [this]
    constructor
    · rintro (h | h)
      · exact .inl h
      · exact .inr (by omega)
    · rintro (h | h)
      · exact .inl h
      · exact .inr (by omega)
  rw [getD_set (by rw [noteL_len]; exact hML)]
  by_cases h : a = M
  · subst h; rw [if_pos (e1.2 (.inr rfl)), if_pos rfl]
  · rw [if_neg h, noteL_get ha]
    by_cases h2 : hasB (mv.take j) a = true
    · rw [if_pos h2, if_pos (e1.2 (.inl h2))]
    · rw [if_neg h2, if_neg (fun h3 => by rcases e1.1 h3 with h4 | h4; exact h2 h4; exact h h4.symm)]

/-- A watch that the call owns. -/
structure WatchO (W : World) (lo bw g : Nat) (t : List (List Int)) (vt : Value) (L : List Int) : Prop where
  c0 : W.cell? ⟨bw, 0, none⟩ = some vt
  c1 : W.cell? ⟨bw, 1, none⟩ = some (.slice (some ⟨g, 0, none⟩) t.length t.length)
  ll : L.length = t.length
  own : Own W lo 3 1 (.slice (some ⟨g, 0, none⟩) t.length t.length) t.length (L.map (.int .i64))
  lb : lo ≤ bw
  ne : bw ≠ g
theorem WatchO.grown {W W' : World} {lo bw g : Nat} {t : List (List Int)} {vt : Value} {L : List Int} (h : WatchO W lo bw g t vt L) (hb : Below W.heap.size W W') : WatchO W' lo bw g t vt L := by
  have l0 := World.block_lt_of_cell? W ⟨bw, 0, none⟩ h.c0
  exact ⟨(hb.cell (p := ⟨bw, 0, none⟩) l0).trans h.c0, (hb.cell (p := ⟨bw, 1, none⟩) l0).trans h.c1, h.ll, h.own.below hb (Nat.le_refl _), h.lb, h.ne⟩

set_option maxHeartbeats 8000000 in
theorem note_any (w : World) (lo bw g : Nat) (t : List (List Int)) (vt : Value) (L : List Int) (lm : Nat) (vm : Value) (mv : List Int) (k : Nat) (hw : WatchO w lo bw g t vt L) (h1 : 1 ≤ t.length) (hm : Ints w lm vm mv) (hg : ∀ W, w.grownBy W (some g) → Ints W lm vm mv) (hmv : movesB mv t.length = true) :
    Calls Try.prog 100 #[.pointer (some ⟨bw, 0, none⟩), vm, .int .i64 k] w fun e w' => e = .returned (.tuple #[]) ∧ WatchO w' lo bw g t vt (noteL mv k L) ∧ w.grownBy w' (some g) := by
  obtain ⟨am, cm, rfl, hcm, hmm⟩ := hm.form
  have hw0 : WatchO w lo bw g t vt (noteL (mv.take 0) k L) := by rw [List.take_zero, noteL_nil]; exact hw
  have HW := Lib.hid hw0
  have HG := Lib.hid hg
  have HMV := Lib.hid hmv
  have HLL := Lib.hid hw.ll
  clear hw hm hg hmv hw0
  go_enter Try.func100, Try.ntmps100
  go_wp2_with fail
  go_loopw [10] (fun iv W => ∃ i : Nat, i ≤ mv.length ∧ iv = .int .i64 i ∧ Hid (WatchO W lo bw g t vt (noteL (mv.take i) k L)) ∧ Hid (w.grownBy W (some g))) (fun iv _ => mv.length - (intOf iv).toNat)
  case atStart => exact ⟨0, Nat.zero_le _, rfl, HW, grownBy_refl _ _⟩
  case round =>
    clear HW
    obtain ⟨i, hi, rfl, HO, HGR⟩ := hrel
    by_cases hlt : i < mv.length
    · obtain ⟨bm, om, rfl, _, _, hc⟩ := (HG.out _ HGR.out).spot 0 (by omega)
      have p1 := hc i hlt
      have hin := moves_mem HMV.out (getD_in hlt)
      obtain ⟨M, hM⟩ := Int.eq_ofNat_of_zero_le hin.1
      have hMn : M < t.length := by omega
      rw [hM] at p1
      have u1 := HO.out.c1
      obtain ⟨_, e1, _, hg2, hcell, hfr, _⟩ := HO.out.own.parts (by omega)
      cases e1
      have hll : ((noteL (mv.take i) k L).map (Value.int .i64)).length = t.length := by rw [List.length_map, noteL_len, HLL.out]
      obtain ⟨z, q1⟩ : ∃ z, wr.cell? ⟨g, M, none⟩ = some z := ⟨_, hcell M (by omega)⟩
      have f1 := hfr M
      obtain ⟨hS, hgS⟩ := HO.out.own.store (by omega) M (.int .i64 k)
      have hns := noteL_snoc (k := k) (L := L) hlt hM (by rw [HLL.out]; exact hMn)
      have HF : Hid (WatchO (wr.setCell ⟨g, M, none⟩ (.int .i64 k)) lo bw g t vt (noteL (mv.take (i + 1)) k L)) := by
        have hne := HO.out.ne
        refine ⟨(World.cell?_setCell_far _ _ _ _ (Ne.symm hne)).trans HO.out.c0, (World.cell?_setCell_far _ _ _ _ (Ne.symm hne)).trans HO.out.c1, by rw [noteL_len, HLL.out], ?_, HO.out.lb, hne⟩
        rw [hns]
        have : ((noteL (mv.take i) k L).set M (k : Int)).map (Value.int .i64) = ((noteL (mv.take i) k L).map (Value.int .i64)).set M (.int .i64 k) := by simp [List.map_set]
        rw [this]; exact hS
      have HGR2 : Hid (w.grownBy (wr.setCell ⟨g, M, none⟩ (.int .i64 k)) (some g)) := grownBy_trans HGR.out hgS (fun x hx => .inl hx)
      have m0 : (0 : Int) ≤ (M : Int) := by omega
      have m1 : (M : Int) < (t.length : Int) := by omega
      clear hc hM hin hcell hfr hS hgS hns hll
      go_wp2_with fail
      go_roundw
      case rel => exact ⟨i + 1, by omega, by go_num, HF, HGR2⟩
      case measure => simp [intOf]; omega
    · obtain rfl : i = mv.length := by omega
      have HF : Hid (WatchO wr lo bw g t vt (noteL mv k L)) := by have := HO.out; rw [List.take_length] at this; exact this
      go_wp2_with fail
      first | exact bodyPost_end (results_none rfl _ _ _) rfl ⟨rfl, HF.out, HGR.out⟩ | exact bodyPost_ret (v := .tuple #[]) (results_none rfl _ _ _) rfl ⟨rfl, HF.out, HGR.out⟩

theorem box2w (w : World) (a b : Value) (T : TypeId) : ∃ w0, w0 = w.alloc (.cells #[a, b] T) ∧ Below w.heap.size w w0 ∧ w0.cell? ⟨w.heap.size, 0, none⟩ = some a ∧ w0.cell? ⟨w.heap.size, 1, none⟩ = some b ∧ w.heap.size < w0.heap.size := by
  refine ⟨_, rfl, (Below.refl _ _).alloc (Nat.le_refl _) _, ?_, ?_, by simp⟩
  · rw [cell_of_row _ w.heap.size 0 #[a, b] T (0, 0) (heap_alloc_new w _)]; simp
  · rw [cell_of_row _ w.heap.size 1 #[a, b] T (0, 0) (heap_alloc_new w _)]; simp
def WatchNew (w : World) (t : List (List Int)) (vt : Value) (e : Ending) (w' : World) : Prop :=
  ∃ bw g, e = .returned (.pointer (some ⟨bw, 0, none⟩)) ∧ WatchO w' w.heap.size bw g t vt (List.replicate t.length (-1)) ∧ w.heap.size ≤ g ∧ Below w.heap.size w w'
theorem set_repl {n k : Nat} {cs : List Value} (hk : k < n) (hl : cs.length = n) (h : ∀ j, j < k → cs[j]? = some (.int .i64 (-1))) (j : Nat) (hj : j < k + 1) : (cs.set k (.int .i64 (-1)))[j]? = some (.int .i64 (-1)) := by
  by_cases e : j = k
  · subst e; rw [List.getElem?_set_self (by omega)]
  · rw [List.getElem?_set_ne (by omega)]; exact h j (by omega)

set_option maxHeartbeats 8000000 in
theorem newWatch_any (w : World) (ao : Option Addr) (cap : Nat) (t : List (List Int)) (h1 : 1 ≤ t.length) (h8 : t.length ≤ 8) (hcap : t.length ≤ cap ∧ cap ≤ 9223372036854775807) :
    Calls Try.prog 98 #[.slice ao t.length cap] w (WatchNew w t (.slice ao t.length cap)) := by
  obtain ⟨i0, hi, hz0, hz1, hz2⟩ := info_parts (show (Try.prog.info? 3).map (fun i => (i.zero, i.size, i.bytes)) = some (some (.int .i64 0), 1, 8) by kernel_rfl)
  obtain ⟨hc1, hc2⟩ := hcap
  go_enter Try.func98, Try.ntmps98
  go_wp2_with (at_make; refine wpList_make_full _ rfl _ _ 27 rfl w.heap.size 3 i0 (.int .i64 0) 1 Try.underlying27 hi hz0 hz1 .i64 .i64 _ _ t.length rfl rfl rfl rfl (by rw [hz2]; omega) (by unfold maxLen; omega) (Nat.le_refl _) ?_; intro w1 hown hg1)
  have hO : Own w1 w.heap.size 3 1 (.slice (some ⟨w.heap.size, 0, none⟩) t.length t.length) t.length (madeCells (Value.int .i64 0).cells (t.length * 1)).toList := .inl hown
  have hB := below_of_grownBy hg1 (Nat.le_refl _) (fun k hk => by cases hk)
  obtain ⟨w2, hw2, hB2, x0, x1, hz3⟩ := box2w w1 (.slice ao t.length cap) (.slice (some ⟨w.heap.size, 0, none⟩) t.length t.length) 120
  have hg0 : w.heap.size < w1.heap.size := by obtain ⟨_, e0, _, h3, _⟩ := hO.parts (by omega); cases e0; exact h3
  have HO := Lib.hid (hO.below hB2 (Nat.le_refl _))
  have HT := Lib.hid (hB.trans (hB2.mono hB.size))
  have HX0 := Lib.hid x0
  have HX1 := Lib.hid x1
  rw [← hw2]
  clear hown hg1 hO hB hw2 hB2 x0 x1
  go_loopw [16] (fun iv W => ∃ k : Nat, ∃ cs, k ≤ t.length ∧ iv = .int .i64 k ∧ Hid (Own W w.heap.size 3 1 (.slice (some ⟨w.heap.size, 0, none⟩) t.length t.length) t.length cs) ∧ Hid (∀ j, j < k → cs[j]? = some (.int .i64 (-1))) ∧ Hid (W.cell? ⟨w1.heap.size, 0, none⟩ = some (.slice ao t.length cap) ∧ W.cell? ⟨w1.heap.size, 1, none⟩ = some (.slice (some ⟨w.heap.size, 0, none⟩) t.length t.length)) ∧ Hid (Below w.heap.size w W)) (fun iv _ => t.length - (intOf iv).toNat)
  case atStart => exact ⟨0, _, Nat.zero_le _, rfl, HO, fun j hj => absurd hj (Nat.not_lt_zero _), ⟨HX0.out, HX1.out⟩, HT⟩
  case round =>
    clear HO HT HX0 HX1
    obtain ⟨k, cs, hk, rfl, HO, HC, HX, HT⟩ := hrel
    by_cases hlt : k < t.length
    · have u1 := HX.out.2
      have hlen := HO.out.len
      obtain ⟨_, e1, _, hg2, hcell, hfr, _⟩ := HO.out.parts (by omega)
      cases e1
      obtain ⟨z, q1⟩ : ∃ z, wr.cell? ⟨w.heap.size, k, none⟩ = some z := ⟨_, hcell k (by omega)⟩
      have f1 := hfr k
      obtain ⟨hS, hgS⟩ := HO.out.store (by omega) k (.int .i64 (-1))
      have HS := Lib.hid hS
      have HC2 : Hid (∀ j, j < k + 1 → (cs.set k (.int .i64 (-1)))[j]? = some (.int .i64 (-1))) := fun j hj => set_repl (n := t.length) hlt (by omega) HC.out j hj
      have hne : w1.heap.size ≠ w.heap.size := by omega
      have HX2 : Hid ((wr.setCell ⟨w.heap.size, k, none⟩ (.int .i64 (-1))).cell? ⟨w1.heap.size, 0, none⟩ = some (.slice ao t.length cap) ∧ (wr.setCell ⟨w.heap.size, k, none⟩ (.int .i64 (-1))).cell? ⟨w1.heap.size, 1, none⟩ = some (.slice (some ⟨w.heap.size, 0, none⟩) t.length t.length)) := ⟨(World.cell?_setCell_far _ _ _ _ (Ne.symm hne)).trans HX.out.1, (World.cell?_setCell_far _ _ _ _ (Ne.symm hne)).trans HX.out.2⟩
      have HT2 := Lib.hid (HT.out.setCell (p := ⟨w.heap.size, k, none⟩) (Nat.le_refl _) (.int .i64 (-1)))
      have k0 : (0 : Int) ≤ (k : Int) := by omega
      have k1 : (k : Int) < (t.length : Int) := by omega
      clear hcell hfr hS hgS hlen
      go_wp2_with fail
      go_roundw
      case rel => exact ⟨k + 1, _, by omega, by go_num, HS, HC2, HX2, HT2⟩
      case measure => simp [intOf]; omega
    · obtain rfl : k = t.length := by omega
      have HF : Hid (WatchO wr w.heap.size w1.heap.size w.heap.size t (.slice ao t.length cap) (List.replicate t.length (-1))) := by
        refine ⟨HX.out.1, HX.out.2, by simp, ?_, Nat.le_of_lt hg0, by omega⟩
        have hl := HO.out.len
        have : cs = (List.replicate t.length (-1)).map (Value.int .i64) := by
          refine list_eq_of (n := t.length) (by omega) (by simp) (fun i hi => ?_)
          rw [HC.out i hi]; simp [hi]
        rw [← this]; exact HO.out
      go_wp2_with fail
      go_ret
      exact ⟨_, _, rfl, HF.out, Nat.le_refl _, HT.out⟩

/-- The last seconds with green before the second k. -/
def lastL (n : Nat) (H : List (List Int)) : Nat → List Int
  | 0 => List.replicate n (-1)
  | k + 1 => noteL (H.getD k []) (k : Int) (lastL n H k)
theorem lastL_len (n : Nat) (H : List (List Int)) : ∀ k, (lastL n H k).length = n := by
  intro k
  induction k with
  | zero => simp [lastL]
  | succ k ih => simp only [lastL, noteL_len]; exact ih
theorem lastL_spec (n : Nat) (H : List (List Int)) : ∀ k a, a < n → -1 ≤ (lastL n H k).getD a 0 ∧ (lastL n H k).getD a 0 < k ∧ (0 ≤ (lastL n H k).getD a 0 → ∃ j : Nat, j < k ∧ (lastL n H k).getD a 0 = j ∧ (a : Int) ∈ H.getD j []) := by
  intro k
  induction k with
  | zero =>
    intro a ha
    have : (lastL n H 0).getD a 0 = -1 := by simp [lastL, List.getD_eq_getElem?_getD, ha]
    rw [this]
    exact ⟨by omega, by omega, fun h => by omega⟩
  | succ k ih =>
    intro a ha
    obtain ⟨h1, h2, h3⟩ := ih a ha
    have : (lastL n H (k + 1)).getD a 0 = if hasB (H.getD k []) (a : Int) = true then (k : Int) else (lastL n H k).getD a 0 := noteL_get (by rw [lastL_len]; exact ha)
    rw [this]
    by_cases hb : hasB (H.getD k []) (a : Int) = true
    · rw [if_pos hb]
      exact ⟨by omega, by omega, fun _ => ⟨k, by omega, rfl, hasB_mem.1 hb⟩⟩
    · rw [if_neg hb]
      refine ⟨h1, by omega, fun h => ?_⟩
      obtain ⟨j, e1, e2, e3⟩ := h3 h
      exact ⟨j, by omega, e2, e3⟩
end

section
open Go.RowKit
set_option linter.unusedVariables false
set_option linter.unusedSimpArgs false

theorem WatchO.mono {W : World} {lo lo' bw g : Nat} {t : List (List Int)} {vt : Value} {L : List Int} (h : WatchO W lo bw g t vt L) (hl : lo' ≤ lo) : WatchO W lo' bw g t vt L := ⟨h.c0, h.c1, h.ll, h.own.mono hl, Nat.le_trans hl h.lb, h.ne⟩
structure SafeH (t : List (List Int)) (H : List (List Int)) : Prop where
  val : validCl t = true
  len : H.length ≤ 150
  mv : ∀ i, i < H.length → movesB (H.getD i []) t.length = true
  ap : ∀ i, i < H.length → apt t (H.getD i [])
  gap : ∀ i j, i < j → j < H.length → ∀ m n : Int, m ∈ H.getD i [] → n ∈ H.getD j [] → tat t m.toNat n.toNat ≤ (j : Int) - (i : Int) - 1

set_option maxHeartbeats 8000000 in
theorem firstFault_no (w : World) (lo lo' : Nat) (vt vh : Value) (t H : List (List Int)) (ht : IntSS w lo vt t) (hh : IntSS w lo' vh H) (hs : SafeH t H) :
    Calls Try.prog 50 #[vt, vh] w fun e w' => e = .returned (.int .i64 (-1)) ∧ Below w.heap.size w w' := by
  obtain ⟨ao, cap, rfl, hcap, hm⟩ := ht.form
  obtain ⟨ah, ch, rfl, hch, hmh⟩ := hh.form
  have hn1 := (validCl_iff.1 hs.val).1
  have hn8 := (validCl_iff.1 hs.val).2.1
  have hl := hs.len
  have HT := Lib.hid ht
  have HH := Lib.hid hh
  have HS := Lib.hid hs
  clear ht hh hs
  go_enter Try.func50, Try.ntmps50
  go_wp2_with fail
  refine (impl_validClearance _ lo _ t HT.out).mono ?_; rintro e _ ⟨rfl, rfl⟩
  rw [HS.out.val]
  go_wp2_with fail
  go_loopw [20] (fun iv W => ∃ i : Nat, i ≤ H.length ∧ iv = .int .i64 i ∧ Hid (Below w.heap.size w W)) (fun iv _ => H.length - (intOf iv).toNat)
  case atStart => exact ⟨0, Nat.zero_le _, rfl, Below.refl _ _⟩
  case round =>
    obtain ⟨i, hi, rfl, HB⟩ := hrel
    by_cases hlt : i < H.length
    · obtain ⟨b, off, rfl, _, hb, hc⟩ := (HH.out.below HB.out (Nat.le_refl _)).spot (by omega)
      obtain ⟨ai, ci, p1, hI⟩ := hc i hlt
      obtain ⟨n1, hn1'⟩ : ∃ n, n = (H.getD i []).length := ⟨_, rfl⟩
      rw [← hn1'] at p1
      have hI2 : Ints wr lo' (.slice ai n1 ci) (H.getD i []) := by rw [hn1']; exact hI
      have HI := Lib.hid hI2
      have HMV := Lib.hid (HS.out.mv i hlt)
      clear hc hI hI2 hn1'
      go_wp2_with fail
      refine (validMoves_any _ lo' _ (H.getD i []) t.length (by omega) HI.out).mono ?_; rintro e w2 ⟨rfl, hB2⟩
      rw [HMV.out]
      have HB2 := Lib.hid (HB.out.trans (hB2.mono HB.out.size))
      clear hB2
      go_wp2_with fail
      go_roundw
      case rel => exact ⟨i + 1, by omega, by go_num, HB2⟩
      case measure => simp [intOf]; omega
    · obtain rfl : i = H.length := by omega
      go_wp2_with fail
      refine (newWatch_any _ ao cap t hn1 hn8 ⟨hcap, hm⟩).mono ?_; rintro e w3 ⟨bw, g, rfl, hW3, hg3, hB3⟩
      have HW3 := Lib.hid (hW3.mono HB.out.size)
      have HT3 := Lib.hid (HB.out.trans (hB3.mono HB.out.size))
      have hgw : w.heap.size ≤ g := Nat.le_trans HB.out.size hg3
      clear hW3 hB3 HB hg3
      go_wp2_with fail
      go_loopw [34] (fun kv W => ∃ k : Nat, k ≤ H.length ∧ kv = .int .i64 k ∧ Hid (WatchO W w.heap.size bw g t (.slice ao t.length cap) (lastL t.length H k)) ∧ Hid (Below w.heap.size w W)) (fun kv _ => H.length - (intOf kv).toNat)
      case atStart => exact ⟨0, Nat.zero_le _, rfl, HW3, HT3⟩
      case round =>
        clear HW3 HT3
        obtain ⟨k, hk, rfl, HW, HB⟩ := hrel
        by_cases hltk : k < H.length
        · obtain ⟨b, off, rfl, _, hb, hc⟩ := HH.out.spot (by omega)
          obtain ⟨ai, ci, p0, hI0⟩ := hc k hltk
          obtain ⟨mv, hmv⟩ : ∃ mv, mv = H.getD k [] := ⟨_, rfl⟩
          rw [← hmv] at p0 hI0
          have p1 := (HB.out.cell (p := ⟨b, off + k, none⟩) hb).trans p0
          have hI : Ints wr lo' (.slice ai mv.length ci) mv := Rd.below hI0 HB.out (Nat.le_refl _) (by decide)
          have HI0 := Lib.hid hI0
          clear p0 hI0
          obtain ⟨bt, ot, rfl, _, hbt, _⟩ := (HT.out.below HB.out (Nat.le_refl _)).spot (by omega)
          have HI := Lib.hid hI
          have HMV := Lib.hid hmv
          have hM1 : movesB mv t.length = true := by rw [hmv]; exact HS.out.mv k hltk
          have hM2 : apt t mv := by rw [hmv]; exact HS.out.ap k hltk
          have HM1 := Lib.hid hM1
          have HM2 := Lib.hid hM2
          have hWR : WatchR wr bw g t bt ot cap (lastL t.length H k) := by
            have hw := HW.out
            refine ⟨?_, hw.c0, hw.c1, lastL_len _ _ _, fun a ha => ?_⟩
            · exact (HT.out.below HB.out (Nat.le_refl _)).mono (Nat.zero_le _)
            · obtain ⟨_, e1, _, _, hcell, _, _⟩ := hw.own.parts (by omega)
              cases e1
              have := hcell a (by rw [List.length_map, lastL_len]; exact ha)
              rw [this]
              have hla : a < (lastL t.length H k).length := by rw [lastL_len]; exact ha
              simp [List.getD_eq_getElem?_getD, hla]
          have HWR := Lib.hid hWR
          clear hc hI hmv hM1 hM2 hWR
          go_wp2_with fail
          refine (isFault_no _ bw g bt ot cap t (lastL t.length H k) lo' _ mv k HWR.out HS.out.val HI.out HM1.out (by omega) (fun a ha => ?_) HM2.out (fun n hn a ha h0 => ?_)).mono ?_
          · obtain ⟨q1, q2, _⟩ := lastL_spec t.length H k a ha; omega
          · obtain ⟨_, _, q3⟩ := lastL_spec t.length H k a ha
            obtain ⟨j, e1, e2, e3⟩ := q3 h0
            have := HS.out.gap j k e1 hltk (a : Int) n e3 (by rw [← HMV.out]; exact hn)
            rw [e2]
            simp only [Int.toNat_natCast] at this
            omega
          rintro e _ ⟨rfl, rfl⟩
          go_wp2_with fail
          refine (note_any _ w.heap.size bw g t _ (lastL t.length H k) lo' _ mv k HW.out hn1 HI.out (fun W hg => ?_) HM1.out).mono ?_
          · exact Rd.below HI0.out (HB.out.trans (below_of_grownBy hg (B := w.heap.size) HB.out.size (fun q hq => by cases hq; exact hgw))) (Nat.le_refl _) (by decide)
          rintro e w5 ⟨rfl, hW5, hg5⟩
          have HW5 : Hid (WatchO w5 w.heap.size bw g t (.slice (some ⟨bt, ot, none⟩) t.length cap) (lastL t.length H (k + 1))) := by
            have : lastL t.length H (k + 1) = noteL mv (k : Int) (lastL t.length H k) := by rw [HMV.out]; rfl
            unfold Hid; rw [this]; exact hW5
          have HB5 := Lib.hid (HB.out.trans (below_of_grownBy hg5 (B := w.heap.size) HB.out.size (fun q hq => by cases hq; exact hgw)))
          clear hW5 hg5
          go_wp2_with fail
          go_roundw
          case rel => exact ⟨k + 1, by omega, by go_num, HW5, HB5⟩
          case measure => simp [intOf]; omega
        · obtain rfl : k = H.length := by omega
          go_wp2_with fail
          go_ret
          exact ⟨rfl, HB.out⟩
end

section
set_option linter.unusedVariables false
set_option linter.unusedSimpArgs false

theorem asc_of_pair {xs : List Int} (h : xs.Pairwise (· < ·)) : ascB xs = true := by
  rw [ascB_iff]
  intro i hi
  by_cases e : i = 0
  · exact .inl e
  · right
    have := List.pairwise_iff_getElem.1 h (i - 1) i (by omega) hi (by omega)
    simpa [List.getD_eq_getElem?_getD, hi, show i - 1 < xs.length by omega] using this
theorem fits_filter {t : List (List Int)} (hv : validCl t = true) {P : List Int} (h : fitsB t P = true) (q : Int → Bool) : fitsB t (P.filter q) = true := by
  have hap := apt_of hv h
  obtain ⟨hm, _⟩ := fitsB_iff.1 h
  have hasc : ascB P = true := by unfold movesB at hm; simp only [Bool.and_eq_true] at hm; exact hm.2
  have hmem : ∀ i, i < (P.filter q).length → (P.filter q).getD i 0 ∈ P := fun i hi => by
    have : (P.filter q).getD i 0 ∈ P.filter q := by simp [List.getD_eq_getElem?_getD, hi]
    exact (List.mem_filter.1 this).1
  rw [fitsB_iff]
  refine ⟨?_, fun i hi k hk => ?_⟩
  · unfold movesB
    rw [Bool.and_eq_true]
    refine ⟨allB_get.2 (fun i hi => moves_mem hm (hmem i hi)), asc_of_pair ((asc_pair hasc).filter _)⟩
  · exact hap _ _ (hmem i hi) (hmem k (by omega))
theorem fits_nil (t : List (List Int)) : fitsB t [] = true := by
  rw [fitsB_iff]
  exact ⟨by simp [movesB, allB_get, ascB] <;> decide, fun i hi => by simp at hi⟩
theorem fits_grn {p : Pln} (h : validP p = true) {z : Int} (h0 : 0 ≤ z) (h1 : z < cyc p) : fitsB p.cl (grn p z) = true := by
  obtain ⟨hi, _, _⟩ := stgAt_spec h h0 h1
  unfold grn
  split
  · exact stOk_fits h hi
  · exact fits_filter (validP_iff.1 h).1 (stOk_fits h hi) _
theorem fits_swg {a b : Pln} (hab : sameC a b = true) {T s : Int} (hs : 0 ≤ s) (hT : 0 ≤ T) : fitsB a.cl (swg a b T s) = true := by
  obtain ⟨ha, hb, hcl⟩ := sameC_iff.1 hab
  have ca := cyc_bd ha
  have cb := cyc_bd hb
  have hr := br_bd ha hb hcl
  unfold swg
  split
  · exact fits_grn ha (Int.emod_nonneg _ (by omega)) (Int.emod_lt_of_pos _ (by omega))
  · split
    · exact stOk_fits ha (ph_st ha)
    · split
      · exact fits_nil _
      · rw [hcl]; exact fits_grn hb (Int.emod_nonneg _ (by omega)) (Int.emod_lt_of_pos _ (by omega))

theorem sg_facts {a b : Pln} {f s : Int} {xs : List Int} (h : xs = swO a b f s) (h0 : 0 < xs.length) :
    validCl a.cl = true ∧ fitsB a.cl xs = true ∧ (s < swT a f → grnO a s = xs) := by
  unfold swO at h
  split at h
  · rename_i hh
    obtain ⟨hv, hs⟩ := hh
    unfold swV at hv
    rw [Bool.and_eq_true] at hv
    obtain ⟨hab, hf⟩ := hv
    obtain ⟨ha, hb, hcl⟩ := sameC_iff.1 hab
    have hsb := inR_iff.1 hs
    have hT := swt_nums ha hf
    refine ⟨(validP_iff.1 ha).1, by rw [h]; exact fits_swg hab hsb.1 hT.1, fun hlt => ?_⟩
    have e : swT a f = swt (cyc a) f := by unfold swT; rw [if_pos ⟨ha, hf⟩]
    rw [e] at hlt
    rw [h]
    unfold grnO swg
    rw [if_pos ⟨ha, hs⟩, if_pos hlt]
  · rw [h] at h0; simp at h0

theorem chg1_same {t : List (List Int)} {P : List Int} {a m : Int} (h : hasB P a = true) (k : Nat) : chg1 t P P a m k = m := chg1_skip h k
theorem change_same (t : List (List Int)) (P : List Int) : change t P P = 0 := by
  unfold change
  have key : ∀ i, i ≤ P.length → chg t P P i = 0 := by
    intro i
    induction i with
    | zero => intro _; rfl
    | succ i ih =>
      intro hi
      rw [chg_succ, chg1_same (hasB_iff.2 ⟨i, by omega, rfl⟩), ih (by omega)]
  exact key _ (Nat.le_refl _)
theorem sgs_facts {a : Pln} {f s : Int} (ha : validP a = true) (hf : inR f 0 9999 = true) (hs : inR s 0 9999 = true) (hge : swT a f + 5 ≤ s) : swO a a f s = grnO a (s - (swT a f + 5)) := by
  have hab : sameC a a = true := sameC_iff.2 ⟨ha, ha, rfl⟩
  have e : swT a f = swt (cyc a) f := by unfold swT; rw [if_pos ⟨ha, hf⟩]
  have hT := swt_nums ha hf
  rw [e] at hge ⊢
  have hsb := inR_iff.1 hs
  have hbr : br a a = 0 := change_same _ _
  unfold swO swV
  rw [hab, hf, if_pos ⟨rfl, hs⟩]
  unfold swg grnO
  rw [hbr, if_neg (by omega), if_neg (by omega), if_neg (by omega), if_pos ⟨ha, inR_iff.2 ⟨by omega, by omega⟩⟩]
  congr 2; omega
end

section
open Go.RowKit
set_option linter.unusedVariables false
set_option linter.unusedSimpArgs false

structure ShF (a b : Pln) (f first count : Int) (H : List (List Int)) (N : Nat) (T : Int) : Prop where
  hab : sameC a b = true
  hf : inR f 0 9999 = true
  hT : T = swt (cyc a) f
  hT2 : swT a f = T
  T0 : 0 ≤ T
  T1 : T ≤ 10224
  hN : count = (N : Int)
  len : H.length = N
  n1 : 1 ≤ N
  n2 : N ≤ 150
  f0 : 0 ≤ first
  f1 : first + (N : Int) ≤ 10000
  get : ∀ i, i < N → H.getD i [] = swg a b T (first + (i : Int))

theorem sh_facts {a b : Pln} {f first count : Int} {H : List (List Int)} (h : H = shO a b f first count) (h0 : 0 < H.length) : ∃ N T, ShF a b f first count H N T := by
  rw [shO_vspan] at h
  split at h
  · rename_i hh
    obtain ⟨hv, hs⟩ := hh
    unfold swV at hv
    rw [Bool.and_eq_true] at hv
    obtain ⟨hab, hf⟩ := hv
    have ha := (sameC_iff.1 hab).1
    unfold vspan at hs
    simp only [Bool.and_eq_true, Bool.or_eq_true, decide_eq_true_eq, inR_iff] at hs
    obtain ⟨N, hN⟩ := Int.eq_ofNat_of_zero_le hs.1.1
    have hl : H.length = N := by rw [h, shT_len, hN]; rfl
    have hT := swt_nums ha hf
    have e : swT a f = swt (cyc a) f := by unfold swT; rw [if_pos ⟨ha, hf⟩]
    refine ⟨N, swt (cyc a) f, hab, hf, rfl, e, hT.1, hT.2, hN, hl, by omega, by omega, by omega, by omega, fun i hi => ?_⟩
    rw [h, hN]
    exact shT_get hi
  · rw [h] at h0; simp at h0
theorem ShF.one {a b : Pln} {f first count : Int} {H : List (List Int)} {N : Nat} {T : Int} (h : ShF a b f first count H N T) {i : Nat} (hi : i < N) : swO a b f (first + (i : Int)) = H.getD i [] := by
  have := h.f0; have := h.f1
  unfold swO swV
  rw [h.hab, h.hf, if_pos ⟨rfl, inR_iff.2 ⟨by omega, by omega⟩⟩, h.get i hi, ← h.hT]
theorem ShF.safe {a b : Pln} {f first count : Int} {H : List (List Int)} {N : Nat} {T : Int} (h : ShF a b f first count H N T) : SafeH a.cl H := by
  obtain ⟨ha, hb, hcl⟩ := sameC_iff.1 h.hab
  have hv := (validP_iff.1 ha).1
  have hfb := inR_iff.1 h.hf
  have hc := cyc_bd ha
  have hTc : T % cyc a = 0 := by rw [h.hT]; exact (swt_bd hc.1 hfb.1).2.2
  have hf0 := h.f0
  have fits : ∀ i, i < N → fitsB a.cl (H.getD i []) = true := fun i hi => by rw [h.get i hi]; exact fits_swg h.hab (by omega) h.T0
  refine ⟨hv, by rw [h.len]; exact h.n2, fun i hi => (fitsB_iff.1 (fits i (by rw [← h.len]; exact hi))).1, fun i hi => apt_of hv (fits i (by rw [← h.len]; exact hi)), fun i j hij hj m n hm hn => ?_⟩
  have hjN : j < N := by rw [← h.len]; exact hj
  have hmv := fits j hjN
  rw [h.get i (by omega)] at hm
  rw [h.get j hjN] at hn hmv
  have := seg_safe hv (swg_seg h.hab h.T0 hTc (x := first + (i : Int)) (by omega)) (y := first + (j : Int)) (by omega) hm hn (fun k hk => moves_mem (fitsB_iff.1 hmv).1 hk)
  omega
theorem ShF.later {a b : Pln} {f first count : Int} {H : List (List Int)} {N : Nat} {T : Int} (h : ShF a b f first count H N T) {i : Nat} (hi : i < N) (hge : T + 5 + br a b ≤ first + (i : Int)) : grnO b (first + (i : Int) - (T + 5 + br a b)) = H.getD i [] := by
  obtain ⟨ha, hb, hcl⟩ := sameC_iff.1 h.hab
  have hr := br_bd ha hb hcl
  have := h.T0; have := h.f1; have := h.f0
  rw [h.get i hi]
  unfold grnO swg
  rw [if_pos ⟨hb, inR_iff.2 ⟨by omega, by omega⟩⟩, if_neg (by omega), if_neg (by omega), if_neg (by omega)]

set_option maxHeartbeats 4000000 in
theorem impl_changeTime (w : World) (lo l1 l2 : Nat) (vt vf vo : Value) (t : List (List Int)) (fr to : List Int) (ht : IntSS w lo vt t) (hval : validCl t = true) (hf : Ints w l1 vf fr) (ho : Ints w l2 vo to) (hff : fitsB t fr = true) (hfo : fitsB t to = true) :
    Calls Try.prog 46 #[vt, vf, vo] w fun e w' => e = .returned (.int .i64 (change t fr to)) ∧ Below w.heap.size w w' := by
  obtain ⟨a1, c1, rfl, _, _⟩ := hf.form
  obtain ⟨a2, c2, rfl, _, _⟩ := ho.form
  have hm := Rd.made w [.slice a1 fr.length c1, .slice a2 to.length c2] 27 0 1 2 rfl (Nat.zero_le _) (by decide)
  obtain ⟨w1, hw1⟩ : ∃ x, x = w.alloc (.cells #[.slice a1 fr.length c1, .slice a2 to.length c2] 27) := ⟨_, rfl⟩
  rw [show (w.alloc (Obj.cells [Value.slice a1 fr.length c1, Value.slice a2 to.length c2].toArray 27)) = w1 from hw1.symm] at hm
  have hB1 : Below w.heap.size w w1 := by rw [hw1]; exact (Below.refl _ _).alloc (Nat.le_refl _) _
  have hf1 : Ints w1 0 (.slice a1 fr.length c1) fr := Rd.mono (Rd.below hf hB1 (Nat.le_refl _) (by decide)) (Nat.zero_le _)
  have ho1 : Ints w1 0 (.slice a2 to.length c2) to := Rd.mono (Rd.below ho hB1 (Nat.le_refl _) (by decide)) (Nat.zero_le _)
  have hS : IntSS w1 0 (.slice (some ⟨w.heap.size, 0, none⟩) 2 2) [fr, to] := by
    refine ⟨_, hm, fun i hi => ?_⟩
    have : i = 0 ∨ i = 1 := by simp at hi; omega
    rcases this with rfl | rfl
    · exact hf1
    · exact ho1
  have hp : phsB t [fr, to] = true := by
    rw [phsB_iff]
    intro i hi
    have : i = 0 ∨ i = 1 := by simp at hi; omega
    rcases this with rfl | rfl
    · exact hff
    · exact hfo
  have HS := Lib.hid hS
  have HP := Lib.hid hp
  have HT := Lib.hid (ht.below hB1 (Nat.le_refl _))
  have HF := Lib.hid hf1
  have HO := Lib.hid ho1
  have HB1 := Lib.hid hB1
  have HV := Lib.hid hval
  have HM1 := Lib.hid (fitsB_iff.1 hff).1
  have HM2 := Lib.hid (fitsB_iff.1 hfo).1
  have HW1 := Lib.hid hw1
  obtain ⟨a3, c3, rfl, _, _⟩ := ht.form
  clear hm hf1 ho1 hS hp ht hf ho hB1 hval hff hfo hw1
  go_enter Try.func46, Try.ntmps46
  go_wp2_with fail
  rw [← HW1.out]
  refine (impl_validPhases _ lo 0 _ _ t [fr, to] HT.out HV.out HS.out).mono ?_; rintro e w2 ⟨rfl, hB2⟩
  rw [HP.out]
  have HB2 := Lib.hid hB2
  clear hB2
  go_wp2_with fail
  refine (impl_changeOf _ lo 0 0 _ _ _ t fr to (HT.out.below HB2.out (Nat.le_refl _)) HV.out (Rd.below HF.out HB2.out (Nat.le_refl _) (by decide)) (Rd.below HO.out HB2.out (Nat.le_refl _) (by decide)) HM1.out HM2.out).mono ?_; rintro e _ ⟨rfl, rfl⟩
  go_wp2_with fail
  go_ret
  exact ⟨rfl, HB1.out.trans (HB2.out.mono HB1.out.size)⟩
end
end Go.Proofs.Ytokpgipbgkiepaa
