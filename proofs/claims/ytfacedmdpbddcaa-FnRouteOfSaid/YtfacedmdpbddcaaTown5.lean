/- Routes: plain functions and their laws; no program. -/
import Derived.Test.YtfacedmdpbddcaaTown1
namespace Go.Proofs.Ytfacedmdpbddcaa
set_option linter.unusedVariables false
set_option linter.unusedSimpArgs false

def restD (rest : List Int) (v : Int) : Int := rest.getD v.toNat 0
def cand (rest : List Int) (a : Int) (r : Rod) : Bool := decide (r.f = a) && decide (0 ≤ restD rest r.t) && decide (r.c + restD rest r.t = restD rest a)
theorem cand_iff {rest : List Int} {a : Int} {r : Rod} : cand rest a r = true ↔ r.f = a ∧ 0 ≤ restD rest r.t ∧ r.c + restD rest r.t = restD rest a := by
  simp only [cand, Bool.and_eq_true, decide_eq_true_eq]
  constructor
  · rintro ⟨⟨a, b⟩, c⟩; exact ⟨a, b, c⟩
  · rintro ⟨a, b, c⟩; exact ⟨⟨a, b⟩, c⟩
/-- The least end of the roads that fit, among the first i; n if there is none. -/
def nextI (rs : List Rod) (rest : List Int) (n a : Int) : Nat → Int
  | 0 => n
  | i + 1 => if cand rest a (rs.getD i r0) = true ∧ (rs.getD i r0).t < nextI rs rest n a i then (rs.getD i r0).t else nextI rs rest n a i
def nx (rs : List Rod) (rest : List Int) (n a : Int) : Int := nextI rs rest n a rs.length
def routeN (rs : List Rod) (rest : List Int) (n to : Int) : Nat → Int → List Int
  | 0, a => [a]
  | k + 1, a => if a = to then [a] else a :: routeN rs rest n to k (nx rs rest n a)
def restOf (n : Int) (rs : List Rod) (to : Int) : List Int := times n.toNat (rs.map turn) to.toNat
def askR (n : Int) (rs : List Rod) (from_ to : Int) : Bool := validR n rs && decide (0 ≤ from_ ∧ from_ ≤ n - 1) && decide (0 ≤ to ∧ to ≤ n - 1)
def routeL (n : Int) (rs : List Rod) (from_ to : Int) : List Int :=
  if askR n rs from_ to = true ∧ 0 ≤ restD (restOf n rs to) from_ then routeN rs (restOf n rs to) n to (restD (restOf n rs to) from_).toNat from_ else []

theorem nextI_spec {rs : List Rod} {rest : List Int} {n a : Int} (ht : ∀ r ∈ rs, 0 ≤ r.t ∧ r.t < n) (i : Nat) (hi : i ≤ rs.length) :
    (nextI rs rest n a i = n ∧ ∀ j, j < i → cand rest a (rs.getD j r0) = false) ∨ (∃ r ∈ rs, cand rest a r = true ∧ nextI rs rest n a i = r.t) := by
  induction i with
  | zero => exact .inl ⟨rfl, fun j hj => by omega⟩
  | succ i ih =>
    have hm : rs.getD i r0 ∈ rs := by simp [show i < rs.length by omega]
    simp only [nextI]
    by_cases h : cand rest a (rs.getD i r0) = true ∧ (rs.getD i r0).t < nextI rs rest n a i
    · rw [if_pos h]; exact .inr ⟨_, hm, h.1, rfl⟩
    · rw [if_neg h]
      rcases ih (by omega) with ⟨h1, h2⟩ | h1
      · refine .inl ⟨h1, fun j hj => ?_⟩
        by_cases hj2 : j = i
        · subst hj2
          rw [Bool.eq_false_iff]; intro hc
          exact h ⟨hc, by rw [h1]; exact (ht _ hm).2⟩
        · exact h2 j (by omega)
      · exact .inr h1

/-- What is known of a town and the travel times to its end. -/
structure Town (n : Int) (rs : List Rod) (to : Int) (rest : List Int) : Prop where
  ok : validR n rs = true
  t0 : 0 ≤ to
  t1 : to < n
  d : ∀ v, 0 ≤ v → v < n → Dist rs v to (restD rest v)

theorem Way.uncons {rs : List Rod} {a b c : Int} (h : Way rs a b c) : (a = b ∧ c = 0) ∨ ∃ r ∈ rs, r.f = a ∧ ∃ c', Way rs r.t b c' ∧ c = r.c + c' := by
  induction h with
  | nil => exact .inl ⟨rfl, rfl⟩
  | snoc q hw hq hf ih =>
    right
    rcases ih with ⟨e1, e2⟩ | ⟨r, hr, e1, c', hw', e2⟩
    · subst e1 e2; exact ⟨q, hq, hf, 0, .nil _, by omega⟩
    · exact ⟨r, hr, e1, c' + q.c, .snoc q hw' hq hf, by omega⟩

namespace Town
variable {n : Int} {rs : List Rod} {to : Int} {rest : List Int}
theorem road (h : Town n rs to rest) {r : Rod} (hr : r ∈ rs) : 0 ≤ r.f ∧ r.f < n ∧ 0 ≤ r.t ∧ r.t < n ∧ 1 ≤ r.c ∧ r.c ≤ 60 := by
  have := okR_iff.1 (validR_mem h.ok hr); omega
theorem next (h : Town n rs to rest) {a : Int} (h0 : 0 ≤ a) (h1 : a < n) (hd : 0 ≤ restD rest a) (hne : a ≠ to) :
    ∃ r ∈ rs, cand rest a r = true ∧ nx rs rest n a = r.t := by
  rcases nextI_spec (rest := rest) (a := a) (fun r hr => ⟨(h.road hr).2.2.1, (h.road hr).2.2.2.1⟩) rs.length (Nat.le_refl _) with ⟨_, h2⟩ | h2
  · exfalso
    obtain ⟨_, hw, hmin⟩ := h.d a h0 h1
    rcases (hw hd).uncons with ⟨e, _⟩ | ⟨r, hr, hf, c', hw', e⟩
    · exact hne e
    · have ok := h.road hr
      obtain ⟨_, hw2, hmin2⟩ := h.d r.t ok.2.2.1 ok.2.2.2.1
      have m2 := hmin2 c' hw'
      have := hmin _ ((hw2 m2.1).cons r hr rfl |> fun x => by rw [hf] at x; exact x)
      obtain ⟨j, hj, rfl⟩ := List.getElem_of_mem hr
      have hn := h2 j hj
      have : cand rest a (rs.getD j r0) = true := by
        rw [cand_iff]
        simp only [List.getD_eq_getElem?_getD, List.getElem?_eq_getElem hj, Option.getD_some]
        exact ⟨hf, m2.1, by omega⟩
      rw [hn] at this; cases this
  · exact h2
theorem step (h : Town n rs to rest) {a : Int} (h0 : 0 ≤ a) (h1 : a < n) (hd : 0 ≤ restD rest a) (hne : a ≠ to) :
    0 ≤ nx rs rest n a ∧ nx rs rest n a < n ∧ 0 ≤ restD rest (nx rs rest n a) ∧ restD rest (nx rs rest n a) < restD rest a := by
  obtain ⟨r, hr, hc, e⟩ := h.next h0 h1 hd hne
  have ok := h.road hr
  have := cand_iff.1 hc
  rw [e]; omega
theorem zero (h : Town n rs to rest) : restD rest to = 0 := by
  have := h.d to h.t0 h.t1
  have h1 := this.2.2 0 (.nil _)
  omega
theorem stable (h : Town n rs to rest) : ∀ (k k' : Nat) (a : Int), 0 ≤ a → a < n → 0 ≤ restD rest a → restD rest a ≤ k → restD rest a ≤ k' → routeN rs rest n to k a = routeN rs rest n to k' a := by
  intro k
  induction k with
  | zero =>
    intro k' a h0 h1 hd hk hk'
    have e : a = to := by
      apply Classical.byContradiction; intro hne
      have := h.step h0 h1 hd hne; omega
    cases k' with
    | zero => rfl
    | succ k' => simp [routeN, e]
  | succ k ih =>
    intro k' a h0 h1 hd hk hk'
    by_cases e : a = to
    · cases k' <;> simp [routeN, e]
    · have s := h.step h0 h1 hd e
      cases k' with
      | zero => omega
      | succ k' => simp only [routeN, if_neg e]; rw [ih k' _ s.1 s.2.1 s.2.2.1 (by omega) (by omega)]
theorem unfold_ (h : Town n rs to rest) {a : Int} (h0 : 0 ≤ a) (h1 : a < n) (hd : 0 ≤ restD rest a) (hne : a ≠ to) :
    routeN rs rest n to (restD rest a).toNat a = a :: routeN rs rest n to (restD rest (nx rs rest n a)).toNat (nx rs rest n a) := by
  have s := h.step h0 h1 hd hne
  have s4 := s.2.2.2
  have s3 := s.2.2.1
  obtain ⟨k, hk⟩ : ∃ k, (restD rest a).toNat = k + 1 := ⟨(restD rest a).toNat - 1, by omega⟩
  rw [hk]; simp only [routeN, if_neg hne]
  rw [h.stable k (restD rest (nx rs rest n a)).toNat _ s.1 s.2.1 s.2.2.1 (by omega) (by omega)]
theorem at_end (a : Int) (h : a = to) (k : Nat) : routeN rs rest n to k a = [a] := by
  cases k <;> simp [routeN, h]

/-- What holds along a route. -/
def Along (n : Int) (rs : List Rod) (to : Int) (rest out : List Int) (a : Int) : Prop :=
  0 < out.length ∧ out.getD 0 0 = a ∧ out.getD (out.length - 1) 0 = to ∧ (out.length : Int) ≤ restD rest a + 1 ∧
    ∀ i, i + 1 < out.length → (0 ≤ out.getD i 0 ∧ out.getD i 0 < n ∧ 0 ≤ restD rest (out.getD i 0) ∧ out.getD i 0 ≠ to ∧ out.getD (i + 1) 0 = nx rs rest n (out.getD i 0))
theorem along (h : Town n rs to rest) : ∀ (k : Nat) (a : Int), 0 ≤ a → a < n → 0 ≤ restD rest a → restD rest a ≤ k → Along n rs to rest (routeN rs rest n to k a) a := by
  intro k
  induction k with
  | zero =>
    intro a h0 h1 hd hk
    have e : a = to := by
      apply Classical.byContradiction; intro hne
      have := h.step h0 h1 hd hne; omega
    exact ⟨by simp [routeN], by simp [routeN], by simp [routeN, e], by simp [routeN]; omega, fun i hi => by simp [routeN] at hi⟩
  | succ k ih =>
    intro a h0 h1 hd hk
    by_cases e : a = to
    · rw [at_end a e]; exact ⟨by simp, by simp, by simp [e], by simp; omega, fun i hi => by simp at hi⟩
    · have s := h.step h0 h1 hd e
      obtain ⟨i1, i2, i3, i4, i5⟩ := ih _ s.1 s.2.1 s.2.2.1 (by omega)
      simp only [routeN, if_neg e]
      refine ⟨by simp, by simp, ?_, by simp only [List.length_cons]; omega, fun i hi => ?_⟩
      · rw [List.length_cons, Nat.add_sub_cancel]
        obtain ⟨m, hm⟩ : ∃ m, (routeN rs rest n to k (nx rs rest n a)).length = m + 1 := ⟨_, (Nat.sub_add_cancel i1).symm⟩
        rw [hm] at i3 ⊢
        simpa using i3
      · cases i with
        | zero => exact ⟨by simpa using h0, by simpa using h1, by simpa using hd, by simpa using e, by simpa using i2⟩
        | succ i =>
          have := i5 i (by simpa using hi)
          simpa using this
end Town

/-! The reference's choice of the next crossing. -/
def nextS (rs : List Rod) (rest : List Int) (n a : Int) (i : Nat) : Int := if nextI rs rest n a i = n then -1 else nextI rs rest n a i
def costS (rs : List Rod) (rest : List Int) (n a : Int) (i : Nat) : Int := if nextI rs rest n a i = n then 0 else restD rest a - restD rest (nextI rs rest n a i)
theorem nextS_step {rs : List Rod} {rest : List Int} {n a : Int} (ht : ∀ r ∈ rs, 0 ≤ r.t ∧ r.t < n) {i : Nat} (hi : i < rs.length) :
    (cand rest a (rs.getD i r0) = true ∧ (nextS rs rest n a i < 0 ∨ (rs.getD i r0).t < nextS rs rest n a i) → nextS rs rest n a (i + 1) = (rs.getD i r0).t ∧ costS rs rest n a (i + 1) = (rs.getD i r0).c) ∧
    (¬ (cand rest a (rs.getD i r0) = true ∧ (nextS rs rest n a i < 0 ∨ (rs.getD i r0).t < nextS rs rest n a i)) → nextS rs rest n a (i + 1) = nextS rs rest n a i ∧ costS rs rest n a (i + 1) = costS rs rest n a i) := by
  have hm : rs.getD i r0 ∈ rs := by simp [hi]
  have hx := ht _ hm
  have hold : nextI rs rest n a i = n ∨ (0 ≤ nextI rs rest n a i ∧ nextI rs rest n a i < n) := by
    rcases nextI_spec (rest := rest) (a := a) ht i (by omega) with h | ⟨r, hr, _, e⟩
    · exact .inl h.1
    · right; rw [e]; exact ht r hr
  have hstep : nextI rs rest n a (i + 1) = if cand rest a (rs.getD i r0) = true ∧ (rs.getD i r0).t < nextI rs rest n a i then (rs.getD i r0).t else nextI rs rest n a i := rfl
  have hiff : (cand rest a (rs.getD i r0) = true ∧ (rs.getD i r0).t < nextI rs rest n a i) ↔ (cand rest a (rs.getD i r0) = true ∧ (nextS rs rest n a i < 0 ∨ (rs.getD i r0).t < nextS rs rest n a i)) := by
    unfold nextS
    rcases hold with h | ⟨h1, h2⟩
    · rw [if_pos h, h]
      exact ⟨fun x => ⟨x.1, .inl (by omega)⟩, fun x => ⟨x.1, hx.2⟩⟩
    · rw [if_neg (by omega)]
      exact ⟨fun x => ⟨x.1, .inr x.2⟩, fun x => ⟨x.1, by rcases x.2 with h | h <;> omega⟩⟩
  constructor
  · intro h
    have e : nextI rs rest n a (i + 1) = (rs.getD i r0).t := by rw [hstep, if_pos (hiff.2 h)]
    have c := cand_iff.1 h.1
    unfold nextS costS
    rw [e, if_neg (by omega), if_neg (by omega)]
    exact ⟨rfl, by omega⟩
  · intro h
    have e : nextI rs rest n a (i + 1) = nextI rs rest n a i := by rw [hstep, if_neg (fun x => h (hiff.1 x))]
    unfold nextS costS
    rw [e]
    exact ⟨rfl, rfl⟩

/-! The shortest road between two crossings, as the law looks for it. -/
def leastI (rs : List Rod) (a b : Int) : Nat → Int
  | 0 => -1
  | i + 1 => if (rs.getD i r0).f = a ∧ (rs.getD i r0).t = b ∧ (leastI rs a b i < 0 ∨ (rs.getD i r0).c < leastI rs a b i) then (rs.getD i r0).c else leastI rs a b i
theorem leastI_spec {rs : List Rod} (h1 : ∀ r ∈ rs, 1 ≤ r.c) {a b : Int} (i : Nat) (hi : i ≤ rs.length) :
    ((leastI rs a b i = -1 ∧ ∀ j, j < i → ¬ ((rs.getD j r0).f = a ∧ (rs.getD j r0).t = b)) ∨ (1 ≤ leastI rs a b i ∧ ∃ r ∈ rs, r.f = a ∧ r.t = b ∧ leastI rs a b i = r.c)) ∧
    ∀ j, j < i → (rs.getD j r0).f = a → (rs.getD j r0).t = b → leastI rs a b i ≤ (rs.getD j r0).c := by
  induction i with
  | zero => exact ⟨.inl ⟨rfl, fun j hj => by omega⟩, fun j hj => by omega⟩
  | succ i ih =>
    obtain ⟨i1, i2⟩ := ih (by omega)
    have hm : rs.getD i r0 ∈ rs := by simp [show i < rs.length by omega]
    have hc := h1 _ hm
    simp only [leastI]
    by_cases h : (rs.getD i r0).f = a ∧ (rs.getD i r0).t = b ∧ (leastI rs a b i < 0 ∨ (rs.getD i r0).c < leastI rs a b i)
    · rw [if_pos h]
      refine ⟨.inr ⟨hc, _, hm, h.1, h.2.1, rfl⟩, fun j hj hf ht => ?_⟩
      by_cases hj2 : j = i
      · subst hj2; exact Int.le_refl _
      · rcases h.2.2 with h3 | h3
        · rcases i1 with ⟨_, h4⟩ | h4
          · exact absurd ⟨hf, ht⟩ (h4 j (by omega))
          · omega
        · have := i2 j (by omega) hf ht; omega
    · rw [if_neg h]
      refine ⟨?_, fun j hj hf ht => ?_⟩
      · rcases i1 with ⟨h3, h4⟩ | h4
        · refine .inl ⟨h3, fun j hj hj2 => ?_⟩
          by_cases e : j = i
          · subst e; exact h ⟨hj2.1, hj2.2, .inl (by omega)⟩
          · exact h4 j (by omega) hj2
        · exact .inr h4
      · by_cases hj2 : j = i
        · subst hj2
          rcases i1 with ⟨h3, _⟩ | h4
          · exact absurd ⟨hf, ht, .inl (by omega)⟩ h
          · apply Classical.byContradiction; intro hlt; exact h ⟨hf, ht, .inr (by omega)⟩
        · exact i2 j (by omega) hf ht
theorem Town.least {n : Int} {rs : List Rod} {to : Int} {rest : List Int} (h : Town n rs to rest) {a : Int} (h0 : 0 ≤ a) (h1 : a < n) (hd : 0 ≤ restD rest a) (hne : a ≠ to) :
    leastI rs a (nx rs rest n a) rs.length = restD rest a - restD rest (nx rs rest n a) ∧ 1 ≤ leastI rs a (nx rs rest n a) rs.length := by
  obtain ⟨r, hr, hc, e⟩ := h.next h0 h1 hd hne
  have c := cand_iff.1 hc
  obtain ⟨s1, s2⟩ := leastI_spec (fun r hr => (h.road hr).2.2.2.2.1) (rs := rs) (a := a) (b := nx rs rest n a) rs.length (Nat.le_refl _)
  obtain ⟨j, hj, hjr⟩ := List.getElem_of_mem hr
  have hg : rs.getD j r0 = r := by rw [List.getD_eq_getElem?_getD, List.getElem?_eq_getElem hj]; exact hjr
  have h2 := s2 j hj (by rw [hg]; exact c.1) (by rw [hg]; exact e.symm)
  rw [hg] at h2
  rcases s1 with ⟨_, s3⟩ | ⟨s3, q, hq, qf, qt, qe⟩
  · exact absurd ⟨by rw [hg]; exact c.1, by rw [hg]; exact e.symm⟩ (s3 j hj)
  · refine ⟨?_, s3⟩
    have ok := h.road hq
    obtain ⟨_, hw2, _⟩ := h.d q.t ok.2.2.1 ok.2.2.2.1
    have m := (h.d a h0 h1).2.2 _ ((hw2 (by rw [qt, e]; exact c.2.1)).cons q hq rfl |> fun x => by rw [qf] at x; exact x)
    rw [qt] at m
    rw [e] at m qe h2 ⊢
    omega

/-- The travel times to the end, found by the process on the turned roads. -/
theorem town_of {n : Int} {rs : List Rod} {to : Int} (hv : validR n rs = true) (h0 : 0 ≤ to) (h1 : to < n) : Town n rs to (restOf n rs to) := by
  obtain ⟨a1, a2, a3, _⟩ := validR_iff.1 hv
  refine ⟨hv, h0, h1, fun v hv0 hv1 => ?_⟩
  have hr : ∀ r ∈ rs.map turn, okR (((n.toNat : Nat) : Int) - 1) r = true := by
    intro r hr
    obtain ⟨q, hq, rfl⟩ := List.mem_map.1 hr
    have := okR_iff.1 (validR_mem hv hq)
    rw [okR_iff]; simp only [turn]
    exact ⟨by omega, by omega, by omega, by omega, fun e => this.2.2.2.2.1 e.symm, by omega, by omega⟩
  have := times_dist (n := n.toNat) (s := to.toNat) hr (by simp; exact a3) (by omega) (by omega) v.toNat (by omega)
  have e1 : ((to.toNat : Nat) : Int) = to := by omega
  have e2 : ((v.toNat : Nat) : Int) = v := by omega
  rw [e1, e2] at this
  exact this.turned
theorem dist_of {n : Int} {rs : List Rod} {s v : Int} (hv : validR n rs = true) (h0 : 0 ≤ s) (h1 : s < n) (v0 : 0 ≤ v) (v1 : v < n) : Dist rs s v ((times n.toNat rs s.toNat).getD v.toNat 0) := by
  obtain ⟨a1, a2, a3, _⟩ := validR_iff.1 hv
  have hr : ∀ r ∈ rs, okR (((n.toNat : Nat) : Int) - 1) r = true := fun r hr => by
    rw [show ((n.toNat : Nat) : Int) = n by omega]; exact validR_mem hv hr
  have := times_dist (n := n.toNat) (s := s.toNat) hr a3 (by omega) (by omega) v.toNat (by omega)
  have e1 : ((s.toNat : Nat) : Int) = s := by omega
  have e2 : ((v.toNat : Nat) : Int) = v := by omega
  rw [e1, e2] at this
  exact this
theorem Town.fwd {n : Int} {rs : List Rod} {to : Int} {rest : List Int} (h : Town n rs to rest) {s : Int} (h0 : 0 ≤ s) (h1 : s < n) : (times n.toNat rs s.toNat).getD to.toNat 0 = restD rest s :=
  (dist_of h.ok h0 h1 h.t0 h.t1).uniq (h.d s h0 h1)
end Go.Proofs.Ytfacedmdpbddcaa
