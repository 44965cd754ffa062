/- Plain functions on roads, travel times and their laws; no program. -/
import Derived.Test.YtpaioaknppgggaaGreatDoorKit
namespace Go.Proofs.YtpaioaknppgggaaGreatDoor
set_option linter.unusedVariables false
set_option linter.unusedSimpArgs false

structure Rod where
  f : Int
  t : Int
  c : Int
  deriving DecidableEq

def r0 : Rod := ⟨0, 0, 0⟩

def okR (m : Int) (r : Rod) : Bool := decide (0 ≤ r.f) && decide (r.f ≤ m) && decide (0 ≤ r.t) && decide (r.t ≤ m) && decide (r.f ≠ r.t) && decide (1 ≤ r.c) && decide (r.c ≤ 60)
theorem okR_iff {m : Int} {r : Rod} : okR m r = true ↔ 0 ≤ r.f ∧ r.f ≤ m ∧ 0 ≤ r.t ∧ r.t ≤ m ∧ r.f ≠ r.t ∧ 1 ≤ r.c ∧ r.c ≤ 60 := by
  simp only [okR, Bool.and_eq_true, decide_eq_true_eq]
  constructor
  · rintro ⟨⟨⟨⟨⟨⟨a, b⟩, c⟩, d⟩, e⟩, f⟩, g⟩; exact ⟨a, b, c, d, e, f, g⟩
  · rintro ⟨a, b, c, d, e, f, g⟩; exact ⟨⟨⟨⟨⟨⟨a, b⟩, c⟩, d⟩, e⟩, f⟩, g⟩
def okAt (m : Int) (rs : List Rod) (i : Nat) : Bool := okR m (rs.getD i r0)
def validR (n : Int) (rs : List Rod) : Bool := decide (1 ≤ n) && decide (n ≤ 8) && decide (rs.length ≤ 24) && (List.range rs.length).all (okAt (n - 1) rs)
theorem validR_iff {n : Int} {rs : List Rod} : validR n rs = true ↔ 1 ≤ n ∧ n ≤ 8 ∧ rs.length ≤ 24 ∧ ∀ i, i < rs.length → okAt (n - 1) rs i = true := by
  simp only [validR, Bool.and_eq_true, decide_eq_true_eq, List.all_eq_true, List.mem_range]
  constructor
  · rintro ⟨⟨⟨a, b⟩, c⟩, d⟩; exact ⟨a, b, c, d⟩
  · rintro ⟨a, b, c, d⟩; exact ⟨⟨⟨a, b⟩, c⟩, d⟩
theorem validR_no {n : Int} {rs : List Rod} (h : ¬ (1 ≤ n ∧ n ≤ 8 ∧ rs.length ≤ 24 ∧ ∀ i, i < rs.length → okAt (n - 1) rs i = true)) : validR n rs = false := by
  rw [Bool.eq_false_iff]; intro hv; exact h (validR_iff.1 hv)
theorem validR_bad {n : Int} {rs : List Rod} {i : Nat} (hi : i < rs.length) (h : okAt (n - 1) rs i = false) : validR n rs = false :=
  validR_no fun hv => by rw [hv.2.2.2 i hi] at h; cases h
theorem validR_mem {n : Int} {rs : List Rod} (h : validR n rs = true) {r : Rod} (hr : r ∈ rs) : okR (n - 1) r = true := by
  obtain ⟨i, hi, rfl⟩ := List.getElem_of_mem hr
  have := (validR_iff.1 h).2.2.2 i hi
  simpa [okAt, hi] using this
theorem validR_of {n : Int} {rs : List Rod} (h1 : 1 ≤ n) (h2 : n ≤ 8) (h3 : rs.length ≤ 24) (h : ∀ r ∈ rs, okR (n - 1) r = true) : validR n rs = true :=
  validR_iff.2 ⟨h1, h2, h3, fun i hi => by have := h rs[i] (List.getElem_mem hi); simpa [okAt, hi] using this⟩

/-! Relaxing. -/
def relax (ts : List Int) (r : Rod) : List Int :=
  if ts.getD r.f.toNat 0 < 0 then ts
  else if ts.getD r.t.toNat 0 < 0 ∨ ts.getD r.f.toNat 0 + r.c < ts.getD r.t.toNat 0 then ts.set r.t.toNat (ts.getD r.f.toNat 0 + r.c) else ts
def pass (rs : List Rod) (ts : List Int) : List Int := rs.foldl relax ts
def rounds (rs : List Rod) (ts : List Int) : Nat → List Int
  | 0 => ts
  | k + 1 => pass rs (rounds rs ts k)
def start (n s : Nat) : List Int := (List.replicate n (-1)).set s 0
def times (n : Nat) (rs : List Rod) (s : Nat) : List Int := rounds rs (start n s) n

theorem relax_len (ts : List Int) (r : Rod) : (relax ts r).length = ts.length := by
  unfold relax; split
  · rfl
  · split <;> simp
theorem pass_len (rs : List Rod) : ∀ ts : List Int, (pass rs ts).length = ts.length := by
  induction rs with
  | nil => intro ts; rfl
  | cons r rs ih => intro ts; show (pass rs (relax ts r)).length = _; rw [ih, relax_len]
theorem rounds_len (rs : List Rod) (ts : List Int) (k : Nat) : (rounds rs ts k).length = ts.length := by
  induction k with
  | zero => rfl
  | succ k ih => simp only [rounds]; rw [pass_len, ih]
theorem times_len (n : Nat) (rs : List Rod) (s : Nat) : (times n rs s).length = n := by
  unfold times start; rw [rounds_len]; simp
theorem pass_take (rs : List Rod) (ts : List Int) (i : Nat) (hi : i < rs.length) : pass (rs.take (i + 1)) ts = relax (pass (rs.take i) ts) (rs.getD i r0) := by
  unfold pass
  rw [List.take_succ_eq_append_getElem hi, List.foldl_append]
  simp [hi]

/-- Bounds of all entries. -/
def Bnd (B : Int) (ts : List Int) : Prop := ∀ i, i < ts.length → -1 ≤ ts.getD i 0 ∧ ts.getD i 0 ≤ B
theorem getD_set {ts : List Int} {j i : Nat} {x : Int} (hj : j < ts.length) : (ts.set j x).getD i 0 = if i = j then x else ts.getD i 0 := by
  simp only [List.getD_eq_getElem?_getD]
  by_cases h : i = j
  · subst h; rw [List.getElem?_set_self hj, if_pos rfl]; rfl
  · rw [List.getElem?_set_ne (fun e => h e.symm), if_neg h]
theorem relax_bnd {B : Int} {ts : List Int} {r : Rod} (hb : Bnd B ts) (hB : 0 ≤ B) (h1 : 1 ≤ r.c) (h2 : r.c ≤ 60) (hf : r.f.toNat < ts.length) (ht : r.t.toNat < ts.length) : Bnd (B + 60) (relax ts r) := by
  intro i hi
  rw [relax_len] at hi
  have h0 := hb i hi
  unfold relax
  split
  · omega
  · split
    · rw [getD_set ht]
      have := hb _ hf
      split <;> omega
    · omega
theorem pass_bnd {m : Int} (rs : List Rod) (hr : ∀ r ∈ rs, okR m r = true) : ∀ {B : Int} {ts : List Int}, Bnd B ts → 0 ≤ B → m < ts.length → Bnd (B + 60 * (rs.length : Int)) (pass rs ts) := by
  induction rs with
  | nil => intro B ts h _ _; simpa [pass] using h
  | cons r rs ih =>
    intro B ts h hB hm
    have ok := okR_iff.1 (hr r (by simp))
    have := ih (fun x hx => hr x (by simp [hx])) (relax_bnd h hB ok.2.2.2.2.2.1 ok.2.2.2.2.2.2 (by omega) (by omega)) (by omega) (by rw [relax_len]; exact hm)
    show Bnd _ (pass rs (relax ts r))
    have e : B + 60 + 60 * (rs.length : Int) = B + 60 * ((r :: rs).length : Int) := by simp; omega
    rw [← e]; exact this
theorem start_bnd (n s : Nat) (hs : s < n) : Bnd 0 (start n s) := by
  intro i hi
  unfold start at hi ⊢
  rw [getD_set (by simpa using hs)]
  split
  · omega
  · have : i < n := by simpa using hi
    simp [this]
theorem Bnd.mono {B B' : Int} {ts : List Int} (h : Bnd B ts) (hB : B ≤ B') : Bnd B' ts := fun i hi => ⟨(h i hi).1, by have := (h i hi).2; omega⟩
theorem rounds_bnd {n s : Nat} {rs : List Rod} (hr : ∀ r ∈ rs, okR ((n : Int) - 1) r = true) (hl : rs.length ≤ 24) (hs : s < n) (k : Nat) : Bnd (1440 * (k : Int)) (rounds rs (start n s) k) := by
  induction k with
  | zero => simpa [rounds] using start_bnd n s hs
  | succ k ih =>
    have h := pass_bnd rs hr ih (by omega) (by rw [rounds_len]; simp [start]; omega)
    simp only [rounds]
    exact h.mono (by omega)
theorem part_bnd {n s : Nat} {rs : List Rod} (hr : ∀ r ∈ rs, okR ((n : Int) - 1) r = true) (hl : rs.length ≤ 24) (hs : s < n) (k i : Nat) (hk : k ≤ 8) : Bnd 20000 (pass (rs.take i) (rounds rs (start n s) k)) := by
  have h := pass_bnd (rs.take i) (fun r h => hr r (List.mem_of_mem_take h)) (rounds_bnd hr hl hs k) (by omega) (by rw [rounds_len]; simp [start]; omega)
  exact h.mono (by have : (rs.take i).length ≤ 24 := by rw [List.length_take]; omega
                   omega)
theorem times_bnd {n s : Nat} {rs : List Rod} (hr : ∀ r ∈ rs, okR ((n : Int) - 1) r = true) (hl : rs.length ≤ 24) (hs : s < n) (hn : n ≤ 8) : Bnd 20000 (times n rs s) := (rounds_bnd hr hl hs n).mono (by omega)

/-! Ways. -/
inductive Way (rs : List Rod) : Int → Int → Int → Prop
  | nil (a : Int) : Way rs a a 0
  | snoc {a b c : Int} (r : Rod) : Way rs a b c → r ∈ rs → r.f = b → Way rs a r.t (c + r.c)

theorem Way.nonneg {rs : List Rod} (h1 : ∀ r ∈ rs, 1 ≤ r.c) {a b c : Int} (h : Way rs a b c) : 0 ≤ c := by
  induction h with
  | nil => omega
  | snoc r _ hr _ ih => have := h1 r hr; omega
theorem Way.mono {rs rs' : List Rod} (h1 : ∀ r ∈ rs, r ∈ rs') {a b c : Int} (h : Way rs a b c) : Way rs' a b c := by
  induction h with
  | nil => exact .nil _
  | snoc r _ hr hf ih => exact .snoc r ih (h1 r hr) hf
theorem Way.cons {rs : List Rod} {a b c : Int} (h : Way rs a b c) : ∀ r ∈ rs, r.t = a → Way rs r.f b (r.c + c) := by
  induction h with
  | nil =>
    intro r hr ht
    have := Way.snoc r (Way.nil r.f) hr rfl
    rw [ht] at this
    rw [show r.c + 0 = 0 + r.c by omega]; exact this
  | snoc q _ hq hf ih =>
    intro r hr ht
    have := Way.snoc q (ih r hr ht) hq hf
    rw [Int.add_assoc] at this; exact this
def turn (r : Rod) : Rod := ⟨r.t, r.f, r.c⟩
theorem Way.turned {rs : List Rod} {a b c : Int} (h : Way rs a b c) : Way (rs.map turn) b a c := by
  induction h with
  | nil => exact .nil _
  | snoc r _ hr hf ih =>
    have := ih.cons (turn r) (List.mem_map.2 ⟨r, hr, rfl⟩) (by simpa [turn] using hf)
    rw [Int.add_comm]; exact this
theorem turn_turn (rs : List Rod) : (rs.map turn).map turn = rs := by
  rw [List.map_map]; have : turn ∘ turn = id := by funext r; rfl
  rw [this]; simp
theorem Way.turned_iff {rs : List Rod} {a b c : Int} : Way (rs.map turn) b a c ↔ Way rs a b c :=
  ⟨fun h => by have := h.turned; rwa [turn_turn] at this, Way.turned⟩

/-- x is the travel time from s to v, -1 if there is none. -/
def Dist (rs : List Rod) (s v x : Int) : Prop := -1 ≤ x ∧ (0 ≤ x → Way rs s v x) ∧ ∀ c, Way rs s v c → 0 ≤ x ∧ x ≤ c
theorem Dist.uniq {rs : List Rod} {s v x y : Int} (h : Dist rs s v x) (k : Dist rs s v y) : x = y := by
  obtain ⟨h1, h2, h3⟩ := h
  obtain ⟨k1, k2, k3⟩ := k
  by_cases hx : 0 ≤ x
  · have := k3 x (h2 hx)
    have := h3 y (k2 this.1)
    omega
  · by_cases hy : 0 ≤ y
    · have := h3 y (k2 hy); omega
    · omega
theorem Dist.turned {rs : List Rod} {s v x : Int} (h : Dist (rs.map turn) s v x) : Dist rs v s x :=
  ⟨h.1, fun h0 => Way.turned_iff.1 (h.2.1 h0), fun c hc => h.2.2 c (Way.turned_iff.2 hc)⟩

/-! The process finds the travel times. -/
/-- Entries do not rise, and stay reached. -/
def Le (ts us : List Int) : Prop := us.length = ts.length ∧ ∀ v, v < ts.length → 0 ≤ ts.getD v 0 → 0 ≤ us.getD v 0 ∧ us.getD v 0 ≤ ts.getD v 0
theorem Le.refl (ts : List Int) : Le ts ts := ⟨rfl, fun v _ h => ⟨h, Int.le_refl _⟩⟩
theorem Le.trans {a b c : List Int} (h : Le a b) (k : Le b c) : Le a c :=
  ⟨k.1.trans h.1, fun v hv h0 => by have h1 := h.2 v hv h0; have h2 := k.2 v (by rw [h.1]; exact hv) h1.1; omega⟩
theorem relax_le {ts : List Int} {r : Rod} (h1 : 1 ≤ r.c) : Le ts (relax ts r) := by
  refine ⟨relax_len ts r, fun v hv h0 => ?_⟩
  unfold relax
  split
  · exact ⟨h0, Int.le_refl _⟩
  · split
    · rename_i hf h
      by_cases ht : r.t.toNat < ts.length
      · rw [getD_set ht]
        split
        · rename_i e; subst e; omega
        · exact ⟨h0, Int.le_refl _⟩
      · rw [List.set_eq_of_length_le (by omega)]; exact ⟨h0, Int.le_refl _⟩
    · exact ⟨h0, Int.le_refl _⟩
theorem pass_le {rs : List Rod} (h1 : ∀ r ∈ rs, 1 ≤ r.c) : ∀ ts, Le ts (pass rs ts) := by
  induction rs with
  | nil => intro ts; exact Le.refl ts
  | cons r rs ih => intro ts; exact (relax_le (h1 r (by simp))).trans (ih (fun x hx => h1 x (by simp [hx])) _)
theorem rounds_le {rs : List Rod} (h1 : ∀ r ∈ rs, 1 ≤ r.c) (ts : List Int) (k : Nat) : Le ts (rounds rs ts k) := by
  induction k with
  | zero => exact Le.refl ts
  | succ k ih => exact ih.trans (pass_le h1 _)
theorem relax_does {ts : List Int} {r : Rod} (h1 : 1 ≤ r.c) (hf : 0 ≤ ts.getD r.f.toNat 0) (ht : r.t.toNat < ts.length) : 0 ≤ (relax ts r).getD r.t.toNat 0 ∧ (relax ts r).getD r.t.toNat 0 ≤ ts.getD r.f.toNat 0 + r.c := by
  unfold relax
  rw [if_neg (by omega)]
  split
  · rw [getD_set ht, if_pos rfl]; omega
  · omega
theorem pass_does {rs : List Rod} (h1 : ∀ r ∈ rs, 1 ≤ r.c) {r : Rod} (hr : r ∈ rs) : ∀ {ts : List Int}, r.f.toNat < ts.length → r.t.toNat < ts.length → 0 ≤ ts.getD r.f.toNat 0 →
    0 ≤ (pass rs ts).getD r.t.toNat 0 ∧ (pass rs ts).getD r.t.toNat 0 ≤ ts.getD r.f.toNat 0 + r.c := by
  obtain ⟨a, b, rfl⟩ := List.append_of_mem hr
  intro ts hf ht h0
  have hs : pass (a ++ r :: b) ts = pass b (relax (pass a ts) r) := by simp [pass]
  rw [hs]
  have l1 := pass_le (fun x hx => h1 x (by simp [hx])) (rs := a) ts
  have f1 := l1.2 _ hf h0
  have d := relax_does (ts := pass a ts) (h1 r hr) f1.1 (by rw [l1.1]; exact ht)
  have l2 := (pass_le (fun x hx => h1 x (by simp [hx])) (rs := b) (relax (pass a ts) r)).2 _ (by rw [relax_len, l1.1]; exact ht) d.1
  omega
/-- Each entry is the length of a way. -/
def Sound (rs : List Rod) (s : Int) (ts : List Int) : Prop := ∀ v : Nat, v < ts.length → 0 ≤ ts.getD v 0 → Way rs s v (ts.getD v 0)
theorem relax_sound {rs : List Rod} {s : Int} {ts : List Int} {r : Rod} (hr : r ∈ rs) (hf : 0 ≤ r.f ∧ r.f.toNat < ts.length) (ht : 0 ≤ r.t ∧ r.t.toNat < ts.length) (h : Sound rs s ts) : Sound rs s (relax ts r) := by
  intro v hv h0
  rw [relax_len] at hv
  unfold relax at h0 ⊢
  split
  · rename_i h1; rw [if_pos h1] at h0; exact h v hv h0
  · rename_i h1
    rw [if_neg h1] at h0
    split
    · rename_i h2
      rw [if_pos h2] at h0
      rw [getD_set ht.2] at h0 ⊢
      split
      · rename_i e
        have w := h r.f.toNat hf.2 (by omega)
        have := Way.snoc r w hr (by omega)
        rw [show (v : Int) = r.t by omega]; exact this
      · rename_i e; rw [if_neg e] at h0; exact h v hv h0
    · rename_i h2; rw [if_neg h2] at h0; exact h v hv h0
theorem pass_sound {rs : List Rod} {s : Int} (qs : List Rod) : ∀ {ts : List Int}, (∀ r ∈ qs, r ∈ rs ∧ 0 ≤ r.f ∧ r.f < ts.length ∧ 0 ≤ r.t ∧ r.t < ts.length) → Sound rs s ts → Sound rs s (pass qs ts) := by
  induction qs with
  | nil => intro ts _ h; exact h
  | cons r qs ih =>
    intro ts hq h
    obtain ⟨a, b, c, d, e⟩ := hq r (by simp)
    exact ih (fun x hx => by rw [relax_len]; exact hq x (by simp [hx])) (relax_sound a ⟨b, by omega⟩ ⟨d, by omega⟩ h)

theorem filter_lt {α : Type} {p q : α → Bool} : ∀ {l : List α}, (∀ x ∈ l, p x = true → q x = true) → (∃ x ∈ l, q x = true ∧ p x = false) → (l.filter p).length < (l.filter q).length := by
  have hle : ∀ l : List α, (∀ x ∈ l, p x = true → q x = true) → (l.filter p).length ≤ (l.filter q).length := by
    intro l
    induction l with
    | nil => intro _; simp
    | cons a l ih =>
      intro h
      have i := ih (fun x hx => h x (by simp [hx]))
      have ha := h a (by simp)
      simp only [List.filter_cons]
      cases hp : p a
      · cases hq : q a <;> simp <;> omega
      · rw [ha hp]; simp; omega
  intro l
  induction l with
  | nil => rintro _ ⟨x, hx, _⟩; simp at hx
  | cons a l ih =>
    intro h ⟨x, hx, h1, h2⟩
    have i := hle l (fun x hx => h x (by simp [hx]))
    have ha := h a (by simp)
    simp only [List.filter_cons]
    rcases List.mem_cons.1 hx with e | hx
    · subst e; rw [h1, h2]; simp; omega
    · have j := ih (fun x hx => h x (by simp [hx])) ⟨x, hx, h1, h2⟩
      cases hp : p a
      · cases hq : q a <;> simp <;> omega
      · rw [ha hp]; simp; omega

open Classical in
theorem times_dist {n s : Nat} {rs : List Rod} (hr : ∀ r ∈ rs, okR ((n : Int) - 1) r = true) (hl : rs.length ≤ 24) (hs : s < n) (hn : n ≤ 8) : ∀ v : Nat, v < n → Dist rs s v ((times n rs s).getD v 0) := by
  have ok : ∀ r ∈ rs, 0 ≤ r.f ∧ r.f < n ∧ 0 ≤ r.t ∧ r.t < n ∧ 1 ≤ r.c := fun r h => by have := okR_iff.1 (hr r h); omega
  have h1 : ∀ r ∈ rs, 1 ≤ r.c := fun r h => (ok r h).2.2.2.2
  have hstart : ∀ v, v < n → (start n s).getD v 0 = if v = s then 0 else -1 := fun v hv => by
    unfold start
    rw [getD_set (by simpa using hs)]
    split
    · rfl
    · simp [hv]
  have snd : ∀ k, Sound rs s (rounds rs (start n s) k) := by
    intro k
    induction k with
    | zero =>
      intro v hv h0
      have hv' : v < n := by simpa [rounds, start] using hv
      simp only [rounds] at h0 ⊢
      rw [hstart v hv'] at h0 ⊢
      split
      · rename_i e; subst e; exact .nil _
      · rename_i e; rw [if_neg e] at h0; omega
    | succ k ih => exact pass_sound rs (fun r h => by have := ok r h; rw [rounds_len]; have e : (start n s).length = n := by simp [start]
                                                      rw [e]; exact ⟨h, by omega, by omega, by omega, by omega⟩) ih
  let R : Int → Int → Prop := fun v d => Way rs s v d ∧ ∀ c, Way rs s v c → d ≤ c
  have low : ∀ v c, Way rs s v c → ∃ d, R v d := by
    intro v c h
    have : ∀ m : Nat, ∀ c, Way rs s v c → c.toNat ≤ m → ∃ d, R v d := by
      intro m
      induction m with
      | zero => intro c h hm; have h0 := h.nonneg h1; exact ⟨c, h, fun c' hc' => by have := hc'.nonneg h1; omega⟩
      | succ m ih =>
        intro c h hm
        by_cases hx : ∃ c', Way rs s v c' ∧ c' < c
        · obtain ⟨c', h', hlt⟩ := hx; have := h'.nonneg h1; exact ih c' h' (by omega)
        · exact ⟨c, h, fun c' hc' => by have : ¬ c' < c := fun hlt => hx ⟨c', hc', hlt⟩
                                        omega⟩
    exact this c.toNat c h (Nat.le_refl _)
  let p : Int → Nat → Bool := fun d u => decide (∃ e, R u e ∧ e < d)
  have ends : ∀ {v d : Int}, Way rs s v d → 0 ≤ v ∧ v < n := by
    intro v d h
    cases h with
    | nil => omega
    | snoc r _ hr' _ => have := ok r hr'; omega
  have key : ∀ k : Nat, ∀ v d, R v d → ((List.range n).filter (p d)).length ≤ k → 0 ≤ (rounds rs (start n s) k).getD v.toNat 0 ∧ (rounds rs (start n s) k).getD v.toNat 0 ≤ d := by
    intro k
    induction k with
    | zero =>
      intro v d hR hk
      obtain ⟨hw, hmin⟩ := hR
      cases hw with
      | nil => simp only [rounds]; rw [hstart _ (by omega)]; simp
      | @snoc b c r hw hm hf =>
        exfalso
        have hb := ends hw
        obtain ⟨e, hRe⟩ := low b c hw
        have : b.toNat ∈ (List.range n).filter (p (c + r.c)) := by
          rw [List.mem_filter]
          refine ⟨by simp; omega, ?_⟩
          have hle := hRe.2 c hw
          have hc := h1 r hm
          simp only [p, decide_eq_true_eq]
          exact ⟨e, by rw [show ((b.toNat : Nat) : Int) = b by omega]; exact hRe, by omega⟩
        have := List.length_pos_of_mem this
        omega
    | succ k ih =>
      intro v d hR hk
      obtain ⟨hw, hmin⟩ := hR
      cases hw with
      | nil =>
        have := (rounds_le h1 (start n s) (k + 1)).2 s (by simpa [start] using hs) (by rw [hstart s hs]; simp)
        rw [hstart s hs] at this
        simpa using this
      | @snoc b c r hw hm hf =>
        have hb := ends hw
        have okr := ok r hm
        have hRb : R b c := ⟨hw, fun c' hc' => by have := hmin _ (Way.snoc r hc' hm hf); omega⟩
        have hlt : ((List.range n).filter (p c)).length < ((List.range n).filter (p (c + r.c))).length := by
          refine filter_lt ?_ ⟨b.toNat, by simp; omega, ?_, ?_⟩
          · intro x _ hx
            simp only [p, decide_eq_true_eq] at hx ⊢
            obtain ⟨e, he, hlt⟩ := hx
            exact ⟨e, he, by omega⟩
          · simp only [p, decide_eq_true_eq]
            exact ⟨c, by rw [show ((b.toNat : Nat) : Int) = b by omega]; exact hRb, by omega⟩
          · simp only [p, decide_eq_false_iff_not]
            rintro ⟨e, he, hlt⟩
            rw [show ((b.toNat : Nat) : Int) = b by omega] at he
            have := hRb.2 e he.1; omega
        have hi := ih b c hRb (by omega)
        rw [← hf] at hi
        have hlen : (rounds rs (start n s) k).length = n := by rw [rounds_len]; simp [start]
        have d := pass_does h1 hm (ts := rounds rs (start n s) k) (by omega) (by omega) hi.1
        simp only [rounds]
        omega
  intro v hv
  have hb := times_bnd hr hl hs hn v (by rw [times_len]; exact hv)
  refine ⟨hb.1, fun h0 => snd n v (by rw [rounds_len]; simpa [start] using hv) h0, fun c hc => ?_⟩
  obtain ⟨d, hR⟩ := low v c hc
  have hrank : ((List.range n).filter (p d)).length ≤ n := by have := List.length_filter_le (p d) (List.range n); simpa using this
  have := key n v d hR hrank
  rw [Int.toNat_natCast] at this
  have hle := hR.2 c hc
  exact ⟨this.1, Int.le_trans this.2 hle⟩
end Go.Proofs.YtpaioaknppgggaaGreatDoor
