/- Plain functions on logs and their laws; no program. -/
import Derived.Test.YtfdnkfhldgcnmaaKit
namespace Go.Proofs.Ytfdnkfhldgcnmaa

structure Ent where
  t : Int
  u : Int
  s : Bool
  deriving DecidableEq

def e0 : Ent := ⟨0, 0, false⟩

def okE (es : List Ent) (i : Nat) : Bool :=
  decide (0 ≤ (es.getD i e0).t) && decide ((es.getD i e0).t ≤ 9999) && decide (0 ≤ (es.getD i e0).u) && decide ((es.getD i e0).u ≤ 7) && (decide (i = 0) || decide ((es.getD (i - 1) e0).t ≤ (es.getD i e0).t))
def validL (es : List Ent) : Bool := decide (es.length ≤ 30) && (List.range es.length).all (okE es)

theorem okE_iff {es : List Ent} {i : Nat} : okE es i = true ↔ 0 ≤ (es.getD i e0).t ∧ (es.getD i e0).t ≤ 9999 ∧ 0 ≤ (es.getD i e0).u ∧ (es.getD i e0).u ≤ 7 ∧ (i = 0 ∨ (es.getD (i - 1) e0).t ≤ (es.getD i e0).t) := by
  simp only [okE, Bool.and_eq_true, Bool.or_eq_true, decide_eq_true_eq]
  constructor
  · rintro ⟨⟨⟨⟨h1, h2⟩, h3⟩, h4⟩, h5⟩; exact ⟨h1, h2, h3, h4, h5⟩
  · rintro ⟨h1, h2, h3, h4, h5⟩; exact ⟨⟨⟨⟨h1, h2⟩, h3⟩, h4⟩, h5⟩
theorem validL_iff {es : List Ent} : validL es = true ↔ es.length ≤ 30 ∧ ∀ i, i < es.length → okE es i = true := by
  simp only [validL, Bool.and_eq_true, decide_eq_true_eq, List.all_eq_true, List.mem_range]
theorem validL_no {es : List Ent} {i : Nat} (hi : i < es.length) (h : okE es i = false) : validL es = false := by
  rw [Bool.eq_false_iff]; intro hv
  rw [(validL_iff.1 hv).2 i hi] at h; cases h

def prevT (es : List Ent) (i : Nat) : Int := if i = 0 then 0 else (es.getD (i - 1) e0).t
/-- The program's test of one entry. -/
def okI (es : List Ent) (i : Nat) : Bool := decide (prevT es i ≤ (es.getD i e0).t) && decide ((es.getD i e0).t ≤ 9999) && decide (0 ≤ (es.getD i e0).u) && decide ((es.getD i e0).u ≤ 7)
theorem okI_iff {es : List Ent} {i : Nat} : okI es i = true ↔ prevT es i ≤ (es.getD i e0).t ∧ (es.getD i e0).t ≤ 9999 ∧ 0 ≤ (es.getD i e0).u ∧ (es.getD i e0).u ≤ 7 := by
  simp only [okI, Bool.and_eq_true, decide_eq_true_eq]
  constructor
  · rintro ⟨⟨⟨h1, h2⟩, h3⟩, h4⟩; exact ⟨h1, h2, h3, h4⟩
  · rintro ⟨h1, h2, h3, h4⟩; exact ⟨⟨⟨h1, h2⟩, h3⟩, h4⟩
/-- As long as all before is well, the two tests agree. -/
theorem okI_eq {es : List Ent} {i : Nat} (h : ∀ j, j < i → okE es j = true) : okI es i = okE es i := by
  rw [Bool.eq_iff_iff, okI_iff, okE_iff]
  by_cases h0 : i = 0
  · subst h0; simp [prevT]
  · have := (okE_iff.1 (h (i - 1) (by omega))).1
    simp only [prevT, h0, if_false, false_or]
    constructor
    · rintro ⟨a, b, c, d⟩; exact ⟨by omega, b, c, d, a⟩
    · rintro ⟨_, b, c, d, a⟩; exact ⟨a, b, c, d⟩

/-- Sorted from m on, times in range. -/
def Sorted (m : Int) : List Ent → Prop
  | [] => True
  | e :: r => m ≤ e.t ∧ e.t ≤ 9999 ∧ 0 ≤ e.u ∧ e.u ≤ 7 ∧ Sorted e.t r
theorem Sorted.mono {m m' : Int} {es : List Ent} (h : Sorted m es) (hm : m' ≤ m) : Sorted m' es := by
  cases es with
  | nil => trivial
  | cons e r => exact ⟨by have := h.1; omega, h.2⟩
theorem sorted_of {es : List Ent} (h : ∀ i, i < es.length → okE es i = true) : ∀ k, k ≤ es.length → ∀ m, (0 < es.length - k → m ≤ (es.getD k e0).t) → Sorted m (es.drop k) := by
  intro k hk
  generalize hn : es.length - k = n
  induction n generalizing k with
  | zero => intro m _; rw [List.drop_eq_nil_of_le (by omega)]; trivial
  | succ n ih =>
    intro m hm
    have hlt : k < es.length := by omega
    rw [List.drop_eq_getElem_cons hlt]
    have ok := okE_iff.1 (h k hlt)
    have e : es.getD k e0 = es[k] := by simp [hlt]
    rw [e] at ok hm
    refine ⟨hm (by omega), ok.2.1, ok.2.2.1, ok.2.2.2.1, ih (k + 1) (by omega) (by omega) _ (fun h' => ?_)⟩
    have ok2 := okE_iff.1 (h (k + 1) (by omega))
    rcases ok2.2.2.2.2 with h3 | h3
    · omega
    · simp only [Nat.add_sub_cancel] at h3; rw [e] at h3; exact h3
theorem validL_sorted {es : List Ent} (h : validL es = true) : Sorted 0 es := by
  have := sorted_of (validL_iff.1 h).2 0 (Nat.zero_le _) 0 (fun h' => (okE_iff.1 ((validL_iff.1 h).2 0 (by omega))).1)
  simpa using this

/-! Stopped time. -/
def base (T since : Int) : Int := if 0 ≤ since then T - since else 0
def F (U T : Int) : Int → List Ent → Int
  | since, [] => base T since
  | since, e :: r => if T < e.t then base T since else if e.u ≠ U then F U T since r else
      if 0 ≤ since ∧ e.s = false then (e.t - since) + F U T (-1) r else if since < 0 ∧ e.s = true then F U T e.t r else F U T since r
/-- The program's way. -/
def H (U T : Int) : Bool → Int → List Ent → Int
  | st, since, [] => if st then T - since else 0
  | st, since, e :: r => if e.u ≠ U ∨ T < e.t then H U T st since r else (if st then e.t - since else 0) + H U T e.s e.t r

theorem F_shift (U T : Int) (es : List Ent) (a b : Int) (ha : 0 ≤ a) (hb : 0 ≤ b) : F U T a es - F U T b es = b - a := by
  induction es with
  | nil => simp only [F, base, if_pos ha, if_pos hb]; omega
  | cons e r ih =>
    simp only [F, base, if_pos ha, if_pos hb]
    split
    · omega
    · split
      · exact ih
      · by_cases h : e.s = false
        · simp only [if_pos (And.intro ha h), if_pos (And.intro hb h)]; omega
        · simp only [if_neg (show ¬ (0 ≤ a ∧ e.s = false) from fun x => h x.2), if_neg (show ¬ (0 ≤ b ∧ e.s = false) from fun x => h x.2), if_neg (show ¬ (a < 0 ∧ e.s = true) from fun x => by omega), if_neg (show ¬ (b < 0 ∧ e.s = true) from fun x => by omega)]; exact ih
theorem F_late {U T : Int} {es : List Ent} {m : Int} (hs : Sorted m es) (hm : T < m) (since : Int) : F U T since es = base T since := by
  cases es with
  | nil => rfl
  | cons e r => simp only [F]; rw [if_pos (by have := hs.1; omega)]
theorem H_late {U T : Int} {es : List Ent} : ∀ {m : Int}, Sorted m es → T < m → ∀ (st : Bool) (since : Int), H U T st since es = if st then T - since else 0 := by
  induction es with
  | nil => intro m _ _ st since; rfl
  | cons e r ih =>
    intro m hs hm st since
    simp only [H]
    rw [if_pos (.inr (by have := hs.1; omega))]
    exact ih hs.2.2.2.2 (by have := hs.1; omega) st since
theorem H_eq {U T : Int} {es : List Ent} : ∀ {m : Int}, Sorted m es → 0 ≤ m → ∀ (st : Bool) (since : Int), (st = true → 0 ≤ since) → H U T st since es = F U T (if st then since else -1) es := by
  induction es with
  | nil => intro m _ _ st since h; cases st <;> simp [H, F, base] ; intro hh; have := h rfl; omega
  | cons e r ih =>
    intro m hs hm st since h
    by_cases hl : T < e.t
    · rw [H_late (es := e :: r) (m := e.t) ⟨Int.le_refl _, hs.2⟩ hl]
      simp only [F]; rw [if_pos hl]
      cases st
      · simp [base]
      · have := h rfl; simp [base, this]
    · simp only [H, F]
      rw [if_neg hl]
      by_cases hu : e.u ≠ U
      · rw [if_pos (.inl hu), if_pos hu]
        exact ih hs.2.2.2.2 (by have := hs.1; omega) st since h
      · rw [if_neg (by rintro (h' | h'); exact hu h'; omega), if_neg hu]
        have hn : 0 ≤ e.t := by have := hs.1; omega
        rw [ih hs.2.2.2.2 hn e.s e.t (fun _ => hn)]
        cases st
        · cases hes : e.s
          · simp
          · simp
        · have hp := h rfl
          cases hes : e.s
          · simp [hp]
          · simp [hp]
            have := F_shift U T r since e.t hp hn
            have h2 : ¬ since < 0 := by omega
            rw [if_neg h2]; omega

def stoppedT (es : List Ent) (U T : Int) : Int := if validL es = true ∧ 0 ≤ U ∧ U ≤ 7 ∧ 0 ≤ T ∧ T ≤ 9999 then F U T (-1) es else -1

theorem F_edge {U T : Int} {es : List Ent} : ∀ (since : Int), Sorted T es → since ≤ T → 0 ≤ T → F U T since es = base T since := by
  induction es with
  | nil => intro since _ _ _; rfl
  | cons e r ih =>
    intro since hs hsi hT
    simp only [F]
    split
    · rfl
    · have he : e.t = T := by have := hs.1; omega
      have hr : Sorted T r := he ▸ hs.2.2.2.2
      split
      · exact ih since hr hsi hT
      · split
        · rename_i h
          rw [ih (-1) hr (by omega) hT]
          unfold base; rw [if_pos h.1]; simp; omega
        · split
          · rename_i h
            rw [ih e.t hr (by omega) hT]
            unfold base; rw [if_pos (by omega), if_neg (by omega)]; omega
          · exact ih since hr hsi hT
theorem F_step {U T : Int} {es : List Ent} : ∀ {m : Int} (since : Int), Sorted m es → since ≤ T → 0 ≤ T → 0 ≤ m → F U T since es ≤ F U (T + 1) since es ∧ F U (T + 1) since es ≤ F U T since es + 1 := by
  induction es with
  | nil => intro m since _ h1 _ _; simp only [F, base]; split <;> omega
  | cons e r ih =>
    intro m since hs h1 hT hm
    by_cases hl : T < e.t
    · have h2 : F U T since (e :: r) = base T since := by simp only [F]; rw [if_pos hl]
      rw [h2]
      have h3 : F U (T + 1) since (e :: r) = base (T + 1) since := by
        by_cases h4 : T + 1 < e.t
        · simp only [F]; rw [if_pos h4]
        · exact F_edge since ⟨by omega, hs.2⟩ (by omega) (by omega)
      rw [h3]; unfold base; split <;> omega
    · have hl2 : ¬ T + 1 < e.t := by omega
      have hn : 0 ≤ e.t := by have := hs.1; omega
      simp only [F, if_neg hl, if_neg hl2]
      by_cases hu : e.u ≠ U
      · simp only [if_pos hu]; exact ih since hs.2.2.2.2 h1 hT hn
      · simp only [if_neg hu]
        by_cases h3 : 0 ≤ since ∧ e.s = false
        · simp only [if_pos h3]; have := ih (-1) hs.2.2.2.2 (by omega) hT hn; omega
        · simp only [if_neg h3]
          by_cases h4 : since < 0 ∧ e.s = true
          · simp only [if_pos h4]; exact ih e.t hs.2.2.2.2 (by omega) hT hn
          · simp only [if_neg h4]; exact ih since hs.2.2.2.2 h1 hT hn
theorem F_bd {U T : Int} {es : List Ent} : ∀ {m : Int} (since : Int), Sorted m es → m ≤ T → 0 ≤ m → since ≤ m → 0 ≤ F U T since es ∧ F U T since es ≤ T - (if 0 ≤ since then since else m) := by
  induction es with
  | nil => intro m since _ h1 h2 h3; simp only [F, base]; split <;> omega
  | cons e r ih =>
    intro m since hs h1 h2 h3
    simp only [F]
    split
    · unfold base; split <;> omega
    · have hem := hs.1
      split
      · have := ih (m := e.t) since hs.2.2.2.2 (by omega) (by omega) (by omega)
        split at this <;> split <;> omega
      · split
        · rename_i h
          have := ih (m := e.t) (-1) hs.2.2.2.2 (by omega) (by omega) (by omega)
          rw [if_neg (by omega)] at this
          rw [if_pos h.1]; omega
        · split
          · rename_i h
            have := ih (m := e.t) e.t hs.2.2.2.2 (by omega) (by omega) (by omega)
            rw [if_pos (by omega)] at this
            rw [if_neg (by omega)]; omega
          · have := ih (m := e.t) since hs.2.2.2.2 (by omega) (by omega) (by omega)
            split at this <;> split <;> omega
theorem F_filter {U T : Int} {es : List Ent} : ∀ {m : Int} (since : Int), Sorted m es → F U T since (es.filter fun e => decide (e.u = U)) = F U T since es := by
  induction es with
  | nil => intro m since _; rfl
  | cons e r ih =>
    intro m since hs
    have hr := fun s => ih (m := e.t) s hs.2.2.2.2
    by_cases hu : e.u = U
    · rw [List.filter_cons_of_pos (by simpa using hu)]
      simp only [F, hr]
    · rw [List.filter_cons_of_neg (by simpa using hu), hr]
      simp only [F]
      split
      · rename_i hl; exact F_late (m := e.t) hs.2.2.2.2 hl since
      · first | rfl | rw [if_pos hu]
theorem sorted_filter {es : List Ent} (p : Ent → Bool) : ∀ {m : Int}, Sorted m es → Sorted m (es.filter p) := by
  induction es with
  | nil => intro m h; exact h
  | cons e r ih =>
    intro m h
    have hr := ih h.2.2.2.2
    by_cases hp : p e = true
    · rw [List.filter_cons_of_pos hp]; exact ⟨h.1, h.2.1, h.2.2.1, h.2.2.2.1, hr⟩
    · rw [List.filter_cons_of_neg hp]; exact hr.mono h.1
theorem sorted_ok {es : List Ent} : ∀ {m : Int}, Sorted m es → 0 ≤ m → ∀ i, i < es.length → okE es i = true ∧ m ≤ (es.getD i e0).t := by
  induction es with
  | nil => intro m _ _ i hi; simp at hi
  | cons e r ih =>
    intro m hs hm i hi
    have hem := hs.1
    cases i with
    | zero => exact ⟨okE_iff.2 ⟨by simp; omega, by simpa using hs.2.1, by simpa using hs.2.2.1, by simpa using hs.2.2.2.1, .inl rfl⟩, by simpa using hs.1⟩
    | succ i =>
      obtain ⟨h1, h2⟩ := ih hs.2.2.2.2 (by omega) i (by simpa using hi)
      obtain ⟨a, b, c, d, f⟩ := okE_iff.1 h1
      refine ⟨okE_iff.2 ⟨by simpa using a, by simpa using b, by simpa using c, by simpa using d, .inr ?_⟩, by simp at h2 ⊢; omega⟩
      simp only [Nat.add_sub_cancel]
      cases i with
      | zero => simpa using h2
      | succ i =>
        rcases f with f | f
        · omega
        · simpa using f
theorem sorted_valid {es : List Ent} (h : Sorted 0 es) (hl : es.length ≤ 30) : validL es = true := validL_iff.2 ⟨hl, fun i hi => (sorted_ok h (Int.le_refl _) i hi).1⟩
theorem stopped_filter {es : List Ent} {U T : Int} (h : validL es = true) (hU : 0 ≤ U ∧ U ≤ 7) (hT : 0 ≤ T ∧ T ≤ 9999) : stoppedT (es.filter fun e => decide (e.u = U)) U T = stoppedT es U T := by
  have hs := validL_sorted h
  have hv : validL (es.filter fun e => decide (e.u = U)) = true := sorted_valid (sorted_filter _ hs) (Nat.le_trans (List.length_filter_le _ _) (validL_iff.1 h).1)
  unfold stoppedT
  rw [if_pos ⟨hv, hU.1, hU.2, hT.1, hT.2⟩, if_pos ⟨h, hU.1, hU.2, hT.1, hT.2⟩]
  exact F_filter _ hs
theorem stopped_law {es : List Ent} {U T : Int} (h : validL es = true) (hU : 0 ≤ U ∧ U ≤ 7) (hT : 0 ≤ T ∧ T < 9999) :
    0 ≤ stoppedT es U T ∧ stoppedT es U T ≤ T ∧ stoppedT es U T ≤ stoppedT es U (T + 1) ∧ stoppedT es U (T + 1) ≤ stoppedT es U T + 1 := by
  have hs := validL_sorted h
  have a := F_bd (U := U) (T := T) (-1) hs (by omega) (by omega) (by omega)
  have b := F_step (U := U) (T := T) (-1) hs (by omega) (by omega) (by omega)
  rw [if_neg (by omega)] at a
  unfold stoppedT
  rw [if_pos ⟨h, hU.1, hU.2, hT.1, by omega⟩, if_pos ⟨h, hU.1, hU.2, by omega, by omega⟩]
  omega
theorem stopped_bd (es : List Ent) (U T : Int) : -1 ≤ stoppedT es U T ∧ stoppedT es U T ≤ 9999 ∧ (validL es = true ∧ 0 ≤ U ∧ U ≤ 7 ∧ 0 ≤ T ∧ T ≤ 9999 → 0 ≤ stoppedT es U T) ∧ (¬ (validL es = true ∧ 0 ≤ U ∧ U ≤ 7 ∧ 0 ≤ T ∧ T ≤ 9999) → stoppedT es U T = -1) := by
  unfold stoppedT
  by_cases h : validL es = true ∧ 0 ≤ U ∧ U ≤ 7 ∧ 0 ≤ T ∧ T ≤ 9999
  · rw [if_pos h]
    have a := F_bd (U := U) (T := T) (-1) (validL_sorted h.1) (by omega) (by omega) (by omega)
    rw [if_neg (by omega)] at a
    exact ⟨by omega, by omega, fun _ => a.1, fun h' => absurd h h'⟩
  · rw [if_neg h]
    exact ⟨by omega, by omega, fun h' => absurd h' h, fun _ => rfl⟩
theorem stopped_nil {U T : Int} (hU : 0 ≤ U ∧ U ≤ 7) (hT : 0 ≤ T ∧ T ≤ 9999) : stoppedT [] U T = 0 := by
  unfold stoppedT
  rw [if_pos ⟨rfl, hU.1, hU.2, hT.1, hT.2⟩]; rfl

/-! Adding an entry; a log without its last entry. -/
theorem okE_append {es : List Ent} {x : Ent} {i : Nat} (hi : i < es.length) : okE (es ++ [x]) i = okE es i := by
  have h1 : (es ++ [x]).getD i e0 = es.getD i e0 := by simp [List.getElem?_append_left hi]
  have h2 : (es ++ [x]).getD (i - 1) e0 = es.getD (i - 1) e0 := by simp [List.getElem?_append_left (show i - 1 < es.length by omega)]
  unfold okE; rw [h1, h2]
theorem valid_of_snoc {es : List Ent} {x : Ent} (h : validL (es ++ [x]) = true) : validL es = true := by
  rw [validL_iff] at h ⊢
  refine ⟨by have := h.1; simp only [List.length_append, List.length_singleton] at this; omega, fun i hi => ?_⟩
  rw [← okE_append (x := x) hi]; exact h.2 i (by simp; omega)
def addE (es : List Ent) (x : Ent) : List Ent := if validL es = true then (if validL (es ++ [x]) = true then es ++ [x] else es) else []
def addOk (es : List Ent) (x : Ent) : Bool := validL es && validL (es ++ [x])

/-! Stops. -/
def lastS (es : List Ent) (U : Int) : Nat → Bool
  | 0 => false
  | i + 1 => if (es.getD i e0).u = U then (es.getD i e0).s else lastS es U i
def stopHere (es : List Ent) (i : Nat) : Bool := (es.getD i e0).s && !lastS es (es.getD i e0).u i
def stopsN (es : List Ent) : Nat → List Ent
  | 0 => []
  | i + 1 => if stopHere es i then stopsN es i ++ [es.getD i e0] else stopsN es i
def stops (es : List Ent) : List Ent := if validL es = true then stopsN es es.length else []
theorem stopsN_len (es : List Ent) (k : Nat) : (stopsN es k).length ≤ k := by
  induction k with
  | zero => simp [stopsN]
  | succ k ih =>
    simp only [stopsN]; split
    · simp only [List.length_append, List.length_singleton]; omega
    · omega
theorem stopsN_all (es : List Ent) (k : Nat) : ∀ e ∈ stopsN es k, e.s = true := by
  induction k with
  | zero => simp [stopsN]
  | succ k ih =>
    simp only [stopsN]
    split
    · rename_i h
      intro e he
      rcases List.mem_append.1 he with h' | h'
      · exact ih e h'
      · simp only [List.mem_singleton] at h'; subst h'
        unfold stopHere at h
        simp only [Bool.and_eq_true] at h; exact h.1
    · exact ih
/-- Stops of one unit among the first k entries. -/
def cntU (es : List Ent) (U : Int) : Nat → Nat
  | 0 => 0
  | i + 1 => cntU es U i + (if (es.getD i e0).u = U ∧ stopHere es i = true then 1 else 0)
def cntAll (es : List Ent) (k : Nat) : Nat → Nat
  | 0 => 0
  | u + 1 => cntAll es k u + cntU es (u : Int) k
theorem cntU_le (es : List Ent) (U : Int) (k : Nat) : cntU es U k ≤ k := by
  induction k with
  | zero => simp [cntU]
  | succ k ih => simp only [cntU]; split <;> omega
theorem cntAll_zero (es : List Ent) (n : Nat) : cntAll es 0 n = 0 := by
  induction n with
  | zero => rfl
  | succ n ih => simp only [cntAll, ih, cntU]
theorem cntAll_step (es : List Ent) (k n : Nat) : cntAll es (k + 1) n = cntAll es k n + (if 0 ≤ (es.getD k e0).u ∧ (es.getD k e0).u < n ∧ stopHere es k = true then 1 else 0) := by
  induction n with
  | zero => simp only [cntAll]; rw [if_neg (by omega)]
  | succ n ih =>
    simp only [cntAll, cntU]
    rw [ih]
    generalize (es.getD k e0).u = x
    cases stopHere es k
    · simp
    · by_cases h1 : 0 ≤ x ∧ x < n
      · rw [if_pos ⟨h1.1, h1.2, rfl⟩, if_neg (by omega), if_pos ⟨h1.1, by omega, rfl⟩]; omega
      · by_cases h2 : x = n
        · rw [if_neg (by omega), if_pos ⟨h2, rfl⟩, if_pos ⟨by omega, by omega, rfl⟩]; omega
        · rw [if_neg (fun h => h1 ⟨h.1, h.2.1⟩), if_neg (fun h => h2 h.1), if_neg (by omega)]; omega
theorem stops_count {es : List Ent} (h : ∀ i, i < es.length → 0 ≤ (es.getD i e0).u ∧ (es.getD i e0).u ≤ 7) (k : Nat) (hk : k ≤ es.length) : cntAll es k 8 = (stopsN es k).length := by
  induction k with
  | zero => rw [cntAll_zero]; rfl
  | succ k ih =>
    rw [cntAll_step, ih (by omega)]
    simp only [stopsN]
    have := h k (by omega)
    cases hs : stopHere es k
    · rw [if_neg (fun x => by simp at x), if_neg (by simp)]; rfl
    · rw [if_pos ⟨this.1, by omega, rfl⟩, if_pos rfl]; simp
end Go.Proofs.Ytfdnkfhldgcnmaa
