/- Texts of stages read back: plain functions; no program. -/
import Derived.Test.YtpaioaknppgggaaGreatDoorTx5
namespace Go.Proofs.YtpaioaknppgggaaGreatDoor
set_option linter.unusedVariables false
set_option linter.unusedSimpArgs false

/-! Numbers. -/
def isDg (b : UInt8) : Bool := decide (48 ≤ b.toNat) && decide (b.toNat ≤ 57)
theorem isDg_iff {b : UInt8} : isDg b = true ↔ 48 ≤ b.toNat ∧ b.toNat ≤ 57 := by simp [isDg]
def numV (l : List UInt8) : Nat := l.foldl (fun n b => 10 * n + (b.toNat - 48)) 0
theorem numV_snoc (l : List UInt8) (b : UInt8) : numV (l ++ [b]) = 10 * numV l + (b.toNat - 48) := by simp [numV]
def pn (l : List UInt8) : Int := if 1 ≤ l.length ∧ l.length ≤ 3 ∧ ¬ (l.getD 0 0 = 48 ∧ 1 < l.length) ∧ l.all isDg = true then (numV l : Int) else -1
def psn (l : List UInt8) : Int := if 1 ≤ l.length ∧ l.length ≤ 3 ∧ l.all isDg = true ∧ Lib.decDigits (numV l) = l then (numV l : Int) else -1
theorem dd1 {n : Nat} (h : n < 10) : Lib.decDigits n = [UInt8.ofNat (48 + n)] := by rw [Lib.decDigits, dif_pos h]
theorem dd2 {n : Nat} (h : ¬ n < 10) : Lib.decDigits n = Lib.decDigits (n / 10) ++ [UInt8.ofNat (48 + n % 10)] := by rw [Lib.decDigits, dif_neg h]
theorem ofd {b : UInt8} (h : isDg b = true) : UInt8.ofNat (48 + (b.toNat - 48)) = b := by
  have := isDg_iff.1 h
  rw [show 48 + (b.toNat - 48) = b.toNat by omega]
  simp
theorem num1 {a : UInt8} (ha : isDg a = true) : Lib.decDigits (a.toNat - 48) = [a] := by
  have := isDg_iff.1 ha
  rw [dd1 (by omega), ofd ha]
theorem num2 {a b : UInt8} (ha : isDg a = true) (hb : isDg b = true) (h : a ≠ 48) : Lib.decDigits (10 * (a.toNat - 48) + (b.toNat - 48)) = [a, b] := by
  have h1 := isDg_iff.1 ha
  have h2 := isDg_iff.1 hb
  have h3 : a.toNat ≠ 48 := fun e => h (UInt8.toNat_inj.1 (by rw [e]; rfl))
  rw [dd2 (by omega), show (10 * (a.toNat - 48) + (b.toNat - 48)) / 10 = a.toNat - 48 by omega, show (10 * (a.toNat - 48) + (b.toNat - 48)) % 10 = b.toNat - 48 by omega, num1 ha, ofd hb]
  rfl
theorem pn_psn (l : List UInt8) : pn l = psn l := by
  unfold pn psn
  have key : 1 ≤ l.length → l.length ≤ 3 → l.all isDg = true → (¬ (l.getD 0 0 = 48 ∧ 1 < l.length) ↔ Lib.decDigits (numV l) = l) := by
    intro h1 h3 hd
    match l, h1, h3, hd with
    | [a], _, _, hd =>
      have ha : isDg a = true := by simpa using hd
      have : numV [a] = a.toNat - 48 := by simp [numV]
      rw [this, num1 ha]
      simp
    | [a, b], _, _, hd =>
      have hab : isDg a = true ∧ isDg b = true := by simpa using hd
      have e : numV [a, b] = 10 * (a.toNat - 48) + (b.toNat - 48) := by simp [numV]
      by_cases h : a = 48
      · subst h
        have h2 := isDg_iff.1 hab.2
        have e2 : numV [48, b] = b.toNat - 48 := by rw [e]; simp
        rw [e2, num1 hab.2]
        simp
      · rw [e, num2 hab.1 hab.2 h]
        simp [h]
    | [a, b, c], _, _, hd =>
      have habc : isDg a = true ∧ isDg b = true ∧ isDg c = true := by simpa using hd
      obtain ⟨ha, hb, hc⟩ := habc
      have i1 := isDg_iff.1 ha
      have i2 := isDg_iff.1 hb
      have i3 := isDg_iff.1 hc
      have e : numV [a, b, c] = 10 * (10 * (a.toNat - 48) + (b.toNat - 48)) + (c.toNat - 48) := by simp [numV]
      by_cases h : a = 48
      · subst h
        have e2 : numV [48, b, c] = 10 * (b.toNat - 48) + (c.toNat - 48) := by rw [e]; simp
        rw [e2]
        constructor
        · intro hh; exact absurd ⟨rfl, by simp⟩ hh
        · intro hh
          by_cases hb0 : b = 48
          · subst hb0
            have e3 : 10 * ((48 : UInt8).toNat - 48) + (c.toNat - 48) = c.toNat - 48 := by simp
            rw [e3, num1 hc] at hh
            have := congrArg List.length hh; simp at this
          · rw [num2 hb hc hb0] at hh
            have := congrArg List.length hh; simp at this
      · have h3 : a.toNat ≠ 48 := fun e => h (UInt8.toNat_inj.1 (by rw [e]; rfl))
        rw [e, dd2 (by omega), show (10 * (10 * (a.toNat - 48) + (b.toNat - 48)) + (c.toNat - 48)) / 10 = 10 * (a.toNat - 48) + (b.toNat - 48) by omega, show (10 * (10 * (a.toNat - 48) + (b.toNat - 48)) + (c.toNat - 48)) % 10 = c.toNat - 48 by omega, num2 ha hb h, ofd hc]
        simp [h]
  by_cases h1 : 1 ≤ l.length ∧ l.length ≤ 3 ∧ l.all isDg = true
  · obtain ⟨h1, h3, hd⟩ := h1
    have k := key h1 h3 hd
    by_cases hq : Lib.decDigits (numV l) = l
    · rw [if_pos ⟨h1, h3, k.2 hq, hd⟩, if_pos ⟨h1, h3, hd, hq⟩]
    · rw [if_neg (fun h => hq (k.1 h.2.2.1)), if_neg (fun h => hq h.2.2.2)]
  · rw [if_neg (fun h => h1 ⟨h.1, h.2.1, h.2.2.2⟩), if_neg (fun h => h1 ⟨h.1, h.2.1, h.2.2.1⟩)]
theorem dec_facts (n : Nat) : (Lib.decDigits n).all isDg = true ∧ numV (Lib.decDigits n) = n ∧ 1 ≤ (Lib.decDigits n).length := by
  induction n using Nat.strongRecOn with
  | _ n ih =>
    by_cases h : n < 10
    · rw [dd1 h]
      have e : (UInt8.ofNat (48 + n)).toNat = 48 + n := by simp [UInt8.toNat_ofNat']; omega
      refine ⟨?_, ?_, by simp⟩
      · simp only [List.all_cons, List.all_nil, Bool.and_true]; rw [isDg_iff, e]; omega
      · simp only [numV, List.foldl_cons, List.foldl_nil, e]; omega
    · rw [dd2 h]
      obtain ⟨h1, h2, h3⟩ := ih (n / 10) (by omega)
      have e : (UInt8.ofNat (48 + n % 10)).toNat = 48 + n % 10 := by simp [UInt8.toNat_ofNat']; omega
      refine ⟨?_, ?_, by simp⟩
      · rw [List.all_append, h1]; simp only [List.all_cons, List.all_nil, Bool.and_true, Bool.true_and]; rw [isDg_iff, e]; omega
      · rw [numV_snoc, h2, e]; omega
theorem dec_len2 {n : Nat} (h : n < 100) : (Lib.decDigits n).length ≤ 2 := by
  by_cases h1 : n < 10
  · rw [dd1 h1]; simp
  · rw [dd2 h1, dd1 (by omega)]; simp
theorem pn_dec {n : Nat} (h : n < 100) : pn (Lib.decDigits n) = (n : Int) := by
  obtain ⟨h1, h2, h3⟩ := dec_facts n
  rw [pn_psn]
  unfold psn
  rw [if_pos ⟨h3, by have := dec_len2 h; omega, h1, by rw [h2]⟩, h2]
theorem pn_back {l : List UInt8} (h : 0 ≤ pn l) : Lib.decDigits (pn l).toNat = l := by
  rw [pn_psn] at h ⊢
  unfold psn at h ⊢
  split
  · rename_i hh
    rw [Int.toNat_natCast]; exact hh.2.2.2
  · rename_i hh
    rw [if_neg hh] at h; omega

/-! A stage's word. -/
def mvI (ls : List UInt8) : List Int := ls.map fun b => (b.toNat : Int) - 97
def parseI (w : List UInt8) : Option Stg :=
  let ls := w.takeWhile fun b => b != 58
  let nm := (w.dropWhile fun b => b != 58).tail
  if 58 ∈ w ∧ ls.length ≤ 8 ∧ inR (pn nm) 5 40 = true ∧ movesB (mvI ls) 8 = true then some ⟨mvI ls, pn nm⟩ else none
def isAH (b : UInt8) : Bool := decide (97 ≤ b.toNat) && decide (b.toNat ≤ 104)
def parseS (w : List UInt8) : Stg :=
  ⟨mvI (w.takeWhile isAH), if (w.dropWhile isAH).head? = some 58 then psn (w.dropWhile isAH).tail else -1⟩
theorem ofm {m : Int} (h0 : 0 ≤ m) (h7 : m ≤ 7) : (UInt8.ofNat (97 + m.toNat)).toNat = 97 + m.toNat := by simp [UInt8.toNat_ofNat']; omega
theorem mvT_all {ph : List Int} (h : movesB ph 8 = true) : ∀ b ∈ mvT ph, 97 ≤ b.toNat ∧ b.toNat ≤ 104 := by
  intro b hb
  simp only [mvT, List.mem_map] at hb
  obtain ⟨m, hm, rfl⟩ := hb
  obtain ⟨i, hi, rfl⟩ := List.getElem_of_mem hm
  have := moves_in h hi
  rw [List.getD_eq_getElem?_getD, List.getElem?_eq_getElem hi] at this
  simp only [Option.getD_some] at this
  rw [ofm this.1 this.2]; omega
theorem mvI_mvT {ph : List Int} (h : movesB ph 8 = true) : mvI (mvT ph) = ph := by
  unfold mvI mvT
  rw [List.map_map]
  have : ∀ m ∈ ph, ((fun b : UInt8 => (b.toNat : Int) - 97) ∘ fun m : Int => UInt8.ofNat (97 + m.toNat)) m = m := by
    intro m hm
    obtain ⟨i, hi, rfl⟩ := List.getElem_of_mem hm
    have := moves_in h hi
    rw [List.getD_eq_getElem?_getD, List.getElem?_eq_getElem hi] at this
    simp only [Option.getD_some] at this
    simp only [Function.comp_apply, ofm this.1 this.2]; omega
  rw [List.map_congr_left this]; simp
theorem mvT_mvI {ls : List UInt8} (h : movesB (mvI ls) 8 = true) : mvT (mvI ls) = ls := by
  unfold mvI mvT
  rw [List.map_map]
  have : ∀ b ∈ ls, ((fun m : Int => UInt8.ofNat (97 + m.toNat)) ∘ fun b : UInt8 => (b.toNat : Int) - 97) b = b := by
    intro b hb
    obtain ⟨i, hi, rfl⟩ := List.getElem_of_mem hb
    have hi' : i < (mvI ls).length := by simpa [mvI] using hi
    have := moves_in h hi'
    rw [List.getD_eq_getElem?_getD, List.getElem?_eq_getElem hi'] at this
    simp only [Option.getD_some, mvI, List.getElem_map] at this
    simp only [Function.comp_apply]
    rw [show 97 + ((ls[i].toNat : Int) - 97).toNat = ls[i].toNat by omega]
    simp
  rw [List.map_congr_left this]; simp
theorem takeWhile_app {α : Type} {p : α → Bool} {a : List α} {x : α} {r : List α} (ha : ∀ y ∈ a, p y = true) (hx : p x = false) : (a ++ x :: r).takeWhile p = a ∧ (a ++ x :: r).dropWhile p = x :: r := by
  induction a with
  | nil => simp [hx]
  | cons y a ih =>
    have h1 := ha y (by simp)
    have h2 := ih (fun z hz => ha z (by simp [hz]))
    simp [h1, h2]
theorem parseI_stT {st : Stg} (h : stOkT st = true) : parseI (stT st) = some st := by
  obtain ⟨h1, h2, h3⟩ := stOkT_iff.1 h
  have ha : ∀ y ∈ mvT st.ph, (y != 58) = true := fun y hy => by
    have := mvT_all h1 y hy
    rw [bne_iff_ne]; intro e; subst e; simp at this
  have hp := takeWhile_app (r := Lib.decDigits st.gr.toNat) ha (x := 58) (by simp)
  unfold parseI stT
  simp only [hp.1, hp.2, List.tail_cons]
  rw [pn_dec (by omega), mvI_mvT h1]
  have e : ((st.gr.toNat : Nat) : Int) = st.gr := by omega
  rw [e, if_pos ⟨by simp, by have := moves_len h1; simpa [mvT] using this, inR_iff.2 ⟨h2, h3⟩, h1⟩]
theorem parseS_stT {st : Stg} (h : stOkT st = true) : parseS (stT st) = st := by
  obtain ⟨h1, h2, h3⟩ := stOkT_iff.1 h
  have ha : ∀ y ∈ mvT st.ph, isAH y = true := fun y hy => by
    have := mvT_all h1 y hy
    simp [isAH, this]
  have hp := takeWhile_app (r := Lib.decDigits st.gr.toNat) ha (x := 58) (by decide)
  unfold parseS stT
  simp only [hp.1, hp.2, List.tail_cons, List.head?_cons, if_true]
  rw [← pn_psn, pn_dec (by omega), mvI_mvT h1]
  have e : ((st.gr.toNat : Nat) : Int) = st.gr := by omega
  rw [e]
theorem parseI_some {w : List UInt8} {st : Stg} (h : parseI w = some st) : stOkT st = true ∧ stT st = w := by
  unfold parseI at h
  simp only at h
  split at h
  · rename_i hh
    obtain ⟨h58, h8, hin, hmv⟩ := hh
    cases h
    obtain ⟨i1, i2⟩ := inR_iff.1 hin
    refine ⟨stOkT_iff.2 ⟨hmv, i1, i2⟩, ?_⟩
    unfold stT
    simp only
    rw [mvT_mvI hmv, pn_back (by omega)]
    have hd : ∃ r, (w.dropWhile fun b => b != 58) = 58 :: r := by
      clear h8 hin hmv i1 i2
      induction w with
      | nil => simp at h58
      | cons x w ih =>
        by_cases hx : x = 58
        · subst hx; exact ⟨w, by simp⟩
        · have : 58 ∈ w := by
            rcases List.mem_cons.1 h58 with e | e
            · exact absurd e.symm hx
            · exact e
          obtain ⟨r, hr⟩ := ih this
          exact ⟨r, by simp [List.dropWhile_cons, hx, hr]⟩
    obtain ⟨r, hr⟩ := hd
    rw [hr, List.tail_cons, ← hr]
    exact List.takeWhile_append_dropWhile
  · cases h

/-! Words. -/
def words : List UInt8 → List (List UInt8)
  | [] => [[]]
  | b :: r => if b = 32 then [] :: words r else match words r with | [] => [[b]] | w :: ws => (b :: w) :: ws
def jn : List (List UInt8) → List UInt8
  | [] => []
  | w :: r => match r with | [] => w | _ :: _ => w ++ 32 :: jn r
theorem words_ne (l : List UInt8) : words l ≠ [] := by
  cases l with
  | nil => simp [words]
  | cons b r => unfold words; split; · simp
                · split <;> simp
theorem jn_cons2 (w x : List UInt8) (r : List (List UInt8)) : jn (w :: x :: r) = w ++ 32 :: jn (x :: r) := rfl
theorem jn_words (l : List UInt8) : jn (words l) = l := by
  induction l with
  | nil => rfl
  | cons b r ih =>
    obtain ⟨w, ws, hw⟩ : ∃ w ws, words r = w :: ws := by
      cases h : words r with
      | nil => exact absurd h (words_ne r)
      | cons w ws => exact ⟨w, ws, rfl⟩
    unfold words
    split
    · rename_i hb
      rw [hw, jn_cons2, ← hw, ih, hb]; rfl
    · rw [hw] at ih
      rw [hw]
      cases ws with
      | nil => simp only [jn] at ih ⊢; rw [ih]
      | cons x ws => rw [jn_cons2] at ih ⊢; rw [List.cons_append, ih]
theorem words_app {a : List UInt8} (ha : 32 ∉ a) (r : List UInt8) : words (a ++ 32 :: r) = a :: words r := by
  induction a with
  | nil => simp [words]
  | cons b a ih =>
    have hb : b ≠ 32 := fun e => ha (by simp [e])
    have := ih (fun h => ha (by simp [h]))
    rw [List.cons_append, words, if_neg hb, this]
theorem words_one {a : List UInt8} (ha : 32 ∉ a) : words a = [a] := by
  induction a with
  | nil => rfl
  | cons b a ih =>
    have hb : b ≠ 32 := fun e => ha (by simp [e])
    rw [words, if_neg hb, ih (fun h => ha (by simp [h]))]
theorem words_jn : ∀ (ws : List (List UInt8)), ws ≠ [] → (∀ w ∈ ws, 32 ∉ w) → words (jn ws) = ws := by
  intro ws
  induction ws with
  | nil => intro h; exact absurd rfl h
  | cons w r ih =>
    intro _ h
    cases r with
    | nil => exact words_one (h w (by simp))
    | cons x r => rw [jn_cons2, words_app (h w (by simp)), ih (by simp) (fun y hy => h y (by simp [hy]))]
theorem jn_snoc (ws : List (List UInt8)) (w : List UInt8) : jn (ws ++ [w]) = if ws = [] then w else jn ws ++ 32 :: w := by
  induction ws with
  | nil => rfl
  | cons x r ih =>
    rw [if_neg (by simp)]
    cases r with
    | nil => rfl
    | cons y r =>
      rw [List.cons_append, List.cons_append, jn_cons2, ← List.cons_append, ih, if_neg (by simp), jn_cons2, List.append_assoc]; rfl
theorem txt_jn (ss : List Stg) : ∀ k, k ≤ ss.length → txt ss k = jn ((ss.take k).map stT) := by
  intro k
  induction k with
  | zero => intro _; rfl
  | succ k ih =>
    intro hk
    have hd : ss.getD k s0 = ss[k] := by rw [List.getD_eq_getElem?_getD, List.getElem?_eq_getElem (by omega)]; rfl
    rw [List.take_succ_eq_append_getElem (by omega), List.map_append, List.map_cons, List.map_nil, jn_snoc, txt, ih (by omega), hd]
    unfold sepT
    by_cases h0 : 0 < k
    · rw [if_pos h0, if_neg (by intro e; have h9 := congrArg List.length e; simp only [List.length_map, List.length_take, List.length_nil] at h9; omega), List.append_assoc]; rfl
    · have : k = 0 := by omega
      subst this
      rfl
theorem stT_no32 {st : Stg} (h : stOkT st = true) : 32 ∉ stT st := by
  obtain ⟨h1, h2, h3⟩ := stOkT_iff.1 h
  intro hm
  unfold stT at hm
  rcases List.mem_append.1 hm with e | e
  · have := mvT_all h1 32 e; simp at this
  · rcases List.mem_cons.1 e with e | e
    · simp at e
    · have := List.all_eq_true.1 (dec_facts st.gr.toNat).1 32 e
      simp [isDg] at this

/-! The whole text. -/
def parseL : List (List UInt8) → Option (List Stg)
  | [] => some []
  | w :: r => match parseI w, parseL r with | some a, some l => some (a :: l) | _, _ => none
def parseO (s : List UInt8) : Option (List Stg) := if (words s).length ≤ 5 then parseL (words s) else none
theorem parseL_some : ∀ (ws : List (List UInt8)) (l : List Stg), parseL ws = some l → (∀ st ∈ l, stOkT st = true) ∧ ws = l.map stT ∧ l = ws.map parseS := by
  intro ws
  induction ws with
  | nil => intro l h; simp [parseL] at h; subst h; simp
  | cons w r ih =>
    intro l h
    unfold parseL at h
    split at h
    · rename_i a l' h1 h2
      cases h
      obtain ⟨i1, i2, i3⟩ := ih l' h2
      obtain ⟨j1, j2⟩ := parseI_some h1
      refine ⟨?_, by simp [← i2, j2], ?_⟩
      · intro st hst
        rcases List.mem_cons.1 hst with e | e
        · subst e; exact j1
        · exact i1 st e
      · rw [List.map_cons, ← i3, ← j2, parseS_stT j1]
    · cases h
theorem parseL_of {l : List Stg} (h : ∀ st ∈ l, stOkT st = true) : parseL (l.map stT) = some l := by
  induction l with
  | nil => rfl
  | cons a l ih =>
    rw [List.map_cons, parseL, parseI_stT (h a (by simp)), ih (fun st hst => h st (by simp [hst]))]
theorem okSt_mem {l : List Stg} : okSt l = true ↔ (∀ st ∈ l, stOkT st = true) ∧ 1 ≤ l.length ∧ l.length ≤ 5 := by
  unfold okSt
  rw [Bool.and_eq_true, List.all_eq_true, inR_iff]
  constructor
  · rintro ⟨h1, h2, h3⟩; exact ⟨h1, by omega, by omega⟩
  · rintro ⟨h1, h2, h3⟩; exact ⟨h1, by omega, by omega⟩
theorem txt_all (l : List Stg) : txt l l.length = jn (l.map stT) := by rw [txt_jn l _ (Nat.le_refl _), List.take_length]
theorem parse_spec (s : List UInt8) (l : List Stg) : (okSt ((words s).map parseS) = true ∧ txt ((words s).map parseS) ((words s).map parseS).length = s ∧ l = (words s).map parseS) ↔ parseO s = some l := by
  constructor
  · rintro ⟨h1, h2, rfl⟩
    obtain ⟨i1, i2, i3⟩ := okSt_mem.1 h1
    rw [txt_all] at h2
    have hw : words s = ((words s).map parseS).map stT := by
      have hne : ((words s).map parseS).map stT ≠ [] := by
        intro e
        have h9 := congrArg List.length e
        simp only [List.length_map, List.length_nil] at h9
        simp only [List.length_map] at i2
        omega
      have := words_jn (((words s).map parseS).map stT) hne (fun w hw => by
        obtain ⟨st, hst, rfl⟩ := List.mem_map.1 hw
        exact stT_no32 (i1 st hst))
      rw [h2] at this; exact this
    unfold parseO
    rw [if_pos (by simpa using i3)]
    have := parseL_of i1
    rw [← hw] at this; exact this
  · intro h
    unfold parseO at h
    split at h
    · rename_i h5
      obtain ⟨i1, i2, i3⟩ := parseL_some _ _ h
      have hl : l.length = (words s).length := by rw [i3]; simp
      have h0 : 1 ≤ (words s).length := by
        rcases Nat.eq_zero_or_pos (words s).length with e | e
        · exact absurd (List.eq_nil_of_length_eq_zero e) (words_ne s)
        · exact e
      refine ⟨okSt_mem.2 ⟨by rw [← i3]; exact i1, by rw [← i3]; omega, by rw [← i3]; omega⟩, ?_, i3⟩
      rw [txt_all, ← i3, ← i2, jn_words]
    · cases h
end Go.Proofs.YtpaioaknppgggaaGreatDoor
