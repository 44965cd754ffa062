/- markStageS, heldStageS. -/
import Derived.Test.YteeikhkcdlcnhaaDoorTx21
import Derived.Test.YteeikhkcdlcnhaaDoorMkI
namespace Go.Proofs.YteeikhkcdlcnhaaDoor
open Go.RowKit
set_option linter.unusedVariables false
set_option linter.unusedSimpArgs false

theorem stgCells_getT (hs : List Value) (ss : List Stg) {j : Nat} (hj : j < ss.length) : (stgCells hs ss)[j * 2]? = some (hs.getD j .nilFunc) ∧ (stgCells hs ss)[j * 2 + 1]? = some (.int .i64 (ss.getD j s0).gr) := by
  unfold stgCells
  have a := flat2_get (f := fun i => ([hs.getD i .nilFunc, .int .i64 (ss.getD i s0).gr] : List Value)) (fun _ => rfl) ss.length j 0 hj (by omega)
  have b := flat2_get (f := fun i => ([hs.getD i .nilFunc, .int .i64 (ss.getD i s0).gr] : List Value)) (fun _ => rfl) ss.length j 1 hj (by omega)
  exact ⟨by simpa using a, by simpa using b⟩
def mRow (k n : Nat) : List Int := (List.range n).map fun (i : Nat) => (k : Int) + (i : Int)
theorem mRow_len (k n : Nat) : (mRow k n).length = n := by simp [mRow]
theorem mRow_val (k n : Nat) : (mRow k n).map (Value.int .i64) = marksI k n := by simp [mRow, marksI]
theorem RowsO.put {w w' : World} {lo : Nat} {hs : List Value} {t t' : List (List Int)} {k i : Nat} (h : RowsO w lo hs t k) (hi : i < k)
    (hO : Own w' lo 3 1 (hs.getD i .nilFunc) (t'.getD i []).length ((t'.getD i []).map (.int .i64))) (hg : w.grownBy w' (wblk (hs.getD i .nilFunc)))
    (ht : ∀ j, j < k → j ≠ i → t'.getD j [] = t.getD j []) : RowsO w' lo hs t' k :=
  ⟨h.1, fun j hj => by
    by_cases e : j = i
    · subst e; exact hO
    · rw [ht j hj e]; exact (h.2.1 j hj).grown_w hg (fun q hq => .inr (h.2.2 i j hi hj (Ne.symm e) q hq)), h.2.2⟩

/-- Only blocks from lo on and below hi have turned. -/
def ChgIn (lo hi : Nat) (w w' : World) : Prop := Chg (fun q => lo ≤ q ∧ q < hi) w w'
theorem ChgIn.refl (lo hi : Nat) (w : World) : ChgIn lo hi w w := Chg.refl _ _
theorem ChgIn.trans {lo hi : Nat} {a b c : World} (h : ChgIn lo hi a b) (k : ChgIn lo hi b c) : ChgIn lo hi a c := Chg.trans h k
theorem ChgIn.mono {lo hi lo' hi' : Nat} {a b : World} (h : ChgIn lo hi a b) (h1 : lo' ≤ lo) (h2 : hi ≤ hi') : ChgIn lo' hi' a b := Chg.mono h (fun k _ hk => ⟨by omega, by omega⟩)
def tots (ss : List Stg) : Nat → Nat
  | 0 => 0
  | i + 1 => tots ss i + (ss.getD i s0).ph.length + 1
theorem tots_bd {ss : List Stg} {M : Nat} (hr : ∀ i, i < ss.length → (ss.getD i s0).ph.length ≤ M) : ∀ n, n ≤ ss.length → tots ss n ≤ n * (M + 1) := by
  intro n
  induction n with
  | zero => intro _; simp [tots]
  | succ n ih => intro h; have := ih (by omega); have := hr n (by omega); simp only [tots, Nat.succ_mul]; omega
def mSt (ss : List Stg) (k i : Nat) : Stg := ⟨mRow (k + tots ss i) (ss.getD i s0).ph.length, ((k + tots ss i + (ss.getD i s0).ph.length : Nat) : Int)⟩
def mStS (ss : List Stg) (k n : Nat) : List Stg := (List.range ss.length).map fun i => if i < n then mSt ss k i else ss.getD i s0
theorem mStS_len (ss : List Stg) (k n : Nat) : (mStS ss k n).length = ss.length := by simp [mStS]
theorem mStS_get {ss : List Stg} {k n i : Nat} (hi : i < ss.length) : (mStS ss k n).getD i s0 = if i < n then mSt ss k i else ss.getD i s0 := by
  simp [mStS, List.getD_eq_getElem?_getD, hi]
theorem mStS_rowlen {ss : List Stg} {k n i : Nat} (hi : i < ss.length) : ((mStS ss k n).getD i s0).ph.length = (ss.getD i s0).ph.length := by
  rw [mStS_get hi]; split
  · simp only [mSt, mRow_len]
  · rfl
theorem stgs_ext {l m : List Stg} (hl : l.length = m.length) (h : ∀ i, i < l.length → l.getD i s0 = m.getD i s0) : l = m := by
  apply List.ext_getElem hl
  intro i h1 h2
  have := h i h1
  simpa [List.getD_eq_getElem?_getD, h1, h2] using this
theorem mStS_zero (ss : List Stg) (k : Nat) : mStS ss k 0 = ss := by
  apply stgs_ext (mStS_len ss k 0)
  intro i hi
  rw [mStS_get (by rw [mStS_len] at hi; exact hi), if_neg (by omega)]

/-- Stages whose blocks lie from lo on and below hi, the phases' headers named. -/
def StgY (w : World) (lo hi : Nat) (v : Value) (hs : List Value) (ss : List Stg) : Prop :=
  Own w lo 42 2 v ss.length (stgCells hs ss) ∧ RowsO w lo hs (phsOf ss) ss.length ∧ (∀ j, j < ss.length → Apart v (hs.getD j .nilFunc)) ∧ (∀ q, wblk v = some q → q < hi) ∧ ∀ j, j < ss.length → ∀ q, wblk (hs.getD j .nilFunc) = some q → q < hi
theorem OwnStg.up {w : World} {lo : Nat} {v : Value} {ss : List Stg} (h : OwnStg w lo v ss) : ∃ hs, StgY w lo w.heap.size v hs ss := by
  obtain ⟨hs, h1, h2, h3⟩ := h
  exact ⟨hs, h1, h2, h3, fun q hq => (h1.wblk hq).2, fun j hj q hq => (h2.lt hj hq).2⟩
theorem StgY.own {w : World} {lo hi : Nat} {v : Value} {hs : List Value} {ss : List Stg} (h : StgY w lo hi v hs ss) : OwnStg w lo v ss := ⟨hs, h.1, h.2.1, h.2.2.1⟩
theorem StgY.below {w w' : World} {lo hi B : Nat} {v : Value} {hs : List Value} {ss : List Stg} (h : StgY w lo hi v hs ss) (hb : Below B w w') (hB : w.heap.size ≤ B) : StgY w' lo hi v hs ss :=
  ⟨h.1.below hb hB, h.2.1.below hb hB, h.2.2⟩
theorem Own.chg_w {w w' : World} {lo : Nat} {e : TypeId} {sz : Nat} {v : Value} {n : Nat} {cs : List Value} {S : Nat → Prop} (h : Own w lo e sz v n cs) (hc : Chg S w w')
    (hr : ∀ k, S k → k < lo ∨ YteeikhkcdlcnhaaDoor.wblk v ≠ some k) : Own w' lo e sz v n cs := by
  obtain ⟨ao, cap, rfl, hn, _⟩ := h.form
  by_cases hc0 : cap = 0
  · subst hc0
    have hn0 : n = 0 := by omega
    subst hn0
    have := h.len
    exact .inr ⟨rfl, List.eq_nil_of_length_eq_zero (by simpa using this), ao, rfl⟩
  · refine h.chg hc (fun k hk => ?_)
    rcases hr k hk with h' | h'
    · exact .inl h'
    · right; intro e; apply h'
      cases ao with
      | none => simp [Value.ownBlock] at e
      | some a => simpa [YteeikhkcdlcnhaaDoor.wblk, hc0, Value.ownBlock] using e
theorem StgY.chg {w w' : World} {lo hi : Nat} {v : Value} {hs : List Value} {ss : List Stg} {S : Nat → Prop} (h : StgY w lo hi v hs ss) (hc : Chg S w w') (hr : ∀ k, S k → k < lo ∨ hi ≤ k) : StgY w' lo hi v hs ss := by
  obtain ⟨h1, h2, h3, h4, h5⟩ := h
  have key : ∀ u, (∀ q, wblk u = some q → q < hi) → ∀ k, S k → k < lo ∨ wblk u ≠ some k := fun u hu k hk => by
    rcases hr k hk with h | h
    · exact .inl h
    · right; intro e; have := hu k e; omega
  exact ⟨h1.chg_w hc (key v h4), ⟨h2.1, fun j hj => (h2.2.1 j hj).chg_w hc (key _ (h5 j hj)), h2.2.2⟩, h3, h4, h5⟩
theorem StgY.put {w w' : World} {lo hi i g len cap : Nat} {hs : List Value} {ss ss' : List Stg} (h : StgY w lo hi (.slice (some ⟨g, 0, none⟩) len cap) hs ss) (hi' : i < ss.length) (hl : ss'.length = ss.length)
    (hO : Own w' lo 3 1 (hs.getD i .nilFunc) (ss'.getD i s0).ph.length ((ss'.getD i s0).ph.map (.int .i64))) (hg : w.grownBy w' (wblk (hs.getD i .nilFunc)))
    (ht : ∀ j, j < ss.length → j ≠ i → ss'.getD j s0 = ss.getD j s0) : StgY (w'.setCell ⟨g, i * 2 + 1, none⟩ (.int .i64 (ss'.getD i s0).gr)) lo hi (.slice (some ⟨g, 0, none⟩) len cap) hs ss' ∧ ChgIn lo hi w (w'.setCell ⟨g, i * 2 + 1, none⟩ (.int .i64 (ss'.getD i s0).gr)) := by
  obtain ⟨h1, h2, h3, h4, h5⟩ := h
  have h1' := h1.grown_w hg (fun q hq => .inr (fun hv => h3 i hi' q hv hq))
  obtain ⟨hS, hgS⟩ := h1'.store (by omega) (i * 2 + 1) (.int .i64 (ss'.getD i s0).gr)
  have hcap : len = ss.length ∧ 0 < cap := by
    obtain ⟨_, c, e, h6, _⟩ := h1.form
    cases e; omega
  have hwb : wblk (.slice (some ⟨g, 0, none⟩) len cap) = some g := by simp [wblk]; omega
  have hgb : lo ≤ g ∧ g < hi := ⟨(h1.wblk hwb).1, h4 g hwb⟩
  have hr2 : RowsO w' lo hs (phsOf ss') ss.length := h2.put hi' (by rw [phsOf_get (by omega)]; exact hO) hg (fun j hj hne => by rw [phsOf_get (by omega), phsOf_get hj, ht j hj hne])
  refine ⟨⟨?_, ?_, fun j hj => h3 j (by omega), h4, fun j hj => h5 j (by omega)⟩, ?_⟩
  · have hcl := stgCells_len hs ss
    have : (stgCells hs ss).set (i * 2 + 1) (.int .i64 (ss'.getD i s0).gr) = stgCells hs ss' := by
      refine stgCells_eq (by rw [List.length_set, hcl, hl]) (fun j hj => ?_)
      have hgt := stgCells_getT hs ss (j := j) (by omega)
      by_cases e : j = i
      · subst e
        rw [List.getElem?_set_ne (by omega), List.getElem?_set_self (by omega)]
        exact ⟨hgt.1, rfl⟩
      · rw [List.getElem?_set_ne (by omega), List.getElem?_set_ne (by omega), hgt.1, hgt.2, ht j (by omega) e]
        exact ⟨rfl, rfl⟩
    rw [← this, hl]; exact hS
  · rw [hl]
    exact hr2.grown hgS (fun q hq => .inr (fun j hj e => by cases hq; exact h3 j hj g hwb e))
  · refine (chg_of_grownBy hg (fun q hq => .inl ⟨(h2.lt hi' hq).1, h5 i hi' q hq⟩) : ChgIn lo hi w w').trans ?_
    exact (ChgIn.refl lo hi w').setCell _ hgb _

def MarkStPost (w : World) (lo hi : Nat) (v : Value) (hs : List Value) (ss : List Stg) (k : Nat) (e : Ending) (w' : World) : Prop :=
  e = .returned (.int .i64 ((k + tots ss ss.length : Nat) : Int)) ∧ StgY w' lo hi v hs (mStS ss k ss.length) ∧ ChgIn lo hi w w'

set_option maxHeartbeats 2000000 in
theorem markStageS_any (w : World) (lo hi : Nat) (v : Value) (hs : List Value) (ss : List Stg) (k : Nat) (hv : StgY w lo hi v hs ss) (hn : ss.length ≤ 2097152) (hr : ∀ i, i < ss.length → (ss.getD i s0).ph.length ≤ 2097152) (hk : k ≤ 100000000000000) :
    Calls Tryd.prog 14 #[v, .int .i64 k] w (MarkStPost w lo hi v hs ss k) := by
  obtain ⟨ao, cap, rfl, hcap, hm⟩ := hv.1.form
  have hv0 : StgY w lo hi (.slice ao ss.length cap) hs (mStS ss k 0) := by rw [mStS_zero]; exact hv
  have HR := Lib.hid hr
  have HT := Lib.hid (fun n (h : n ≤ ss.length) => (tots_bd hr n h : tots ss n ≤ n * (2097152 + 1)))
  clear hr hv
  go_enter Tryd.func14, Tryd.ntmps14
  go_wp2
  go_loopw [1, 5] (fun kk i wo => ∃ n : Nat, n ≤ ss.length ∧ i = .int .i64 n ∧ kk = .int .i64 ((k + tots ss n : Nat) : Int) ∧ StgY wo lo hi (.slice ao ss.length cap) hs (mStS ss k n) ∧ ChgIn lo hi w wo)
    (fun _ i _ => ss.length - (intOf i).toNat)
  case atStart => exact ⟨0, Nat.zero_le _, rfl, by simp [tots], hv0, ChgIn.refl _ _ _⟩
  case round =>
    clear hv0
    obtain ⟨n, hn', rfl, rfl, hO, hC⟩ := hrel
    by_cases hlt : n < ss.length
    · have hml := mStS_len ss k n
      obtain ⟨g, e0, _, hg2, hcell, hfr, _⟩ := hO.1.parts (by rw [hml]; omega)
      have hcl := stgCells_len hs (mStS ss k n)
      have hd := hcell (n * 2) (by omega)
      have hd1 := (stgCells_getT hs (mStS ss k n) (j := n) (by omega)).1
      rw [List.getElem?_eq_getElem (by omega)] at hd1
      rw [Option.some.inj hd1] at hd
      have hrow := hO.2.1.2.1 n (by rw [hml]; exact hlt)
      rw [phsOf_get (by rw [hml]; exact hlt), mStS_rowlen hlt] at hrow
      obtain ⟨rv, hrv⟩ : ∃ rv, rv = hs.getD n .nilFunc := ⟨_, rfl⟩
      obtain ⟨rl, hrl⟩ : ∃ rl, rl = (ss.getD n s0).ph.length := ⟨_, rfl⟩
      have hrb : rl ≤ 2097152 := by rw [hrl]; exact HR.out n hlt
      rw [← hrv] at hd
      rw [← hrv, ← hrl] at hrow
      have htb : tots ss n ≤ n * (2097152 + 1) := HT.out n hn'
      obtain ⟨kk, hkk⟩ : ∃ kk, kk = k + tots ss n := ⟨_, rfl⟩
      have hkb : kk ≤ 200000000000000 := by omega
      obtain ⟨ar, cr, erv, _, _⟩ := hrow.form
      have HO := Lib.hid hO
      have HC := Lib.hid hC
      have HRV := Lib.hid hrv
      have HRL := Lib.hid hrl
      have HKK := Lib.hid hkk
      have HROW := Lib.hid hrow
      rw [← hkk]
      subst erv
      cases e0
      have hk0 : (0 : Int) ≤ (n : Int) := by omega
      have hk1 : (n : Int) < (ss.length : Int) := by omega
      clear hO hC hrv hrl hkk hrow hcell hml htb hcl hd1 hfr
      go_wp2_with fail
      refine (markIntS_any _ lo _ rl kk _ HROW.out (by omega)).mono ?_; rintro e w3 ⟨rfl, hO3, hG3⟩
      have hmst : mSt ss k n = ⟨mRow kk rl, ((kk + rl : Nat) : Int)⟩ := by simp only [mSt]; rw [← HRL.out, ← HKK.out]
      have hnew : (mStS ss k (n + 1)).getD n s0 = ⟨mRow kk rl, ((kk + rl : Nat) : Int)⟩ := by rw [mStS_get hlt, if_pos (by omega), hmst]
      have hP := StgY.put (w' := w3) (ss' := mStS ss k (n + 1)) (i := n) HO.out (by rw [mStS_len]; exact hlt) (by rw [mStS_len, mStS_len])
        (by rw [← HRV.out, hnew]; show Own w3 lo _ 1 _ (mRow kk rl).length ((mRow kk rl).map _); rw [mRow_len, mRow_val]; exact hO3) (by rw [← HRV.out]; exact hG3)
        (fun j hj hjn => by
          rw [mStS_len] at hj
          rw [mStS_get hj, mStS_get hj]
          by_cases h : j < n
          · rw [if_pos (by omega), if_pos h]
          · rw [if_neg (by omega), if_neg h])
      rw [hnew] at hP
      have h1' := HO.out.1.grown_w hG3 (fun q hq => .inr (fun hv => HO.out.2.2.1 n (by rw [mStS_len]; exact hlt) q hv (by rw [← HRV.out]; exact hq)))
      obtain ⟨g', e0, _, _, hcell, hfr, _⟩ := h1'.parts (by rw [mStS_len]; omega)
      cases e0
      have hcl := stgCells_len hs (mStS ss k n)
      rw [mStS_len] at hcl
      have hd2 := hcell (n * 2 + 1) (by omega)
      have hf2 := hfr (n * 2 + 1)
      have he0 : (kk : Int) + (rl : Int) = ((kk + rl : Nat) : Int) := by omega
      have he : ((kk + rl : Nat) : Int) + 1 = ((k + tots ss (n + 1) : Nat) : Int) := by
        have : k + tots ss (n + 1) = kk + rl + 1 := by rw [HKK.out, HRL.out]; simp only [tots]; omega
        omega
      obtain ⟨kr, hkr⟩ : ∃ kr, kr = kk + rl := ⟨_, rfl⟩
      rw [he0]
      rw [← hkr] at hP he ⊢
      have hkrb : kr ≤ 300000000000000 := by omega
      have HP := Lib.hid hP
      have HE := Lib.hid he
      clear hcell hfr h1' hO3 hG3 hmst hnew hP he he0 hkr
      go_wp2_with fail
      go_roundw
      case rel => exact ⟨n + 1, by omega, by go_num, by rw [HE.out], HP.out.1, HC.out.trans HP.out.2⟩
      case measure => simp [intOf]; omega
    · obtain rfl : n = ss.length := by omega
      have HO := Lib.hid hO
      clear hO
      go_wp2
      go_ret
      exact ⟨rfl, HO.out, hC⟩

set_option maxHeartbeats 2000000 in
theorem heldStageS_any (w : World) (lo : Nat) (v : Value) (ss : List Stg) (k : Nat) (hv : StgS w lo v (mStS ss k ss.length)) (hn : ss.length ≤ 2097152) (hr : ∀ i, i < ss.length → (ss.getD i s0).ph.length ≤ 2097152) (hk : k ≤ 100000000000000) :
    Calls Tryd.prog 15 #[v, .int .i64 k] w fun e w' => e = .returned (.int .i64 ((k + tots ss ss.length : Nat) : Int)) ∧ w = w' := by
  obtain ⟨ao, cap, rfl, hcap, hm⟩ := hv.form
  rw [mStS_len] at hcap hv
  have HV := Lib.hid hv
  have HR := Lib.hid hr
  have HT := Lib.hid (fun n (h : n ≤ ss.length) => (tots_bd hr n h : tots ss n ≤ n * (2097152 + 1)))
  clear hr hv
  rw [mStS_len]
  go_enter Tryd.func15, Tryd.ntmps15
  go_wp2
  go_loop [1, 5] (fun kk i => ∃ n : Nat, n ≤ ss.length ∧ i = .int .i64 n ∧ kk = .int .i64 ((k + tots ss n : Nat) : Int))
    (fun _ i => ss.length - (intOf i).toNat)
  case atStart => exact ⟨0, Nat.zero_le _, rfl, by simp [tots]⟩
  case round =>
    obtain ⟨n, hn', rfl, rfl⟩ := hrel
    by_cases hlt : n < ss.length
    · obtain ⟨b, off, rfl, _, hb, hc⟩ := HV.out.spot (by rw [mStS_len]; omega)
      obtain ⟨g1, ai, ci, h1, hI⟩ := hc n (by rw [mStS_len]; exact hlt)
      rw [mStS_get hlt, if_pos hlt] at h1 hI g1
      obtain ⟨rl, hrl⟩ : ∃ rl, rl = (ss.getD n s0).ph.length := ⟨_, rfl⟩
      have hrb : rl ≤ 2097152 := by rw [hrl]; exact HR.out n hlt
      have htb : tots ss n ≤ n * (2097152 + 1) := HT.out n hn'
      obtain ⟨kk, hkk⟩ : ∃ kk, kk = k + tots ss n := ⟨_, rfl⟩
      have hkb : kk ≤ 200000000000000 := by omega
      simp only [mSt] at h1 hI g1
      rw [← hrl, ← hkk] at h1 hI g1
      rw [mRow_len] at h1 hI
      have hI2 : Rd w lo (.slice ai rl ci) 1 rl (marksI kk rl) := by unfold Ints at hI; rw [mRow_val, mRow_len] at hI; exact hI
      have HI := Lib.hid hI2
      have HRL := Lib.hid hrl
      have HKK := Lib.hid hkk
      rw [← hkk]
      have he0 : (kk : Int) + (rl : Int) = ((kk + rl : Nat) : Int) := by omega
      have he : ((kk + rl : Nat) : Int) + 1 = ((k + tots ss (n + 1) : Nat) : Int) := by
        have : k + tots ss (n + 1) = kk + rl + 1 := by rw [HKK.out, HRL.out]; simp only [tots]; omega
        omega
      obtain ⟨kr, hkr⟩ : ∃ kr, kr = kk + rl := ⟨_, rfl⟩
      rw [← hkr] at he he0 g1
      have hkrb : kr ≤ 300000000000000 := by omega
      have hge : decide ((kr : Int) < 0) = false := decide_eq_false (by omega)
      have hne : (!((kr : Int) == (kr : Int))) = false := by simp
      have hne2 : ((kr : Int) != (kr : Int)) = false := by simp
      have HE := Lib.hid he
      have HE0 := Lib.hid he0
      have hk0 : (0 : Int) ≤ (n : Int) := by omega
      have hk1 : (n : Int) < (ss.length : Int) := by omega
      clear hrl hkk he he0 hkr hc hI hI2 htb
      go_wp2_with fail
      refine (heldIntS_any _ lo _ rl kk HI.out (by omega)).mono ?_; rintro e w3 ⟨rfl, rfl⟩
      rw [HE0.out]
      go_wp2_with fail
      go_round
      case rel => exact ⟨n + 1, by omega, by go_num, by rw [HE.out]⟩
      case measure => simp [intOf]; omega
    · obtain rfl : n = ss.length := by omega
      go_wp2
      go_ret
      exact ⟨rfl, rfl⟩

theorem ChgIn.below {lo hi : Nat} {w w' : World} (h : ChgIn lo hi w w') {B : Nat} (h1 : B ≤ w.heap.size) (h2 : B ≤ lo) : Below B w w' := below_of_chg h h1 (fun k hk => by omega)
theorem chgIn_alloc (lo hi : Nat) (w : World) (o : Obj) : ChgIn lo hi w (w.alloc o) := chg_of_grownBy (World.grownBy_alloc w o none) (fun k hk => by cases hk)
end Go.Proofs.YteeikhkcdlcnhaaDoor
