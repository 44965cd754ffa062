/- Draws of tables: randomClear. -/
import Derived.Test.YtokpgipbgkiepaaCp1
import Derived.Test.YtokpgipbgkiepaaRdh
import Derived.Test.YtokpgipbgkiepaaPlL
import Derived.Deep.RegionHeld3
import Derived.Laws.OwnMore
import Derived.IntWalk
namespace Go.Proofs.Ytokpgipbgkiepaa
open Go.RowKit
set_option linter.unusedVariables false
set_option linter.unusedSimpArgs false

/-! Tables written entry by entry. -/
def tset (t : List (List Int)) (a b : Nat) (x : Int) : List (List Int) := t.set a ((t.getD a []).set b x)
theorem tset_len (t : List (List Int)) (a b : Nat) (x : Int) : (tset t a b x).length = t.length := by simp [tset]
theorem tset_row {t : List (List Int)} {a b : Nat} {x : Int} {i : Nat} (hi : i < t.length) : (tset t a b x).getD i [] = if i = a then (t.getD a []).set b x else t.getD i [] := by
  unfold tset
  by_cases e : i = a
  · subst e; simp [List.getD_eq_getElem?_getD, hi]
  · rw [if_neg e]; simp [List.getD_eq_getElem?_getD, List.getElem?_set_ne (fun h => e h.symm)]
theorem tset_rowlen {t : List (List Int)} {a b : Nat} {x : Int} {i : Nat} (hi : i < t.length) : ((tset t a b x).getD i []).length = (t.getD i []).length := by
  rw [tset_row hi]; split
  · subst i; simp
  · rfl
theorem getD_set {xs : List Int} {b : Nat} {x : Int} {k : Nat} (hb : b < xs.length) : (xs.set b x).getD k 0 = if k = b then x else xs.getD k 0 := by
  by_cases e : k = b
  · subst e; simp [List.getD_eq_getElem?_getD, hb]
  · rw [if_neg e]; simp [List.getD_eq_getElem?_getD, List.getElem?_set_ne (fun h => e h.symm)]
theorem tset_at {t : List (List Int)} {a b : Nat} {x : Int} (hb : b < (t.getD a []).length) {i k : Nat} (hi : i < t.length) : tat (tset t a b x) i k = if i = a ∧ k = b then x else tat t i k := by
  unfold tat
  rw [tset_row hi]
  by_cases e : i = a
  · subst e
    rw [if_pos rfl, getD_set hb]
    by_cases e2 : k = b
    · subst e2; simp
    · simp [e2]
  · simp [e]

theorem validCl_two {t : List (List Int)} (h : validCl t = true) {i k : Nat} (hi : i < t.length) (hk : k < i) {x y : Int} (hx : 1 ≤ x ∧ x ≤ 5) (hy : 1 ≤ y ∧ y ≤ 5) : validCl (tset (tset t i k x) k i y) = true := by
  obtain ⟨h1, h2, h3, h4⟩ := validCl_iff.1 h
  have hrow : ∀ j, j < t.length → (t.getD j []).length = t.length := fun j hj => (rowOk_iff.1 (h3 j hj)).1
  have hlen : (tset (tset t i k x) k i y).length = t.length := by rw [tset_len, tset_len]
  have hat : ∀ a b, a < t.length → b < t.length → tat (tset (tset t i k x) k i y) a b = if a = k ∧ b = i then y else if a = i ∧ b = k then x else tat t a b := by
    intro a b ha hb
    rw [tset_at (by rw [tset_rowlen (by omega), hrow k (by omega)]; omega) (by rw [tset_len]; exact ha), tset_at (by rw [hrow i hi]; omega) ha]
  rw [validCl_iff, hlen]
  refine ⟨h1, h2, fun j hj => ?_, fun a ha b hb => ?_⟩
  · have hl : ((tset (tset t i k x) k i y).getD j []).length = t.length := by
      rw [tset_rowlen (by rw [tset_len]; exact hj), tset_rowlen hj, hrow j hj]
    refine rowOk_iff.2 ⟨hl, fun q hq => ?_⟩
    have := hat j q hj (by omega)
    unfold tat at this
    rw [this]
    have hb := tat_bd h hj (show q < t.length by omega)
    unfold tat at hb
    split
    · omega
    · split
      · omega
      · exact hb
  · have s := symOk_iff.1 (h4 a ha b hb)
    rw [symOk_iff, hat a b ha hb, hat b a hb ha]
    constructor
    · split <;> split <;> (try split) <;> (try split) <;> first | omega | exact s.1
    · intro e; subst e
      rw [if_neg (by omega), if_neg (by omega)]; exact s.2 rfl
/-- The table of noughts. -/
def zt (n : Nat) : List (List Int) := List.replicate n (List.replicate n 0)
theorem zt_len (n : Nat) : (zt n).length = n := by simp [zt]
theorem zt_row {n i : Nat} (hi : i < n) : (zt n).getD i [] = List.replicate n 0 := by simp [zt, List.getD_eq_getElem?_getD, hi]
theorem zt_valid {n : Nat} (h1 : 1 ≤ n) (h8 : n ≤ 8) : validCl (zt n) = true := by
  have hat : ∀ a b, a < n → b < n → tat (zt n) a b = 0 := by
    intro a b ha hb
    unfold tat; rw [zt_row ha]; simp [List.getD_eq_getElem?_getD, hb]
  rw [validCl_iff, zt_len]
  refine ⟨h1, h8, fun i hi => rowOk_iff.2 ⟨by rw [zt_row hi]; simp, fun q hq => ?_⟩, fun a ha b hb => symOk_iff.2 ?_⟩
  · rw [zt_row hi] at hq ⊢
    have : q < n := by simpa using hq
    simp [List.getD_eq_getElem?_getD, this]
  · rw [hat a b ha hb, hat b a hb ha]; exact ⟨Iff.rfl, fun _ => rfl⟩

/-- An owned table with its headers named. -/
def OwnX (w : World) (lo : Nat) (v : Value) (hs : List Value) (t : List (List Int)) : Prop :=
  Own w lo 27 1 v t.length hs ∧ RowsO w lo hs t t.length ∧ ∀ j, j < t.length → Apart v (hs.getD j .nilFunc)
theorem OwnX.ss {w : World} {lo : Nat} {v : Value} {hs : List Value} {t : List (List Int)} (h : OwnX w lo v hs t) : OwnSS w lo v t := ⟨hs, h.1, h.2.1, h.2.2⟩
theorem OwnX.grown {w w' : World} {lo : Nat} {v : Value} {hs : List Value} {t : List (List Int)} {row : Option Nat} (h : OwnX w lo v hs t) (hg : w.grownBy w' row) (hr : ∀ q, row = some q → q < lo) : OwnX w' lo v hs t :=
  ⟨h.1.grown hg (fun q hq => .inl (hr q hq)), h.2.1.grown hg (fun q hq => .inl (hr q hq)), h.2.2⟩
/-- A row that is not empty: where its header lies, where it lies, and what a store leaves. -/
theorem OwnX.row {w : World} {lo : Nat} {v : Value} {hs : List Value} {t : List (List Int)} (h : OwnX w lo v hs t) {i : Nat} (hi : i < t.length) (hr : 0 < (t.getD i []).length) :
    ∃ g cap gi ci, v = .slice (some ⟨g, 0, none⟩) t.length cap ∧ hs.getD i .nilFunc = .slice (some ⟨gi, 0, none⟩) (t.getD i []).length ci ∧ t.length ≤ cap ∧ cap ≤ 9223372036854775807 ∧ (t.getD i []).length ≤ ci ∧ ci ≤ 9223372036854775807 ∧
      lo ≤ g ∧ lo ≤ gi ∧ gi < w.heap.size ∧ g < w.heap.size ∧ g ≠ gi ∧ w.cell? ⟨g, i, none⟩ = some (.slice (some ⟨gi, 0, none⟩) (t.getD i []).length ci) ∧ (∀ k, w.frozen? ⟨gi, k, none⟩ = false) ∧ (∀ k, k < (t.getD i []).length → w.cell? ⟨gi, k, none⟩ = some (.int .i64 (tat t i k))) ∧
      ∀ k x, k < (t.getD i []).length → OwnX (w.setCell ⟨gi, k, none⟩ (.int .i64 x)) lo v hs (tset t i k x) ∧ w.grownBy (w.setCell ⟨gi, k, none⟩ (.int .i64 x)) (some gi) := by
  obtain ⟨hO, hR, hA⟩ := h
  have hlen := hO.len
  obtain ⟨ao, cap, rfl, hcap, hm⟩ := hO.form
  obtain ⟨g, rfl, hg, hgs, hcell, _, _⟩ := hO.parts (by omega)
  have hRi := hR.2.1 i hi
  obtain ⟨ai, ci, hv, hci, hcm⟩ := hRi.form
  rw [hv] at hRi
  obtain ⟨gi, rfl, hgi, hgis, hci2, hfr, hset⟩ := hRi.parts hr
  have hne : g ≠ gi := by
    have := hA i hi g (by rw [wblk]; simp; omega)
    intro e; apply this; rw [hv, wblk, if_neg (by omega), e]
  have hc := hcell i (by rw [hR.1]; exact hi)
  have hgd : hs.getD i .nilFunc = hs[i]'(by rw [hR.1]; exact hi) := by simp [show i < hs.length by rw [hR.1]; exact hi]
  rw [← hgd, hv] at hc
  refine ⟨g, cap, gi, ci, rfl, hv, hcap, hm, hci, hcm, hg, hgi, hgis, hgs, hne, hc, hfr, fun k hk => ?_, fun k x hk => ?_⟩
  · rw [hci2 k (by simpa using hk)]; simp [tat, List.getD_eq_getElem?_getD, show k < (t[i]?.getD []).length from by simpa [List.getD_eq_getElem?_getD] using hk]
  · obtain ⟨q1, q2⟩ := hset k (.int .i64 x)
    refine ⟨⟨?_, ⟨?_, fun j hj => ?_, fun a b ha hb => hR.2.2 a b (by rwa [tset_len] at ha) (by rwa [tset_len] at hb)⟩, fun j hj => hA j (by rwa [tset_len] at hj)⟩, q2⟩
    · rw [tset_len]
      exact hO.grown q2 (fun q hq => .inr (by cases hq; simp [Value.ownBlock]; exact hne))
    · rw [tset_len]; exact hR.1
    · rw [tset_len] at hj
      rw [tset_row hj]
      by_cases e : j = i
      · subst e
        rw [if_pos rfl, hv]
        have := q1
        rw [← List.map_set] at this
        simpa using this
      · rw [if_neg e]
        refine (hR.2.1 j hj).grown_w q2 (fun q hq => .inr ?_)
        cases hq
        have := hR.2.2 i j hi hj (fun h => e h.symm) gi (by rw [hv, wblk, if_neg (by omega)])
        exact this

theorem slice_inj {g g' n n' c c' : Nat} (h : Value.slice (some ⟨g, 0, none⟩) n c = .slice (some ⟨g', 0, none⟩) n' c') : g = g' ∧ c = c' := by
  cases h; exact ⟨rfl, rfl⟩
def DrawnClear (w : World) (hi rb p n : Nat) (e : Ending) (w' : World) : Prop :=
  ∃ v t p', e = .returned v ∧ OwnSS w' w.heap.size v t ∧ validCl t = true ∧ t.length = n ∧ p' ≤ p + 1000 ∧ Rdh hi w' rb p' ∧ w.grownBy w' (some rb)

theorem wblk_le {w : World} {lo : Nat} {e : TypeId} {sz : Nat} {v : Value} {n : Nat} {cs : List Value} (h : Own w lo e sz v n cs) {rb : Nat} (hrb : rb < lo) : ∀ k, wblk v = some k → rb < k := fun k hk => Nat.lt_of_lt_of_le hrb (h.wblk hk).1
set_option maxHeartbeats 8000000 in
theorem randomClear_any {hi : Nat} (w : World) (rb p n : Nat) (hr : Rdh hi w rb p) (hp : p ≤ 1000000) (hn1 : 1 ≤ n) (hn8 : n ≤ 8) :
    Calls Try.prog 102 #[.pointer (some ⟨rb, 0, none⟩), .int .i64 n] w (DrawnClear w hi rb p n) := by
  have hrb := hr.lt
  have HINF : Hid ((Try.prog.info? 3).map (fun i => (i.zero, i.size, i.bytes)) = some (some (.int .i64 0), 1, 8)) := info_int
  obtain ⟨i0, hinf, hz0, hz1, hz2⟩ := info_parts info_int
  obtain ⟨w0, hw0⟩ : ∃ w0, w0 = w.alloc (.cells #[] 27) := ⟨_, rfl⟩
  have hB0 : Below w.heap.size w w0 := by rw [hw0]; exact (Below.refl _ _).alloc (Nat.le_refl _) _
  have hO0 : Own w0 w.heap.size 27 1 (.slice (some ⟨w.heap.size, 0, none⟩) 0 0) 0 [] := by rw [hw0]; exact Own.made w [] 27 w.heap.size 1 0 rfl (Nat.le_refl _) (by decide)
  have hr0 : Rdh hi w0 rb p := hr.below hB0 hrb
  have hG0 : w.grownBy w0 (some rb) := grownBy_of_below hB0 (Nat.le_refl _) _
  have HW0 := Lib.hid hw0
  clear hw0 hr hB0
  go_enter Try.func102, Try.ntmps102
  go_wp2_with fail
  rw [← HW0.out]
  clear HW0
  go_loopw [5, 6] (fun ov i wo => ∃ k : Nat, ∃ hs, k ≤ n ∧ i = .int .i64 k ∧ Own wo w.heap.size 27 1 ov k hs ∧ RowsO wo w.heap.size hs (zt n) k ∧ (∀ j, j < k → Apart ov (hs.getD j .nilFunc)) ∧ Rdh hi wo rb p ∧ w.grownBy wo (some rb)) (fun _ i _ => n - (intOf i).toNat)
  case atStart => exact ⟨0, [], Nat.zero_le _, rfl, hO0, RowsO.nil _ _ _, fun j hj => absurd hj (Nat.not_lt_zero _), hr0, hG0⟩
  case round =>
    clear hO0 hr0 hG0
    obtain ⟨k, hs, hk, rfl, hO, hR, hA, hr, hG⟩ := hrel
    have hsz := hG.size
    by_cases hlt : k < n
    · have HR := Lib.hid hR
      have HA := Lib.hid hA
      have HO := Lib.hid hO
      clear hR hA hO
      go_wp2_with (first
        | (at_make; refine wpList_make_full _ rfl _ _ 27 rfl wr.heap.size 3 i0 (.int .i64 0) 1 Try.underlying27 hinf hz0 hz1 .i64 .i64 n n n rfl rfl rfl rfl (by rw [hz2]; omega) (by unfold maxLen; omega) (Nat.le_refl _) ?_; intro w1 hown hg1; have hB1 : Below wr.heap.size wr w1 := below_of_grownBy hg1 (Nat.le_refl _) (fun k hk => by cases hk); have hO1 := HO.out.below hB1 (Nat.le_refl _); have hz1' : w.heap.size ≤ w1.heap.size := Nat.le_trans hsz hB1.size)
        | (at_builtin; refine wpList_append_one _ rfl _ _ 23 rfl 27 (.slice none 0 0) 24 Try.underlying23 info_intsl rfl w.heap.size _ _ _ rfl hO1 _ _ rfl rfl (by omega) (by omega) hz1' ?_; intro v' w3 hO3 hg3 hk3))
      have hI1 : Own w1 wr.heap.size 3 1 (.slice (some ⟨wr.heap.size, 0, none⟩) n n) n ((List.replicate n 0).map (Value.int .i64)) := by
        have e : (madeCells (Value.int .i64 0).cells (n * 1)).toList = (List.replicate n (0 : Int)).map (Value.int .i64) := by
          rw [Nat.mul_one, List.map_replicate]; exact toList_madeCells_one (.int .i64 0) n
        rw [← e]; exact .inl hown
      have hR1 := HR.out.snoc (u := .slice (some ⟨wr.heap.size, 0, none⟩) n n) hB1 (by rw [zt_row hlt, List.length_replicate]; exact hI1) hsz
      have hA1 : ∀ j, j < k + 1 → Apart u5 ((hs ++ [Value.slice (some ⟨wr.heap.size, 0, none⟩) n n]).getD j .nilFunc) := by
        intro j hj
        by_cases e : j = k
        · subst e
          rw [← HR.out.1, getD_snoc_eq]
          intro q hq hq'
          have := (HO.out.wblk hq).2; have := (hI1.wblk hq').1; omega
        · rw [getD_snoc_lt (by rw [HR.out.1]; omega)]; exact HA.out j (by omega)
      have hR3 := hR1.grown hg3 (fun q hq => .inr (fun j hj e => hA1 j hj q hq e))
      have hA3 : ∀ j, j < k + 1 → Apart v' ((hs ++ [Value.slice (some ⟨wr.heap.size, 0, none⟩) n n]).getD j .nilFunc) := by
        intro j hj q hq hq'
        rcases hk3 q hq with h | h
        · exact hA1 j hj q h hq'
        · have := (hR1.lt hj hq').2; omega
      have hr3 := (hr.below hB1 hr.lt).grown hg3 (wblk_le hO1 hrb)
      have hG3 := grownBy_trans (grownBy_trans hG (grownBy_of_below hB1 (Nat.le_refl _) (some rb)) (fun x hx => .inl hx)) hg3 (fun x hx => .inr (hO1.wblk hx).1)
      clear hR1 hA1 hI1 hown hg1 hB1 hO1 hg3 hk3 hr hG
      go_wp2
      go_roundw
      case rel => exact ⟨k + 1, _, by omega, by go_num, hO3, hR3, hA3, hr3, hG3⟩
      case measure => simp [intOf]; omega
    · obtain rfl : n = k := by omega
      have hX : ∃ hs, OwnX wr w.heap.size u5 hs (zt n) := ⟨hs, by unfold OwnX; rw [zt_len]; exact ⟨hO, hR, hA⟩⟩
      have hvz := zt_valid hn1 hn8
      have HX := Lib.hid hX
      have HVZ := Lib.hid hvz
      obtain ⟨ao, cap, rfl, hcap, hm⟩ := hO.form
      obtain ⟨g, rfl, hgl, _⟩ := hO.parts (by omega)
      clear hO hR hA hX hvz
      go_wp2_with fail
      go_loopw [7] (fun i wo => ∃ a : Nat, ∃ hs t p', a ≤ n ∧ i = .int .i64 a ∧ OwnX wo w.heap.size (.slice (some ⟨g, 0, none⟩) n cap) hs t ∧ Hid (validCl t = true ∧ t.length = n) ∧ p' ≤ p + 100 * a ∧ Rdh hi wo rb p' ∧ w.grownBy wo (some rb)) (fun i _ => n - (intOf i).toNat)
      case atStart => exact ⟨0, HX.out.choose, zt n, p, Nat.zero_le _, rfl, HX.out.choose_spec, ⟨HVZ.out, zt_len n⟩, by omega, hr, hG⟩
      case round =>
        clear hr hG HX HVZ
        obtain ⟨a, hs, t, p', ha, rfl, hX, HV, hp', hr, hG⟩ := hrel
        by_cases hlta : a < n
        · have HX := Lib.hid hX
          have HG := Lib.hid hG
          have HR := Lib.hid hr
          clear hX hG hr
          go_wp2_with fail
          go_loopw [8] (fun i wi => ∃ c : Nat, ∃ hs t p'', c ≤ a ∧ i = .int .i64 c ∧ OwnX wi w.heap.size (.slice (some ⟨g, 0, none⟩) n cap) hs t ∧ Hid (validCl t = true ∧ t.length = n) ∧ p'' ≤ p' + 3 * c ∧ Rdh hi wi rb p'' ∧ w.grownBy wi (some rb)) (fun i _ => a - (intOf i).toNat)
          case atStart => exact ⟨0, hs, t, p', Nat.zero_le _, rfl, HX.out, HV, by omega, HR.out, HG.out⟩
          case round =>
            clear HX HG HR HV
            obtain ⟨c, hs, t, p2, hc, rfl, hX, HV, hp2, hr, hG⟩ := hrel
            by_cases hltc : c < a
            · have HX := Lib.hid hX
              clear hX
              go_wp2_with fail
              go_at_call 53
              refine (pick_h _ _ _ 2 hr (by omega) (by omega)).mono ?_; rintro e w1 ⟨x, rfl, _, hr1, hg1⟩
              have hX1 := HX.out.grown hg1 (fun q hq => by cases hq; exact hrb)
              have hG1 := grownBy_trans hG hg1 (fun x hx => .inl hx)
              clear HX hg1 hr hG
              by_cases hx0 : x = 0
              · have d0 : (x == 0) = true := by rw [hx0]; rfl
                clear hx0
                have hrow : ∀ j, j < n → (t.getD j []).length = n := fun j hj => by
                  have := (rowOk_iff.1 ((validCl_iff.1 HV.out.1).2.2.1 j (by rw [HV.out.2]; exact hj))).1
                  rw [this, HV.out.2]
                have HROW := Lib.hid hrow
                obtain ⟨g', cap', gi, ci, ev, eh, _, _, hci, hcm, hgl', hgil, hgis, hgs, hne, s1, hfr, s2, hset⟩ := hX1.row (i := a) (by rw [HV.out.2]; exact hlta) (by rw [hrow a hlta]; omega)
                obtain ⟨rfl, rfl⟩ := slice_inj ev
                clear ev
                rw [hrow a hlta] at eh s1 hci hset
                have f2 := hfr c
                have s2c := s2 c (by rw [hrow a hlta]; omega)
                have HX1 := Lib.hid hX1
                have HG1 := Lib.hid hG1
                have hv1 := hset c
                clear hfr s2 hset hrow
                have HSET := Lib.hid hv1
                clear hv1
                have a0 : (0 : Int) ≤ (a : Int) := by omega
                have a1 : (a : Int) < (n : Int) := by omega
                have c0 : (0 : Int) ≤ (c : Int) := by omega
                have c1 : (c : Int) < (n : Int) := by omega
                have HS2 := Lib.hid s2c
                have HF2 := Lib.hid f2
                have HEH := Lib.hid eh
                clear s2c f2 eh
                go_wp2_with fail
                go_region_held3 (fun w' => w'.cell? ⟨g, a, none⟩ = some (.slice (some ⟨gi, 0, none⟩) n ci))
                  (first | exact HS5.out | exact (World.cell?_setCell_far _ _ _ _ (Ne.symm hne)).trans HS5.out | assumption | go_keep)
                  ((go_at_call 53; refine (pick_h _ _ _ 5 (hr1.below (Below.drew (Below.refl w1.heap.size w1)) hr1.lt) (by omega) (by omega)).mono ?_; rintro e w5 ⟨x, rfl, ⟨hx0, hx1, hx2⟩, hr5, hg5⟩; have hx3 := hx1 (by omega); clear hx1; have wr1 : IntKind.i64.wrap (1 + x) = 1 + x := IntWalk.i64_in _ (by omega); have hG15 : w1.grownBy w5 (some rb) := grownBy_trans (grownBy_of_below (Below.drew (Below.refl w1.heap.size w1)) (Nat.le_refl _) (some rb)) hg5 (fun x hx => .inl hx); have hX5 := HX1.out.grown hG15 (fun q hq => by cases hq; exact hrb); obtain ⟨g', cap', gi', ci', ev, eh, _, _, _, _, _, _, _, _, _, s5, hfr, s52, hset5⟩ := hX5.row (i := a) (by rw [HV.out.2]; exact hlta) (by rw [HROW.out a hlta]; omega); obtain ⟨rfl, rfl⟩ := slice_inj ev; clear ev; rw [HROW.out a hlta] at eh s5 hset5; rw [HEH.out] at eh; cases eh; have HS5 := Lib.hid s5; have f5 := hfr c; have t5 := s52 c (by rw [HROW.out a hlta]; omega); have HSET5 := Lib.hid (hset5 c); have HS52 := Lib.hid s52; clear hfr s52 hset5 s5))
                obtain ⟨hX6, hg6⟩ := HSET5.out (1 + x) (by omega)
                have HXB := Lib.hid (show 1 ≤ 1 + x ∧ 1 + x ≤ 5 by omega)
                have hr6 := hr5.grown hg6 (fun q hq => by cases hq; omega)
                have hG6 := grownBy_trans (grownBy_trans HG1.out hG15 (fun x hx => .inl hx)) hg6 (fun q hq => .inr (by cases hq; exact hgil))
                obtain ⟨w6, hw6⟩ : ∃ w6, w6 = w5.setCell ⟨gi, c, none⟩ (.int .i64 (1 + x)) := ⟨_, rfl⟩
                rw [← hw6] at hX6 hr6 hG6 ⊢
                clear hw6 hg6 hX5 hG15 hg5 hr5 f5 t5 HSET5 HS52 HS5 wr1 HX1 HG1 HS2 HF2 HEH hr1 hne hgil hgis
                obtain ⟨t1, ht1⟩ : ∃ t1, t1 = tset t a c (1 + x) := ⟨_, rfl⟩
                rw [← ht1] at hX6
                have HL1 : Hid (t1.length = n) := by unfold Hid; rw [ht1, tset_len]; exact HV.out.2
                have HROW1 : Hid (∀ j, j < n → (t1.getD j []).length = n) := fun j hj => by rw [ht1, tset_rowlen (by rw [HV.out.2]; exact hj)]; exact HROW.out j hj
                have HT1 := Lib.hid ht1
                clear ht1
                obtain ⟨g', cap', gi, ci, ev, eh, _, _, hci, hcm, _, hgil, hgis, _, hne, s1, _, _, _⟩ := hX6.row (i := c) (by rw [HL1.out]; omega) (by rw [HROW1.out c (by omega)]; omega)
                obtain ⟨rfl, rfl⟩ := slice_inj ev
                clear ev
                rw [HROW1.out c (by omega)] at eh s1 hci
                have HX1 := Lib.hid hX6
                have HG1 := Lib.hid hG6
                have HEH := Lib.hid eh
                clear eh hX6 hG6
                go_wp2_with fail
                go_region_held3 (fun w' => w'.cell? ⟨g, c, none⟩ = some (.slice (some ⟨gi, 0, none⟩) n ci))
                  (first | exact HS5.out | exact (World.cell?_setCell_far _ _ _ _ (Ne.symm hne)).trans HS5.out | assumption | go_keep)
                  ((go_at_call 53; refine (pick_h _ _ _ 5 (hr6.below (Below.drew (Below.refl w6.heap.size w6)) hr6.lt) (by omega) (by omega)).mono ?_; rintro e w7 ⟨y, rfl, ⟨hy0, hy1, hy2⟩, hr7, hg7⟩; have hy3 := hy1 (by omega); clear hy1; have wr1 : IntKind.i64.wrap (1 + y) = 1 + y := IntWalk.i64_in _ (by omega); have hG67 : w6.grownBy w7 (some rb) := grownBy_trans (grownBy_of_below (Below.drew (Below.refl w6.heap.size w6)) (Nat.le_refl _) (some rb)) hg7 (fun x hx => .inl hx); have hX7 := HX1.out.grown hG67 (fun q hq => by cases hq; exact hrb); obtain ⟨g', cap', gi', ci', ev, eh, _, _, _, _, _, _, _, _, _, s5, hfr, s52, hset5⟩ := hX7.row (i := c) (by rw [HL1.out]; omega) (by rw [HROW1.out c (by omega)]; omega); obtain ⟨rfl, rfl⟩ := slice_inj ev; clear ev; rw [HROW1.out c (by omega)] at eh s5 hset5; rw [HEH.out] at eh; cases eh; have HS5 := Lib.hid s5; have f5 := hfr a; have t5 := s52 a (by rw [HROW1.out c (by omega)]; omega); have HSET5 := Lib.hid (hset5 a); clear hfr s52 hset5 s5))
                obtain ⟨hX8, hg8⟩ := HSET5.out (1 + y) (by omega)
                have hr8 := hr7.grown hg8 (fun q hq => by cases hq; omega)
                have hG8 := grownBy_trans (grownBy_trans HG1.out hG67 (fun x hx => .inl hx)) hg8 (fun q hq => .inr (by cases hq; exact hgil))
                have HV8 : Hid (validCl (tset t1 c a (1 + y)) = true ∧ (tset t1 c a (1 + y)).length = n) := by
                  refine ⟨?_, by rw [tset_len]; exact HL1.out⟩
                  rw [HT1.out]
                  exact validCl_two HV.out.1 (by rw [HV.out.2]; exact hlta) hltc HXB.out (by omega)
                clear hg8 hX7 hG67 hg7 hr7 f5 t5 HSET5 HS5 wr1 HX1 HG1 HEH hr6 hne hgil hgis
                go_wp2
                go_roundw
                case rel => exact ⟨c + 1, hs, _, _, by omega, by go_num, hX8, HV8, by omega, hr8, hG8⟩
                case measure => simp [intOf]; omega
              · have d0 : (x == 0) = false := beq_eq_false_iff_ne.mpr hx0
                clear hx0
                go_wp2_with fail
                go_roundw
                case rel => exact ⟨c + 1, hs, t, _, by omega, by go_num, hX1, HV, by omega, hr1, hG1⟩
                case measure => simp [intOf]; omega
            · obtain rfl : c = a := by omega
              go_wp2_with fail
              go_roundw
              case rel => exact ⟨c + 1, hs, t, _, by omega, by go_num, hX, HV, by omega, hr, hG⟩
              case measure => simp [intOf]; omega
        · have HF : Hid (OwnSS wr w.heap.size (.slice (some ⟨g, 0, none⟩) n cap) t) := hX.ss
          clear hX
          go_wp2_with fail
          go_ret
          exact ⟨_, t, p', rfl, HF.out, HV.out.1, HV.out.2, by omega, hr, hG⟩
end Go.Proofs.Ytokpgipbgkiepaa
