/- FavourTram: the program's; first what it does for one choice. -/
import Derived.Test.YtokpgipbgkiepaaGr3
import Derived.Deep.RegionHeld3
import Derived.OneCell
namespace Go.Proofs.Ytokpgipbgkiepaa
open Go.RowKit
set_option linter.unusedVariables false
set_option linter.unusedSimpArgs false

/-- What stays as it was when the search began. -/
structure FTc (wo : World) (b3 b4 b5 b7 : Nat) (p : Pln) (st : Nat) (s : Int) (vc vs vg : Value) : Prop where
  val : validP p = true
  sl : st < p.st.length
  s0 : 0 ≤ s
  s1 : s ≤ 9999
  pr : PlanR wo 0 (.agg #[vc, vs]) p
  g : Ints wo 0 vg (grs p)
  l3 : b3 < wo.heap.size
  l4 : b4 < wo.heap.size
  l5 : b5 < wo.heap.size
  l7 : b7 < wo.heap.size
  c30 : wo.cell? ⟨b3, 0, none⟩ = some vc
  c31 : wo.cell? ⟨b3, 1, none⟩ = some vs
  c4 : wo.cell? ⟨b4, 0, none⟩ = some (.int .i64 st)
  c5 : wo.cell? ⟨b5, 0, none⟩ = some (.int .i64 s)
  c7 : wo.cell? ⟨b7, 0, none⟩ = some vg

/-- The best choice so far lies in b8, its wait in b9. -/
def FTs (wo : World) (B b8 b9 : Nat) (p : Pln) (st : Nat) (s : Int) (W : World) (best : List Int) : Prop :=
  Below wo.heap.size wo W ∧ wo.heap.size ≤ b8 ∧ b8 < b9 ∧ okG p best = true ∧ W.heap[b9]? = some (.cells #[.int .i64 (twG p st s best)] 3 (0, 0)) ∧
  ∃ vb, W.heap[b8]? = some (.cells #[vb] 27 (0, 0)) ∧ Own W B 3 1 vb best.length (best.map (.int .i64)) ∧ ∀ k, wblk vb = some k → k ≠ b8 ∧ k ≠ b9

theorem FTs.below {wo : World} {B b8 b9 : Nat} {p : Pln} {st : Nat} {s : Int} {W W' : World} {best : List Int} (h : FTs wo B b8 b9 p st s W best) (hb : Below W.heap.size W W') : FTs wo B b8 b9 p st s W' best := by
  obtain ⟨h1, h2, h3, h4, h5, vb, h6, h7, h8⟩ := h
  have l9 : b9 < W.heap.size := (Array.getElem?_eq_some_iff.1 h5).1
  exact ⟨h1.trans (hb.mono h1.size), h2, h3, h4, by rw [hb.block b9 l9]; exact h5, vb, by rw [hb.block b8 (by omega)]; exact h6, h7.below hb (Nat.le_refl _), h8⟩

theorem ints_at {w : World} {ao : Option Addr} {n cap : Nat} {xs : List Int} (h : Ints w 0 (.slice ao n cap) xs) (h0 : 0 < xs.length) : ∃ b off, ao = some ⟨b, off, none⟩ ∧ b < w.heap.size ∧ ∀ i, i < xs.length → w.cell? ⟨b, off + i, none⟩ = some (.int .i64 (xs.getD i 0)) := by
  obtain ⟨b, off, e, _, h2, h3⟩ := Rd.spot 0 h h0
  exact ⟨b, off, e, h2, h3⟩

set_option maxHeartbeats 4000000 in
theorem try_no (wo W : World) (B b3 b4 b5 b7 b8 b9 : Nat) (p : Pln) (st : Nat) (s : Int) (vc vs vg : Value) (best : List Int) (n a b : Nat) (hc : FTc wo b3 b4 b5 b7 p st s vc vs vg) (hs : FTs wo B b8 b9 p st s W best)
    (h1 : 1 ≤ n) (h6 : n ≤ 6) (ha : a < p.st.length) (hb : b < p.st.length) (hno : okT (grs p) n a b = false) :
    Calls Try.prog 78 #[.int .i64 n, .int .i64 a, .int .i64 b, .pointer (some ⟨b7, 0, none⟩), .pointer (some ⟨b3, 0, none⟩), .pointer (some ⟨b4, 0, none⟩), .pointer (some ⟨b5, 0, none⟩), .pointer (some ⟨b9, 0, none⟩), .pointer (some ⟨b8, 0, none⟩)] W
      fun e W' => e = .returned (.tuple #[]) ∧ FTs wo B b8 b9 p st s W' best := by
  have hgl := grs_len p
  have HS := Lib.hid hs
  have hI := Rd.below hc.g hs.1 (Nat.le_refl _) (by decide)
  obtain ⟨ag, cg, rfl, hcg, hmg⟩ := Rd.form hI
  obtain ⟨bg, og, rfl, hbg, hat⟩ := ints_at hI (by omega)
  have x7 := (hs.1.cell (p := ⟨b7, 0, none⟩) hc.l7).trans hc.c7
  have xa := hat a (by omega)
  have xb := hat b (by omega)
  have ga : 5 ≤ (grs p).getD a 0 ∧ (grs p).getD a 0 ≤ 40 := (okG_iff.1 (grs_ok hc.val)).2 a ha
  have gb : 5 ≤ (grs p).getD b 0 ∧ (grs p).getD b 0 ≤ 40 := (okG_iff.1 (grs_ok hc.val)).2 b hb
  obtain ⟨x, hx⟩ : ∃ x, x = (grs p).getD a 0 := ⟨_, rfl⟩
  obtain ⟨y, hy⟩ : ∃ x, x = (grs p).getD b 0 := ⟨_, rfl⟩
  rw [← hx] at xa ga
  rw [← hy] at xb gb
  have hT : ¬ (a ≠ b ∧ 5 ≤ x - n ∧ y + n ≤ 40) := fun h => by rw [hx, hy] at h; rw [okT_iff.2 h] at hno; cases hno
  have HN := Lib.hid hT
  rw [hgl] at x7 hcg
  have e1 : (0 : Int) ≤ (a : Int) := by omega
  have e2 : (a : Int) < (p.st.length : Int) := by omega
  have e3 : (0 : Int) ≤ (b : Int) := by omega
  have e4 : (b : Int) < (p.st.length : Int) := by omega
  clear hc hs hI hat hx hy hno hT hgl
  by_cases hab : a = b
  · subst hab
    have t1 : ((a : Int) == (a : Int)) = true := by simp
    go_enter Try.func78, Try.ntmps78
    go_wp2_with fail
    exact bodyPost_ret (v := .tuple #[]) (results_none rfl _ _ _) rfl ⟨rfl, HS.out⟩
  · have t1 : ((a : Int) == (b : Int)) = false := beq_eq_false_iff_ne.mpr (by omega)
    have t1' : (a == b) = false := beq_eq_false_iff_ne.mpr hab
    by_cases h5 : x - (n : Int) < 5
    · have t2 : decide (x - (n : Int) < 5) = true := decide_eq_true h5
      go_enter Try.func78, Try.ntmps78
      go_wp2_with fail
      exact bodyPost_ret (v := .tuple #[]) (results_none rfl _ _ _) rfl ⟨rfl, HS.out⟩
    · have h40 : 40 < y + (n : Int) := by
        have := HN.out
        apply Classical.byContradiction; intro h; exact this ⟨hab, by omega, by omega⟩
      have t2 : decide (x - (n : Int) < 5) = false := decide_eq_false h5
      have t3 : decide (40 < y + (n : Int)) = true := decide_eq_true h40
      go_enter Try.func78, Try.ntmps78
      go_wp2_with fail
      exact bodyPost_ret (v := .tuple #[]) (results_none rfl _ _ _) rfl ⟨rfl, HS.out⟩

theorem shf_set {g : List Int} {n x y : Int} {a b : Nat} (hx : x = g.getD a 0) (hy : y = g.getD b 0) : ((g.map (Value.int .i64)).set a (.int .i64 (x - n))).set b (.int .i64 (y + n)) = (shf g n a b).map (Value.int .i64) := by
  subst hx; subst hy; simp [shf, List.map_set]

def TryRet (wo : World) (B b8 b9 : Nat) (p : Pln) (st : Nat) (s : Int) (best : List Int) (n a b : Nat) (e : Ending) (W' : World) : Prop :=
  e = .returned (.tuple #[]) ∧ FTs wo B b8 b9 p st s W' (fstep p st s best n a b)

set_option maxHeartbeats 4000000 in
theorem try_yes (wo W : World) (B b3 b4 b5 b7 b8 b9 : Nat) (p : Pln) (st : Nat) (s : Int) (vc vs vg : Value) (best : List Int) (n a b : Nat) (hc : FTc wo b3 b4 b5 b7 p st s vc vs vg) (hs : FTs wo B b8 b9 p st s W best)
    (hBw : B ≤ wo.heap.size) (h1 : 1 ≤ n) (h6 : n ≤ 6) (ha : a < p.st.length) (hb : b < p.st.length) (hyes : okT (grs p) n a b = true) :
    Calls Try.prog 78 #[.int .i64 n, .int .i64 a, .int .i64 b, .pointer (some ⟨b7, 0, none⟩), .pointer (some ⟨b3, 0, none⟩), .pointer (some ⟨b4, 0, none⟩), .pointer (some ⟨b5, 0, none⟩), .pointer (some ⟨b9, 0, none⟩), .pointer (some ⟨b8, 0, none⟩)] W
      (TryRet wo B b8 b9 p st s best n a b) := by
  have hgl := grs_len p
  have hp5 := (validP_iff.1 hc.val).2.2.1
  have HS := Lib.hid hs
  have HC := Lib.hid hc
  have hI := Rd.below hc.g hs.1 (Nat.le_refl _) (by decide)
  have hPr := hc.pr
  obtain ⟨_, _, ep, hcl, hst⟩ := hPr
  cases ep
  obtain ⟨a1, c1, rfl, _, _⟩ := hcl.form
  obtain ⟨a2, c2, rfl, _, _⟩ := hst.form
  obtain ⟨ag, cg, rfl, hcg, hmg⟩ := Rd.form hI
  obtain ⟨bg, og, rfl, hbg, hat⟩ := ints_at hI (by omega)
  have x7 := (hs.1.cell (p := ⟨b7, 0, none⟩) hc.l7).trans hc.c7
  have xa := hat a (by omega)
  have xb := hat b (by omega)
  have ga : 5 ≤ (grs p).getD a 0 ∧ (grs p).getD a 0 ≤ 40 := (okG_iff.1 (grs_ok hc.val)).2 a ha
  have gb : 5 ≤ (grs p).getD b 0 ∧ (grs p).getD b 0 ≤ 40 := (okG_iff.1 (grs_ok hc.val)).2 b hb
  obtain ⟨x, hx⟩ : ∃ x, x = (grs p).getD a 0 := ⟨_, rfl⟩
  obtain ⟨y, hy⟩ : ∃ x, x = (grs p).getD b 0 := ⟨_, rfl⟩
  rw [← hx] at xa ga
  rw [← hy] at xb gb
  obtain ⟨hab, h5, h40⟩ : a ≠ b ∧ 5 ≤ x - n ∧ y + n ≤ 40 := by have := okT_iff.1 hyes; rw [hx, hy]; exact this
  rw [hgl] at x7 hcg
  have e1 : (0 : Int) ≤ (a : Int) := by omega
  have e2 : (a : Int) < (p.st.length : Int) := by omega
  have e3 : (0 : Int) ≤ (b : Int) := by omega
  have e4 : (b : Int) < (p.st.length : Int) := by omega
  have hI2 : Ints W 0 (.slice (some ⟨bg, og, none⟩) p.st.length cg) (grs p) := by rw [hgl] at hI; unfold Ints; rw [hgl]; exact hI
  have HI := Lib.hid hI2
  have HX := Lib.hid hx
  have HY := Lib.hid hy
  have HL := Lib.hid hgl
  have HYES := Lib.hid hyes
  have t1 : ((a : Int) == (b : Int)) = false := beq_eq_false_iff_ne.mpr (by omega)
  have t1' : (a == b) = false := beq_eq_false_iff_ne.mpr hab
  have t2 : decide (x - (n : Int) < 5) = false := decide_eq_false (by omega)
  have t3 : decide (40 < y + (n : Int)) = false := decide_eq_false (by omega)
  clear hc hs hI hI2 hat hx hy hyes hgl hcl hst
  go_enter Try.func78, Try.ntmps78
  go_wp2_with fail
  refine (clone_any W 0 _ (grs p) HI.out (by rw [HL.out]; omega)).mono ?_; rintro e w1 ⟨v1, rfl, hO, hB⟩
  rw [HL.out] at hO
  have HS1 := Lib.hid (HS.out.below hB)
  obtain ⟨ac, cc, rfl, hcc, hmc⟩ := hO.form
  obtain ⟨gc, rfl, hgc1, hgc2, hcell, hfr, _⟩ := hO.parts (by omega)
  have hcl : ((grs p).map (Value.int .i64)).length = p.st.length := by rw [List.length_map, HL.out]
  have ya := hcell a (by omega)
  have yb := hcell b (by omega)
  have fa := hfr a
  have fb := hfr b
  simp only [List.getElem_map] at ya yb
  have hga : (grs p)[a]'(by rw [HL.out]; exact ha) = x := by rw [HX.out]; simp [List.getD_eq_getElem?_getD, show a < (grs p).length by rw [HL.out]; exact ha]
  have hgb : (grs p)[b]'(by rw [HL.out]; exact hb) = y := by rw [HY.out]; simp [List.getD_eq_getElem?_getD, show b < (grs p).length by rw [HL.out]; exact hb]
  rw [hga] at ya
  rw [hgb] at yb
  have y7 := (hB.cell (p := ⟨b7, 0, none⟩) (World.block_lt_of_cell? W ⟨b7, 0, none⟩ x7)).trans x7
  obtain ⟨hO2, hg2⟩ := hO.store (by omega) a (.int .i64 (x - n))
  obtain ⟨hO3, hg3⟩ := hO2.store (by omega) b (.int .i64 (y + n))
  rw [shf_set HX.out HY.out] at hO3
  have hB3 : Below W.heap.size W ((w1.setCell ⟨gc, a, none⟩ (.int .i64 (x - n))).setCell ⟨gc, b, none⟩ (.int .i64 (y + n))) := (hB.setCell (p := ⟨gc, a, none⟩) hgc1 _).setCell (p := ⟨gc, b, none⟩) hgc1 _
  obtain ⟨w3, hw3⟩ : ∃ w3, w3 = (w1.setCell ⟨gc, a, none⟩ (.int .i64 (x - n))).setCell ⟨gc, b, none⟩ (.int .i64 (y + n)) := ⟨_, rfl⟩
  rw [← hw3] at hO3 hB3
  have HS3 := Lib.hid (HS.out.below hB3)
  have HO3 := Lib.hid hO3
  have HW3 := Lib.hid hw3
  have hne : (⟨gc, a, none⟩ : Addr) ≠ ⟨gc, b, none⟩ := by intro h; injection h with _ h _; exact hab h
  have KC : Hid (∀ W', Below w3.heap.size w3 W' → (W'.cell? ⟨b3, 0, none⟩ = some (.slice a1 p.cl.length c1) ∧ W'.cell? ⟨b3, 1, none⟩ = some (.slice a2 p.st.length c2)) ∧ W'.cell? ⟨b4, 0, none⟩ = some (.int .i64 st) ∧ W'.cell? ⟨b5, 0, none⟩ = some (.int .i64 s)) := fun W' h => by
    have hT := HS3.out.1.trans (h.mono HS3.out.1.size)
    exact ⟨⟨(hT.cell (p := ⟨b3, 0, none⟩) HC.out.l3).trans HC.out.c30, (hT.cell (p := ⟨b3, 1, none⟩) HC.out.l3).trans HC.out.c31⟩, (hT.cell (p := ⟨b4, 0, none⟩) HC.out.l4).trans HC.out.c4, (hT.cell (p := ⟨b5, 0, none⟩) HC.out.l5).trans HC.out.c5⟩
  have KP : Hid (∀ W', Below w3.heap.size w3 W' → PlanR W' 0 (.agg #[.slice a1 p.cl.length c1, .slice a2 p.st.length c2]) p) := fun W' h => HC.out.pr.below (HS3.out.1.trans (h.mono HS3.out.1.size)) (Nat.le_refl _)
  clear hO hB hcell hfr hcl hga hgb hO2 hg2 hO3 hg3 hB3 hw3 x7 xa xb
  go_wp2_with fail
  rw [← HW3.out]
  clear HW3
  have HVW : Hid (validP (wgs p (shf (grs p) n a b)) = true) := wgs_valid HC.out.val (shf_ok HC.out.val (by omega) ha hb HYES.out)
  have HVL : Hid (st < (wgs p (shf (grs p) n a b)).st.length) := by unfold Hid; rw [wgs_len]; exact HC.out.sl
  have HSL : Hid ((shf (grs p) n a b).length = p.st.length) := by unfold Hid; rw [shf_len, HL.out]
  have hIs : Ints w3 0 (.slice (some ⟨gc, 0, none⟩) p.st.length cc) (shf (grs p) n a b) := by unfold Ints; rw [HSL.out]; exact HO3.out.rd.mono (Nat.zero_le _)
  have HIS := Lib.hid hIs
  obtain ⟨⟨u0, u1⟩, u2, u3⟩ := KC.out _ (Below.refl _ _)
  clear hIs
  go_region_held3 (fun w' => (w'.cell? ⟨b3, 0, none⟩ = some (.slice a1 p.cl.length c1) ∧ w'.cell? ⟨b3, 1, none⟩ = some (.slice a2 p.st.length c2)) ∧ w'.cell? ⟨b4, 0, none⟩ = some (.int .i64 st) ∧ w'.cell? ⟨b5, 0, none⟩ = some (.int .i64 s))
    (first | exact KC.out _ hB5 | exact KC.out _ hB4 | exact KC.out _ (Below.refl _ _) | go_keep | assumption)
    ((first
      | (go_at_call 56; refine (plan_withGreens _ 0 0 _ _ p (shf (grs p) n a b) (KP.out _ (Below.drew (Below.refl w3.heap.size w3))) (Rd.below HIS.out (Below.drew (Below.refl w3.heap.size w3)) (Nat.le_refl _) (by decide)) HC.out.val HSL.out).mono ?_; rintro e w4 ⟨v4, rfl, hP4, hB4'⟩; have hB4 : Below w3.heap.size w3 w4 := (Below.drew (Below.refl w3.heap.size w3)).trans hB4')
      | (go_at_call 77; refine (plan_tramWait _ 0 _ (wgs p (shf (grs p) n a b)) st s (hP4.planR.mono (Nat.zero_le _)) HVW.out HVL.out HC.out.s0 (by have := HC.out.s1; omega)).mono ?_; rintro e w5 ⟨rfl, hB5'⟩; have hB5 : Below w3.heap.size w3 w5 := hB4.trans (hB5'.mono hB4.size))))
  have HS5 := Lib.hid (HS3.out.below hB5)
  have HO5 := Lib.hid (HO3.out.below hB5 (Nat.le_refl _))
  obtain ⟨ts, hts⟩ : ∃ x, x = tw (wgs p (shf (grs p) n a b)) st s := ⟨_, rfl⟩
  rw [← hts]
  have hts' : ts = twG p st s (shf (grs p) n a b) := hts
  obtain ⟨k1, k2, k3, k4, k5, vb, k6, k7, k8⟩ := HS5.out
  obtain ⟨tb, htb⟩ : ∃ x, x = twG p st s best := ⟨_, rfl⟩
  rw [← htb] at k5
  have HTS := Lib.hid hts'
  have HTB := Lib.hid htb
  have q9 := cell_of_one k5
  have f9 := free_of_one k5
  have q8 := cell_of_one k6
  have f8 := free_of_one k6
  have K5 := Lib.hid k5
  have K6 := Lib.hid k6
  clear u0 u1 u2 u3 KC KP hB4' hB5' hP4 hB4 hB5 hts hts' htb k1 k4 k5 k6 k7 k8 HIS
  by_cases hlt : ts < tb
  · have d1 : decide (ts < tb) = true := decide_eq_true hlt
    have h89 : b8 ≠ b9 := by omega
    have hgc8 : gc ≠ b8 ∧ gc ≠ b9 := by
      have hz8 := HS.out
      have l9 : b9 < W.heap.size := lt_of_block hz8.2.2.2.2.1
      omega
    go_wp2_with fail
    have hF : FTs wo B b8 b9 p st s ((w5.setCell ⟨b8, 0, none⟩ (.slice (some ⟨gc, 0, none⟩) p.st.length cc)).setCell ⟨b9, 0, none⟩ (.int .i64 ts)) (fstep p st s best n a b) := by
      have hfs : fstep p st s best n a b = shf (grs p) n a b := by unfold fstep; rw [if_pos ⟨HYES.out, by rw [← HTS.out, ← HTB.out]; exact hlt⟩]
      rw [hfs]
      obtain ⟨k1, k2, k3, k4, k5, vb, k6, k7, k8⟩ := HS5.out
      refine ⟨(k1.setCell (p := ⟨b8, 0, none⟩) k2 _).setCell (p := ⟨b9, 0, none⟩) (by show wo.heap.size ≤ b9; omega) _, k2, k3, shf_ok HC.out.val (by omega) ha hb HYES.out, ?_, .slice (some ⟨gc, 0, none⟩) p.st.length cc, ?_, ?_, ?_⟩
      · rw [← HTS.out]
        refine one_setCell (v := .int .i64 tb) ?_
        rw [Below.heap_setCell _ _ _ _ (Ne.symm h89)]; exact K5.out
      · rw [Below.heap_setCell _ _ _ _ h89]
        exact one_setCell K6.out
      · have h0 := (HO5.out.mono (show B ≤ W.heap.size by have := HS.out.1.size; omega)).grown (cell_grown (b' := 0) _ 0 : w5.grownBy (w5.setCell ⟨b8, 0, none⟩ (.slice (some ⟨gc, 0, none⟩) p.st.length cc)) (some b8)) (fun k hk => .inr (by cases hk; simp [Value.ownBlock]; exact hgc8.1))
        have h2 := h0.grown (cell_grown (b' := 0) _ 0 : World.grownBy _ (World.setCell _ ⟨b9, 0, none⟩ (.int .i64 ts)) (some b9)) (fun k hk => .inr (by cases hk; simp [Value.ownBlock]; exact hgc8.2))
        rw [HSL.out]; exact h2
      · intro k hk
        simp only [wblk] at hk
        split at hk
        · cases hk
        · cases hk; exact hgc8
    exact bodyPost_end (results_none rfl _ _ _) rfl ⟨rfl, hF⟩
  · have d1 : decide (ts < tb) = false := decide_eq_false hlt
    go_wp2_with fail
    have hF : FTs wo B b8 b9 p st s w5 (fstep p st s best n a b) := by
      have hfs : fstep p st s best n a b = best := by unfold fstep; rw [if_neg (fun h => by have := h.2; rw [← HTS.out, ← HTB.out] at this; omega)]
      rw [hfs]; exact HS5.out
    exact bodyPost_end (results_none rfl _ _ _) rfl ⟨rfl, hF⟩

theorem try_any (wo W : World) (B b3 b4 b5 b7 b8 b9 : Nat) (p : Pln) (st : Nat) (s : Int) (vc vs vg : Value) (best : List Int) (n a b : Nat) (hc : FTc wo b3 b4 b5 b7 p st s vc vs vg) (hs : FTs wo B b8 b9 p st s W best)
    (hBw : B ≤ wo.heap.size) (h1 : 1 ≤ n) (h6 : n ≤ 6) (ha : a < p.st.length) (hb : b < p.st.length) :
    Calls Try.prog 78 #[.int .i64 n, .int .i64 a, .int .i64 b, .pointer (some ⟨b7, 0, none⟩), .pointer (some ⟨b3, 0, none⟩), .pointer (some ⟨b4, 0, none⟩), .pointer (some ⟨b5, 0, none⟩), .pointer (some ⟨b9, 0, none⟩), .pointer (some ⟨b8, 0, none⟩)] W
      (TryRet wo B b8 b9 p st s best n a b) := by
  by_cases h : okT (grs p) n a b = true
  · exact try_yes wo W B b3 b4 b5 b7 b8 b9 p st s vc vs vg best n a b hc hs hBw h1 h6 ha hb h
  · have h' : okT (grs p) n a b = false := by simpa using h
    refine (try_no wo W B b3 b4 b5 b7 b8 b9 p st s vc vs vg best n a b hc hs h1 h6 ha hb h').mono ?_
    rintro e W' ⟨rfl, hS⟩
    refine ⟨rfl, ?_⟩
    have : fstep p st s best n a b = best := by unfold fstep; rw [if_neg (fun h2 => h h2.1)]
    rw [this]; exact hS

theorem f1_pred (p : Pln) (st : Nat) (s : Int) {n : Nat} (h : 1 ≤ n) : f1 p st s n = f2 p st s (f1 p st s (n - 1)) n p.st.length := by
  obtain ⟨m, rfl⟩ : ∃ m, n = m + 1 := ⟨n - 1, by omega⟩
  rfl
theorem FTs.c7 {wo : World} {B b8 b9 b3 b4 b5 b7 : Nat} {p : Pln} {st : Nat} {s : Int} {W : World} {best : List Int} {vc vs vg : Value} (h : FTs wo B b8 b9 p st s W best) (hc : FTc wo b3 b4 b5 b7 p st s vc vs vg) : W.cell? ⟨b7, 0, none⟩ = some vg :=
  (h.1.cell (p := ⟨b7, 0, none⟩) hc.l7).trans hc.c7

def favO (p : Pln) (st s : Int) : List Int := if vTram p st s = true then fav p st.toNat s else []
theorem favO_no {p : Pln} {st s : Int} (h : vTram p st s = false) : favO p st s = [] := by unfold favO; rw [if_neg (by rw [h]; decide)]
theorem favO_yes {p : Pln} {st s : Int} (h : vTram p st s = true) : favO p st s = fav p st.toNat s := by unfold favO; rw [if_pos h]

set_option maxHeartbeats 8000000 in
theorem impl_favourTram (w : World) (lo : Nat) (vp : Value) (p : Pln) (st s : Int) (hp : PlanR w lo vp p) :
    Calls Try.prog 29 #[vp, .int .i64 st, .int .i64 s] w (OwnRet w (favO p st s)) := by
  have hp0 := hp
  obtain ⟨vc, vs, rfl, hc, hs⟩ := hp
  obtain ⟨aoc, capc, rfl, hcapc, hmc⟩ := hc.form
  obtain ⟨ao, cap, rfl, hcap, hm⟩ := hs.form
  obtain ⟨wa, hwa, hBa, x0, x1, hza⟩ := plan_box w (.slice aoc p.cl.length capc) (.slice ao p.st.length cap)
  obtain ⟨wb, hwb⟩ : ∃ x, x = wa.alloc (.cells #[.int .i64 st] 3) := ⟨_, rfl⟩
  obtain ⟨wc, hwc⟩ : ∃ x, x = wb.alloc (.cells #[.int .i64 s] 3) := ⟨_, rfl⟩
  have hBb : Below w.heap.size w wb := by rw [hwb]; exact hBa.alloc hBa.size _
  have hBc : Below w.heap.size w wc := by rw [hwc]; exact hBb.alloc hBb.size _
  have hAB : Below wa.heap.size wa wb := by rw [hwb]; exact (Below.refl _ _).alloc (Nat.le_refl _) _
  have hBC : Below wb.heap.size wb wc := by rw [hwc]; exact (Below.refl _ _).alloc (Nat.le_refl _) _
  have hAC := hAB.trans (hBC.mono hAB.size)
  have zb : wa.heap.size < wb.heap.size := by rw [hwb]; simp
  have zc : wb.heap.size < wc.heap.size := by rw [hwc]; simp
  have za1 : wa.heap.size = w.heap.size + 1 := by rw [hwa]; simp
  have zb1 : wb.heap.size = w.heap.size + 1 + 1 := by rw [hwb]; simp [za1]
  have c0 := (hAC.cell (p := ⟨w.heap.size, 0, none⟩) hza).trans x0
  have c1 := (hAC.cell (p := ⟨w.heap.size, 1, none⟩) hza).trans x1
  have c4 : wc.cell? ⟨wa.heap.size, 0, none⟩ = some (.int .i64 st) := (hBC.cell (p := ⟨wa.heap.size, 0, none⟩) zb).trans (cell_of_one (t := 3) (by rw [hwb]; exact heap_alloc_new wa _))
  have c5 : wc.cell? ⟨wb.heap.size, 0, none⟩ = some (.int .i64 s) := cell_of_one (t := 3) (by rw [hwc]; exact heap_alloc_new wb _)
  rw [za1] at c4
  rw [zb1] at c5
  have HP := Lib.hid (hp0.below hBc (Nat.le_refl _))
  have HBc := Lib.hid hBc
  have hW : wc = ((w.alloc (.cells #[.slice aoc p.cl.length capc, .slice ao p.st.length cap] 26)).alloc (.cells #[.int .i64 st] 3)).alloc (.cells #[.int .i64 s] 3) := by rw [hwc, hwb, hwa]
  have HW := Lib.hid hW
  have zw : w.heap.size + 1 + 1 < wc.heap.size := by omega
  obtain ⟨vt, hvt⟩ : ∃ x, x = vTram p st s := ⟨_, rfl⟩
  have HVT := Lib.hid hvt
  clear hp0 hc hs hwa hBa x0 x1 hza hwb hwc hBb hBc hAB hBC hAC zb zc za1 zb1 hW hvt
  go_enter Try.func29, Try.ntmps29
  go_wp2_with fail
  rw [← HW.out]
  clear HW
  refine (impl_validTram _ lo _ p st s HP.out).mono ?_; rintro e w1 ⟨rfl, hB1⟩
  rw [← HVT.out]
  cases vt
  · have HE := Lib.hid (favO_no HVT.out.symm)
    go_wp2_with fail
    go_ret
    exact ⟨_, rfl, by rw [HE.out]; exact Own.nil _ _ _ _, HBc.out.trans (hB1.mono HBc.out.size)⟩
  · have hv := HVT.out.symm
    unfold vTram at hv
    simp only [Bool.and_eq_true] at hv
    obtain ⟨⟨hval, hst⟩, hss⟩ := hv
    obtain ⟨q1, q2⟩ := inR_iff.1 hst
    obtain ⟨q3, q4⟩ := inR_iff.1 hss
    obtain ⟨S, rfl⟩ := Int.eq_ofNat_of_zero_le q1
    have hS : S < p.st.length := by omega
    have HE := Lib.hid (favO_yes HVT.out.symm)
    have hp5 := (validP_iff.1 hval).2.2.1
    have HV := Lib.hid hval
    have KC : Hid (∀ W, Below wc.heap.size wc W → (W.cell? ⟨w.heap.size, 0, none⟩ = some (.slice aoc p.cl.length capc) ∧ W.cell? ⟨w.heap.size, 1, none⟩ = some (.slice ao p.st.length cap)) ∧ W.cell? ⟨w.heap.size + 1, 0, none⟩ = some (.int .i64 S) ∧ W.cell? ⟨w.heap.size + 1 + 1, 0, none⟩ = some (.int .i64 s)) := fun W h =>
      ⟨⟨(h.cell (p := ⟨w.heap.size, 0, none⟩) (by show w.heap.size < _; omega)).trans c0, (h.cell (p := ⟨w.heap.size, 1, none⟩) (by show w.heap.size < _; omega)).trans c1⟩, (h.cell (p := ⟨w.heap.size + 1, 0, none⟩) (by show w.heap.size + 1 < _; omega)).trans c4, (h.cell (p := ⟨w.heap.size + 1 + 1, 0, none⟩) (by show w.heap.size + 1 + 1 < _; omega)).trans c5⟩
    have HB1 := Lib.hid hB1
    obtain ⟨⟨u0, u1⟩, u2, u3⟩ := KC.out _ hB1
    clear hval hst hss c0 c1 c4 c5 hB1
    go_wp2_with fail
    refine (plan_greens _ lo _ p (HP.out.below HB1.out (Nat.le_refl _)) hp5).mono ?_; rintro e w2 ⟨v2, rfl, hO2, hB2⟩
    obtain ⟨a2, k2, rfl, hk2, hm2⟩ := hO2.form
    have HB2 := Lib.hid (HB1.out.trans (hB2.mono HB1.out.size))
    obtain ⟨w3, hw3⟩ : ∃ x, x = w2.alloc (.cells #[.slice a2 (grs p).length k2] 27) := ⟨_, rfl⟩
    have hB3 : Below w2.heap.size w2 w3 := by rw [hw3]; exact (Below.refl _ _).alloc (Nat.le_refl _) _
    have c7 : w3.cell? ⟨w2.heap.size, 0, none⟩ = some (.slice a2 (grs p).length k2) := cell_of_one (t := 27) (by rw [hw3]; exact heap_alloc_new w2 _)
    have z7 : w2.heap.size < w3.heap.size := by rw [hw3]; simp
    have HO3 := Lib.hid (hO2.below hB3 (Nat.le_refl _))
    have HB3 := Lib.hid (HB2.out.trans (hB3.mono HB2.out.size))
    have HW3 := Lib.hid hw3
    clear u0 u1 u2 u3 hO2 hB2 hB3 hw3
    go_wp2_with fail
    rw [← HW3.out]
    clear HW3
    have hgl := grs_len p
    refine (clone_any _ 0 _ (grs p) (HO3.out.rd.mono (Nat.zero_le _)) (by omega)).mono ?_; rintro e w4 ⟨v4, rfl, hO4, hB4⟩
    obtain ⟨a4, k4, rfl, hk4, hm4⟩ := hO4.form
    have HB4 := Lib.hid (HB3.out.trans (hB4.mono HB3.out.size))
    have c7' := (hB4.cell (p := ⟨w2.heap.size, 0, none⟩) z7).trans c7
    have hFTc : FTc w4 w.heap.size (w.heap.size + 1) (w.heap.size + 1 + 1) w2.heap.size p S s (.slice aoc p.cl.length capc) (.slice ao p.st.length cap) (.slice a2 (grs p).length k2) := by
      obtain ⟨⟨u0, u1⟩, u2, u3⟩ := KC.out _ HB4.out
      have := HB4.out.size
      have := hB4.size
      exact ⟨HV.out, hS, q3, q4, (HP.out.below HB4.out (Nat.le_refl _)).mono (Nat.zero_le _), Rd.mono (Rd.below HO3.out.rd hB4 (Nat.le_refl _) (by decide)) (Nat.zero_le _), by omega, by omega, by omega, by omega, u0, u1, u2, u3, c7'⟩
    obtain ⟨w5, hw5⟩ : ∃ x, x = w4.alloc (.cells #[.slice a4 (grs p).length k4] 27) := ⟨_, rfl⟩
    have hB5 : Below w4.heap.size w4 w5 := by rw [hw5]; exact (Below.refl _ _).alloc (Nat.le_refl _) _
    have c8 : w5.heap[w4.heap.size]? = some (.cells #[.slice a4 (grs p).length k4] 27 (0, 0)) := by rw [hw5]; exact heap_alloc_new w4 _
    have z8 : w4.heap.size < w5.heap.size := by rw [hw5]; simp
    have HF := Lib.hid hFTc
    have HB5 := Lib.hid hB5
    have HO4 : Hid (Own w4 w.heap.size 3 1 (.slice a4 (grs p).length k4) (grs p).length ((grs p).map (.int .i64))) := hO4.mono (by have := HBc.out.size; have := HB3.out.size; omega)
    have HW5 := Lib.hid hw5
    obtain ⟨⟨u0, u1⟩, u2, u3⟩ := KC.out _ HB4.out
    have z0 : w.heap.size + 1 + 1 < w4.heap.size := by have := HB4.out.size; omega
    have z01 : w.heap.size + 1 < w4.heap.size := by omega
    have z02 : w.heap.size < w4.heap.size := by omega
    have HGL := Lib.hid hgl
    clear hO4 hB4 hFTc hB5 hw5 c7 z7 c7' hgl
    go_wp2_with fail
    rw [← HW5.out]
    clear HW5
    refine (plan_tramWait _ lo _ p S s (HP.out.below (HB4.out.trans (HB5.out.mono HB4.out.size)) (Nat.le_refl _)) HV.out hS q3 (by omega)).mono ?_; rintro e w6 ⟨rfl, hB6⟩
    obtain ⟨w7, hw7⟩ : ∃ x, x = w6.alloc (.cells #[.int .i64 (tw p S s)] 3) := ⟨_, rfl⟩
    have hB7 : Below w6.heap.size w6 w7 := by rw [hw7]; exact (Below.refl _ _).alloc (Nat.le_refl _) _
    have hB67 := HB5.out.trans ((hB6.trans (hB7.mono hB6.size)).mono HB5.out.size)
    have hS0 : FTs w4 w.heap.size w4.heap.size w6.heap.size p S s w7 (f1 p S s 0) := by
      refine ⟨hB67, Nat.le_refl _, by have := hB6.size; omega, grs_ok HV.out, ?_, .slice a4 (grs p).length k4, ?_, HO4.out.below hB67 (Nat.le_refl _), ?_⟩
      · show _ = some (Obj.cells #[.int .i64 (twG p S s (grs p))] _ _)
        rw [twG_grs, hw7]; exact heap_alloc_new w6 _
      · rw [(hB6.trans (hB7.mono hB6.size)).block _ z8]; exact c8
      · intro k hk
        have := (HO4.out.wblk hk).2
        have := hB6.size
        omega
    have hmf : ∀ (fn : Fn) (first cap : Array Value) (w : World), (Instr.makeFunc fn first cap).run Try.prog w = .ok (.func fn first cap) w := fun _ _ _ _ => rfl
    have HS0 := Lib.hid hS0
    have HW7 := Lib.hid hw7
    have hz6 := hB6.size
    clear hB6 hB7 hB67 hS0 hw7 c8 u0 u1 u2 u3
    go_wp2_with fail
    rw [← HW7.out]
    clear HW7
    go_loopw [11] (fun i wr => ∃ n : Nat, 1 ≤ n ∧ n ≤ 7 ∧ i = .int .i64 n ∧ FTs w4 w.heap.size w4.heap.size w6.heap.size p S s wr (f1 p S s (n - 1))) (fun i _ => 7 - (intOf i).toNat)
    case atStart => exact ⟨1, by omega, by omega, rfl, HS0.out⟩
    case round =>
      obtain ⟨n, hn1, hn, rfl, hs⟩ := hrel
      by_cases h6 : n < 7
      · have t1 : decide ((n : Int) ≤ 6) = true := decide_eq_true (by omega)
        have t1' : decide (n ≤ 6) = true := decide_eq_true (by omega)
        have c7 := hs.c7 HF.out
        have HSn := Lib.hid hs
        clear hs
        rw [HGL.out] at c7
        go_wp2_with fail
        go_loopw [34] (fun i wr => ∃ a : Nat, a ≤ p.st.length ∧ i = .int .i64 a ∧ FTs w4 w.heap.size w4.heap.size w6.heap.size p S s wr (f2 p S s (f1 p S s (n - 1)) n a)) (fun i _ => p.st.length - (intOf i).toNat)
        case atStart => exact ⟨0, by omega, rfl, HSn.out⟩
        case round =>
          clear c7
          obtain ⟨a, ha, rfl, hs⟩ := hrel
          by_cases hla : a < p.st.length
          · have c7 := hs.c7 HF.out
            have HSa := Lib.hid hs
            clear hs
            rw [HGL.out] at c7
            go_wp2_with fail
            go_loopw [39] (fun i wr => ∃ b : Nat, b ≤ p.st.length ∧ i = .int .i64 b ∧ FTs w4 w.heap.size w4.heap.size w6.heap.size p S s wr (f3 p S s (f2 p S s (f1 p S s (n - 1)) n a) n a b)) (fun i _ => p.st.length - (intOf i).toNat)
            case atStart => exact ⟨0, by omega, rfl, HSa.out⟩
            case round =>
              clear c7
              obtain ⟨b, hb, rfl, hs⟩ := hrel
              by_cases hlb : b < p.st.length
              · have HSb := Lib.hid hs
                clear hs
                go_wp2_with fail
                refine (try_any w4 _ w.heap.size w.heap.size (w.heap.size + 1) (w.heap.size + 1 + 1) _ _ _ p S s _ _ _ _ n a b HF.out HSb.out (by have := HB4.out.size; omega) (by omega) (by omega) hla hlb).mono ?_; rintro e w9 ⟨rfl, hS9⟩
                have HS9 := Lib.hid hS9
                clear hS9 HSb
                go_wp2
                go_roundw
                case rel => exact ⟨b + 1, by omega, by go_num, HS9.out⟩
                case measure => simp [intOf]; omega
              · obtain rfl : b = p.st.length := by omega
                have HS9 := Lib.hid hs
                clear hs
                go_wp2
                go_roundw
                case rel => exact ⟨a + 1, by omega, by go_num, HS9.out⟩
                case measure => simp [intOf]; omega
          · obtain rfl : a = p.st.length := by omega
            have HS9 := Lib.hid hs
            clear hs
            go_wp2
            go_roundw
            case rel => exact ⟨n + 1, by omega, by omega, by go_num, by rw [← f1_pred p S s hn1] at HS9; exact HS9.out⟩
            case measure => simp [intOf]; omega
      · obtain rfl : n = 7 := by omega
        have HS9 := Lib.hid hs
        obtain ⟨k1, k2, k3, k4, k5, vb, k6, k7, k8⟩ := hs
        have q8 := cell_of_one k6
        have K7 : Hid (Own wr w.heap.size 3 1 vb (favO p (S : Int) s).length ((favO p (S : Int) s).map (.int .i64))) := by rw [HE.out]; exact k7
        have K1 := Lib.hid k1
        clear k1 k5 k6 k7 k8 k4
        go_wp2_with fail
        go_ret
        exact ⟨_, rfl, K7.out, HBc.out.trans ((HB4.out.trans (K1.out.mono HB4.out.size)).mono HBc.out.size)⟩
end Go.Proofs.Ytokpgipbgkiepaa
