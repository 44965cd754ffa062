/- TwoWayBand: the program's. -/
import Derived.Test.YtbojkhmlfflakaaBo8
import Derived.Deep.DeepCutAuto
namespace Go.Proofs.Ytbojkhmlfflakaa
open Go.RowKit
set_option linter.unusedVariables false
set_option linter.unusedSimpArgs false

/-- The new variable's block, as it was made. -/
def Boxd (W : World) (g : Nat) : Prop := W.heap[g]? = some (.cells #[.int .i64 0, .slice none 0 0, .slice none 0 0] 25 (0, 0))
theorem Boxd.own {W : World} {g : Nat} (h : Boxd W g) : Own W g 25 3 (.slice (some ⟨g, 0, none⟩) 1 1) 1 [.int .i64 0, .slice none 0 0, .slice none 0 0] :=
  .inl ⟨rfl, .inr ⟨g, 1, _, rfl, Nat.le_refl _, h, Nat.le_refl _, by decide, rfl, rfl⟩⟩
theorem Boxd.lt {V : World} {g : Nat} (h : Boxd V g) : g < V.heap.size := by
  unfold Boxd at h
  exact (Array.getElem?_eq_some_iff.1 h).1
theorem Boxd.facts {W : World} {g : Nat} (h : Boxd W g) : W.cell? ⟨g, 0, none⟩ = some (.int .i64 0) ∧ W.cell? ⟨g, 1, none⟩ = some (.slice none 0 0) ∧ W.cell? ⟨g, 2, none⟩ = some (.slice none 0 0) ∧ W.frozen? ⟨g, 0, none⟩ = false ∧ W.frozen? ⟨g, 1, none⟩ = false ∧ W.frozen? ⟨g, 2, none⟩ = false := by
  obtain ⟨g', hg, _, _, c, f, _⟩ := h.own.parts (by decide)
  cases hg
  exact ⟨c 0 (by decide), c 1 (by decide), c 2 (by decide), f 0, f 1, f 2⟩
theorem Boxd.new (V : World) : Boxd (V.alloc (.cells #[.int .i64 0, .slice none 0 0, .slice none 0 0] 25)) V.heap.size := heap_alloc_new V _
theorem Boxd.thru {V W : World} {g : Nat} (h : Boxd V g) (hB : Below V.heap.size V W) : Boxd W g := by
  have hg := h.lt
  unfold Boxd
  rw [hB.block g hg]; exact h
theorem undrew {V W : World} (h : Below V.drew.heap.size V.drew W) : Below V.heap.size V W := ⟨h.os, h.tape, h.output, h.size, h.block⟩
theorem unlaid {V W : World} {o : Obj} (h : Below (V.alloc o).heap.size (V.alloc o) W) : Below V.heap.size V W :=
  ((Below.refl _ _).alloc (Nat.le_refl _) _).trans (h.mono (by simp))

/-- The street turned round, in a variable of the call's own. -/
def BackBox (B : World) (s : Str) (t5 : Value) (W : World) : Prop := ∃ g aa ca ab cb, t5 = .pointer (some ⟨g, 0, none⟩) ∧ Below B.heap.size B W ∧ g < W.heap.size ∧
  W.cell? ⟨g, 0, none⟩ = some (.int .i64 s.cy) ∧ W.cell? ⟨g, 1, none⟩ = some (.slice aa s.gr.length ca) ∧ W.cell? ⟨g, 2, none⟩ = some (.slice ab s.tr.length cb) ∧
  StrR W 0 (.agg #[.int .i64 s.cy, .slice aa s.gr.length ca, .slice ab s.tr.length cb]) (revS s)
theorem strR_of {W : World} {s : Str} {la lb : Nat} {aa ab : Option Addr} {ca cb : Nat} (ha : Own W la 3 1 (.slice aa s.gr.length ca) s.gr.length (s.gr.reverse.map (Value.int .i64))) (hb : Own W lb 3 1 (.slice ab s.tr.length cb) s.tr.length (s.tr.reverse.map (Value.int .i64))) :
    StrR W 0 (.agg #[.int .i64 s.cy, .slice aa s.gr.length ca, .slice ab s.tr.length cb]) (revS s) :=
  ⟨_, _, rfl, ha.ints (by simp), hb.ints (by simp)⟩
theorem BackBox.lay {B W : World} {s : Str} {la lb : Nat} {aa ab : Option Addr} {ca cb : Nat} (hB : Below B.heap.size B W) (ha : Own W la 3 1 (.slice aa s.gr.length ca) s.gr.length (s.gr.reverse.map (Value.int .i64))) (hb : Own W lb 3 1 (.slice ab s.tr.length cb) s.tr.length (s.tr.reverse.map (Value.int .i64))) :
    BackBox B s (.pointer (some ⟨W.heap.size, 0, none⟩)) (W.alloc (.cells #[.int .i64 s.cy, .slice aa s.gr.length ca, .slice ab s.tr.length cb] 25)) := by
  obtain ⟨w0, hw0, hB0, x0, x1, x2, hz0⟩ := str_box W (.int .i64 s.cy) (.slice aa s.gr.length ca) (.slice ab s.tr.length cb)
  subst hw0
  exact ⟨_, _, _, _, _, rfl, hB.alloc hB.size _, hz0, x0, x1, x2, strR_of (ha.alloc _) (hb.alloc _)⟩
theorem own_set1 {W : World} {lo e n : Nat} {v : Value} {cs : List Value} (h : Own W lo e 1 v n cs) {g : Nat} (hg : g < lo ∨ wblk v ≠ some g) (i : Nat) (u : Value) : Own (W.setCell ⟨g, i, none⟩ u) lo e 1 v n cs := by
  have hgr : W.grownBy (W.setCell ⟨g, i, none⟩ u) (some g) := ⟨rfl, rfl, rfl, by simp [World.setCell], fun k _ hk => Below.heap_setCell _ _ _ k (fun e => hk (by rw [e]))⟩
  by_cases hlt : g < lo
  · exact h.grown hgr (fun k e => by cases e; exact .inl hlt)
  · have hw := hg.resolve_left hlt
    rcases h with ⟨h1, h2⟩ | ⟨rfl, rfl, ao, rfl⟩
    · rcases h2 with ⟨rfl, h2⟩ | ⟨b, cap, cur, rfl, h2, h3, h4, h5⟩
      · exact Own.grown (.inl ⟨h1, .inl ⟨rfl, h2⟩⟩) hgr (fun k e => by cases e; right; simp [Value.ownBlock])
      · by_cases hc : cap = 0
        · subst hc
          have h0 : n = 0 := by omega
          subst h0
          exact .inr ⟨rfl, List.eq_nil_of_length_eq_zero (by simpa using h1), _, rfl⟩
        · refine Own.grown (.inl ⟨h1, .inr ⟨b, cap, cur, rfl, h2, h3, h4, h5⟩⟩) hgr (fun k e => ?_)
          cases e
          right
          simpa [wblk, hc, Value.ownBlock] using hw
    · exact .inr ⟨rfl, rfl, ao, rfl⟩
theorem BackBox.set {B W : World} {s : Str} {la lb g : Nat} {aa ab : Option Addr} {ca cb : Nat} (hB : Below B.heap.size B W) (hg : B.heap.size ≤ g) (hx : Boxd W g) (ha : Own W la 3 1 (.slice aa s.gr.length ca) s.gr.length (s.gr.reverse.map (Value.int .i64))) (hna : g < la ∨ wblk (Value.slice aa s.gr.length ca) ≠ some g) (hb : Own W lb 3 1 (.slice ab s.tr.length cb) s.tr.length (s.tr.reverse.map (Value.int .i64))) (hnb : g < lb ∨ wblk (Value.slice ab s.tr.length cb) ≠ some g) :
    BackBox B s (.pointer (some ⟨g, 0, none⟩)) (((W.setCell ⟨g, 0, none⟩ (.int .i64 s.cy)).setCell ⟨g, 1, none⟩ (.slice aa s.gr.length ca)).setCell ⟨g, 2, none⟩ (.slice ab s.tr.length cb)) := by
  have ho := hx.own
  obtain ⟨g1, e1, _, _, _, _, s1⟩ := ho.parts (by decide); cases e1
  have h1 := (s1 0 (.int .i64 s.cy)).1
  obtain ⟨g2, e2, _, _, _, _, s2⟩ := h1.parts (by decide); cases e2
  have h2 := (s2 1 (.slice aa s.gr.length ca)).1
  obtain ⟨g3, e3, _, _, _, _, s3⟩ := h2.parts (by decide); cases e3
  have h3 := (s3 2 (.slice ab s.tr.length cb)).1
  obtain ⟨g4, e4, _, lt, c, _, _⟩ := h3.parts (by decide); cases e4
  exact ⟨_, _, _, _, _, rfl, Below.setCell (Below.setCell (Below.setCell hB hg _) hg _) hg _, lt, c 0 (by simp), c 1 (by simp), c 2 (by simp),
    strR_of (own_set1 (own_set1 (own_set1 ha hna _ _) hna _ _) hna _ _) (own_set1 (own_set1 (own_set1 hb hnb _ _) hnb _ _) hnb _ _)⟩
theorem own_ne {W : World} {lo e n : Nat} {v : Value} {cs : List Value} (h : Own W lo e 1 v n cs) : wblk v ≠ some W.heap.size := by
  intro hv
  have := (h.wblk hv).2; omega

theorem allB_rev {xs : List Int} {a b : Int} : allB xs.reverse a b = allB xs a b := by
  rw [Bool.eq_iff_iff, allB_iff, allB_iff]
  exact ⟨fun h x hx => h x (by simpa using hx), fun h x hx => h x (by simpa using hx)⟩
theorem offOk_rev {s : Str} {offs : List Int} (h : offOk s offs = true) : offOk (revS s) offs.reverse = true := by
  obtain ⟨hv, hl, hb⟩ := offOk_iff.1 h
  obtain ⟨h1, h2, h3, h4, h5⟩ := validS_iff.1 hv
  refine offOk_iff.2 ⟨validS_iff.2 ⟨h1, by simpa [revS] using h2, by simpa [revS] using h3, by simpa [revS, allB_rev] using h4, by simpa [revS, allB_rev] using h5⟩, by simpa [revS] using hl, fun x hx => ?_⟩
  exact hb x (by simpa using hx)
theorem bandO_ok {s : Str} {offs : List Int} (h : offOk s offs = true) : bandO s offs = (band s offs : Int) := by unfold bandO; rw [if_pos h]
theorem band_30 {s : Str} {offs : List Int} (h : validS s = true) : band s offs ≤ 30 := by
  have := (validS_iff.1 h).1
  have := cnt_le (pasB s offs) 0 s.cy.toNat
  unfold band; omega

set_option maxHeartbeats 8000000 in
theorem impl_twoWayBand (w : World) (lo : Nat) (v vo : Value) (s : Str) (offs : List Int) (hv : StrR w lo v s) (ho : Ints w lo vo offs) :
    Calls Try.prog 8 #[v, vo] w fun e w' => e = .returned (.int .i64 (tbO s offs)) ∧ Below w.heap.size w w' := by
  have HV0 := Lib.hid hv
  obtain ⟨vg, vt, rfl, hg, ht⟩ := hv
  obtain ⟨ag, cg, rfl, hcg, hmg⟩ := Rd.form hg
  obtain ⟨at', ct, rfl, hct, hmt⟩ := Rd.form ht
  obtain ⟨w0, hw0, hB0, x0, x1, x2, hz0⟩ := str_box w (.int .i64 s.cy) (.slice ag s.gr.length cg) (.slice at' s.tr.length ct)
  have HB0 := Lib.hid hB0
  have HO := Lib.hid ho
  have HGR := Lib.hid hg
  have HTR := Lib.hid ht
  clear hg ht hB0 ho
  cases hok : offOk s offs
  · have HN : Hid (tbO s offs = -1) := by unfold Hid tbO; rw [hok]; rfl
    go_enter Try.func8, Try.ntmps8
    go_wp2_with fail
    rw [← hw0]
    clear hw0
    refine (str_accepts _ lo _ _ s offs (HV0.out.below HB0.out (Nat.le_refl _)) (Rd.below HO.out HB0.out (Nat.le_refl _) (by decide))).mono ?_; rintro e w1 ⟨rfl, hB1⟩
    rw [hok]
    clear hok
    go_wp2_with fail
    go_ret
    exact ⟨ret_H HN, HB0.out.trans (hB1.mono HB0.out.size)⟩
  · have HN : Hid (tbO s offs = (tb s offs : Int)) := by unfold Hid tbO; rw [if_pos hok]
    have HK := Lib.hid hok
    obtain ⟨hval, hol, _⟩ := offOk_iff.1 hok
    obtain ⟨hc1, hg1, htl, _⟩ := validS_iff.1 hval
    clear hval
    go_enter Try.func8, Try.ntmps8
    go_wp2_with fail
    rw [← hw0]
    clear hw0
    refine (str_accepts _ lo _ _ s offs (HV0.out.below HB0.out (Nat.le_refl _)) (Rd.below HO.out HB0.out (Nat.le_refl _) (by decide))).mono ?_; rintro e w1 ⟨rfl, hB1⟩
    rw [hok]
    clear hok
    have hT1 := HB0.out.trans (hB1.mono HB0.out.size)
    have hz1 := Nat.lt_of_lt_of_le hz0 hB1.size
    have u0 := (hB1.cell (p := ⟨w.heap.size, 0, none⟩) hz0).trans x0
    have u1 := (hB1.cell (p := ⟨w.heap.size, 1, none⟩) hz0).trans x1
    have u2 := (hB1.cell (p := ⟨w.heap.size, 2, none⟩) hz0).trans x2
    have KA : Hid (∀ W, Below w1.heap.size w1 W → (W.cell? ⟨w.heap.size, 0, none⟩ = some (.int .i64 s.cy) ∧ W.cell? ⟨w.heap.size, 1, none⟩ = some (.slice ag s.gr.length cg) ∧ W.cell? ⟨w.heap.size, 2, none⟩ = some (.slice at' s.tr.length ct))) := fun W h => ⟨(h.cell (p := ⟨w.heap.size, 0, none⟩) hz1).trans u0, (h.cell (p := ⟨w.heap.size, 1, none⟩) hz1).trans u1, (h.cell (p := ⟨w.heap.size, 2, none⟩) hz1).trans u2⟩
    have KG : Hid (∀ W, Below w1.heap.size w1 W → Ints W lo (.slice ag s.gr.length cg) s.gr) := fun W h => Rd.below HGR.out (hT1.trans (h.mono hT1.size)) (Nat.le_refl _) (by decide)
    have KT : Hid (∀ W, Below w1.heap.size w1 W → Ints W lo (.slice at' s.tr.length ct) s.tr) := fun W h => Rd.below HTR.out (hT1.trans (h.mono hT1.size)) (Nat.le_refl _) (by decide)
    have B1 : Below w1.heap.size w1 w1 := Below.refl _ _
    clear x0 x1 x2 hB1
    go_upto_region 3 with fail
    go_cut [5] (fun t5 wx => BackBox w1 s t5 wx)
    case first =>
      go_region_held3 (fun W => W.cell? ⟨w.heap.size, 0, none⟩ = some (.int .i64 s.cy) ∧ W.cell? ⟨w.heap.size, 1, none⟩ = some (.slice ag s.gr.length cg) ∧ W.cell? ⟨w.heap.size, 2, none⟩ = some (.slice at' s.tr.length ct))
        ((refine KA.out _ ?_; (first | assumption | exact Below.drew (by assumption) | exact Below.alloc (by assumption) (Below.size (by assumption)) _ | exact Below.drew (Below.alloc (by assumption) (Below.size (by assumption)) _) | exact Below.alloc (Below.drew (by assumption)) (Below.size (Below.drew (by assumption))) _ | exact Below.setCell (Below.setCell (Below.setCell (by assumption) (by first | exact Nat.le_refl _ | exact Below.size (by assumption)) _) (by first | exact Nat.le_refl _ | exact Below.size (by assumption)) _) (by first | exact Nat.le_refl _ | exact Below.size (by assumption)) _ | exact Below.drew (Below.setCell (Below.setCell (Below.setCell (by assumption) (by first | exact Nat.le_refl _ | exact Below.size (by assumption)) _) (by first | exact Nat.le_refl _ | exact Below.size (by assumption)) _) (by first | exact Nat.le_refl _ | exact Below.size (by assumption)) _))))
        ((first
          | (go_at_call 19; (with_reducible show Calls _ _ #[_, Value.slice ag s.gr.length cg] _ _); refine (appendReversed_any _ lo _ s.gr (KG.out _ ?_) (by omega)).mono ?_; (first | assumption | exact Below.drew (by assumption) | exact Below.alloc (by assumption) (Below.size (by assumption)) _ | exact Below.drew (Below.alloc (by assumption) (Below.size (by assumption)) _) | exact Below.alloc (Below.drew (by assumption)) (Below.size (Below.drew (by assumption))) _); rintro e wa ⟨va, rfl, hOa, hBa⟩; obtain ⟨aa, ca, rfl, hcwa, hmwa⟩ := hOa.form; (first | (have hbxwa := Boxd.thru (Boxd.new _) hBa) | (have hbxwa := Boxd.thru (Boxd.new _) (undrew hBa)) | (have hbxwa := Boxd.thru (by assumption) hBa) | (have hbxwa := Boxd.thru (by assumption) (undrew hBa)) | skip); (first | (obtain ⟨z0, z1, z2, f0, f1, f2⟩ := hbxwa.facts) | skip); have Ba : Below w1.heap.size w1 wa := Below.trans (by first | assumption | exact Below.drew (by assumption) | exact Below.alloc (by assumption) (Below.size (by assumption)) _ | exact Below.drew (Below.alloc (by assumption) (Below.size (by assumption)) _) | exact Below.alloc (Below.drew (by assumption)) (Below.size (Below.drew (by assumption))) _) (hBa.mono (Below.size (B := w1.heap.size) (w := w1) (by first | assumption | exact Below.drew (by assumption) | exact Below.alloc (by assumption) (Below.size (by assumption)) _ | exact Below.drew (Below.alloc (by assumption) (Below.size (by assumption)) _) | exact Below.alloc (Below.drew (by assumption)) (Below.size (Below.drew (by assumption))) _))))
          | (go_at_call 19; (with_reducible show Calls _ _ #[_, Value.slice at' s.tr.length ct] _ _); refine (appendReversed_any _ lo _ s.tr (KT.out _ ?_) (by omega)).mono ?_; (first | assumption | exact Below.drew (by assumption) | exact Below.alloc (by assumption) (Below.size (by assumption)) _ | exact Below.drew (Below.alloc (by assumption) (Below.size (by assumption)) _) | exact Below.alloc (Below.drew (by assumption)) (Below.size (Below.drew (by assumption))) _); rintro e wb ⟨vb, rfl, hOb, hBb⟩; obtain ⟨ab, cb, rfl, hcwb, hmwb⟩ := hOb.form; (first | (have hbxwb := Boxd.thru (Boxd.new _) hBb) | (have hbxwb := Boxd.thru (Boxd.new _) (undrew hBb)) | (have hbxwb := Boxd.thru (by assumption) hBb) | (have hbxwb := Boxd.thru (by assumption) (undrew hBb)) | skip); (first | (obtain ⟨z0, z1, z2, f0, f1, f2⟩ := hbxwb.facts) | skip); have Bb : Below w1.heap.size w1 wb := Below.trans (by first | assumption | exact Below.drew (by assumption) | exact Below.alloc (by assumption) (Below.size (by assumption)) _ | exact Below.drew (Below.alloc (by assumption) (Below.size (by assumption)) _) | exact Below.alloc (Below.drew (by assumption)) (Below.size (Below.drew (by assumption))) _) (hBb.mono (Below.size (B := w1.heap.size) (w := w1) (by first | assumption | exact Below.drew (by assumption) | exact Below.alloc (by assumption) (Below.size (by assumption)) _ | exact Below.drew (Below.alloc (by assumption) (Below.size (by assumption)) _) | exact Below.alloc (Below.drew (by assumption)) (Below.size (Below.drew (by assumption))) _))))))
      all_goals go_wp2_with fail
      all_goals go_meet
      all_goals first
        | exact BackBox.lay (by assumption) (by first | exact hOa | exact hOa.below hBb (Nat.le_refl _) | exact hOa.below (undrew hBb) (Nat.le_refl _) | exact hOa.below (unlaid hBb) (Nat.le_refl _) | exact hOa.below (unlaid (undrew hBb)) (Nat.le_refl _)) (by first | exact hOb | exact hOb.below hBa (Nat.le_refl _) | exact hOb.below (undrew hBa) (Nat.le_refl _) | exact hOb.below (unlaid hBa) (Nat.le_refl _) | exact hOb.below (unlaid (undrew hBa)) (Nat.le_refl _))
        | exact BackBox.set (by assumption) (by first | exact Nat.le_refl _ | exact Below.size (by assumption)) (by assumption) (by first | exact hOa | exact hOa.below hBb (Nat.le_refl _) | exact hOa.below (undrew hBb) (Nat.le_refl _) | exact hOa.below (unlaid hBb) (Nat.le_refl _) | exact hOa.below (unlaid (undrew hBb)) (Nat.le_refl _)) (by (first | (left; simp; done) | (left; have hs1 := hBa.size; have hs2 := hBb.size; (try simp at hs1); (try simp at hs2); (try simp only [World.size_alloc, World.heap_drew]); (try simp); omega) | (right; exact own_ne hOa))) (by first | exact hOb | exact hOb.below hBa (Nat.le_refl _) | exact hOb.below (undrew hBa) (Nat.le_refl _) | exact hOb.below (unlaid hBa) (Nat.le_refl _) | exact hOb.below (unlaid (undrew hBa)) (Nat.le_refl _)) (by (first | (left; simp; done) | (left; have hs1 := hBa.size; have hs2 := hBb.size; (try simp at hs1); (try simp at hs2); (try simp only [World.size_alloc, World.heap_drew]); (try simp); omega) | (right; exact own_ne hOb)))
    case rest =>
      obtain ⟨g, aa, ca, ab, cb, rfl, hB2, hgz, y0, y1, y2, hR⟩ := hcut
      have HR := Lib.hid hR
      have hT2 := hT1.trans (hB2.mono hT1.size)
      have HT2 := Lib.hid hT2
      have x0 := (hB2.cell (p := ⟨w.heap.size, 0, none⟩) hz1).trans u0
      have x1 := (hB2.cell (p := ⟨w.heap.size, 1, none⟩) hz1).trans u1
      have x2 := (hB2.cell (p := ⟨w.heap.size, 2, none⟩) hz1).trans u2
      have hz2 := Nat.lt_of_lt_of_le hz1 hB2.size
      have KS : Hid (∀ W, Below wc.heap.size wc W → (W.cell? ⟨w.heap.size, 0, none⟩ = some (.int .i64 s.cy) ∧ W.cell? ⟨w.heap.size, 1, none⟩ = some (.slice ag s.gr.length cg) ∧ W.cell? ⟨w.heap.size, 2, none⟩ = some (.slice at' s.tr.length ct) ∧ W.cell? ⟨g, 0, none⟩ = some (.int .i64 s.cy) ∧ W.cell? ⟨g, 1, none⟩ = some (.slice aa s.gr.length ca) ∧ W.cell? ⟨g, 2, none⟩ = some (.slice ab s.tr.length cb))) := fun W h => ⟨(h.cell (p := ⟨w.heap.size, 0, none⟩) hz2).trans x0, (h.cell (p := ⟨w.heap.size, 1, none⟩) hz2).trans x1, (h.cell (p := ⟨w.heap.size, 2, none⟩) hz2).trans x2, (h.cell (p := ⟨g, 0, none⟩) hgz).trans y0, (h.cell (p := ⟨g, 1, none⟩) hgz).trans y1, (h.cell (p := ⟨g, 2, none⟩) hgz).trans y2⟩
      have KV : Hid (∀ W, Below wc.heap.size wc W → StrR W lo (Value.agg #[Value.int IntKind.i64 s.cy, Value.slice ag s.gr.length cg, Value.slice at' s.tr.length ct]) s) := fun W h => HV0.out.below (hT2.trans (h.mono hT2.size)) (Nat.le_refl _)
      have KO : Hid (∀ W, Below wc.heap.size wc W → Ints W lo vo offs) := fun W h => Rd.below HO.out (hT2.trans (h.mono hT2.size)) (Nat.le_refl _) (by decide)
      have KR : Hid (∀ W, Below wc.heap.size wc W → StrR W 0 (Value.agg #[Value.int IntKind.i64 s.cy, Value.slice aa s.gr.length ca, Value.slice ab s.tr.length cb]) (revS s)) := fun W h => HR.out.below h (Nat.le_refl _)
      have B2 : Below wc.heap.size wc wc := Below.refl _ _
      have wrp : IntKind.i64.wrap (bandO s offs + bandO (revS s) offs.reverse) = bandO s offs + bandO (revS s) offs.reverse := by
        have e1 := bandO_ok HK.out
        have e2 := bandO_ok (offOk_rev HK.out)
        have l1 := band_30 (s := s) (offs := offs) (offOk_iff.1 HK.out).1
        have l2 := band_30 (s := revS s) (offs := offs.reverse) (offOk_iff.1 (offOk_rev HK.out)).1
        exact IntWalk.i64_in _ (by omega)
      have HE : Hid (tbO s offs = bandO s offs + bandO (revS s) offs.reverse) := by
        unfold Hid
        rw [HN.out, bandO_ok HK.out, bandO_ok (offOk_rev HK.out)]; unfold tb; simp
      have hol6 : offs.length ≤ 1000000 := by omega
      clear KA KG KT B1 hT1 hB2 hT2 hR x0 x1 x2 y0 y1 y2 u0 u1 u2 HN HB0 HGR HTR HV0 HO HR hc1 hg1 htl hol hcg hmg hct hmt
      obtain ⟨b1, hb1⟩ : ∃ b1, b1 = bandO s offs := ⟨_, rfl⟩
      obtain ⟨b2, hb2⟩ : ∃ b2, b2 = bandO (revS s) offs.reverse := ⟨_, rfl⟩
      rw [← hb1, ← hb2] at wrp HE
      have HB1 := Lib.hid hb1
      have HB2 := Lib.hid hb2
      clear hb1 hb2
      go_wp2_with fail
      go_region_held3 (fun W => W.cell? ⟨w.heap.size, 0, none⟩ = some (.int .i64 s.cy) ∧ W.cell? ⟨w.heap.size, 1, none⟩ = some (.slice ag s.gr.length cg) ∧ W.cell? ⟨w.heap.size, 2, none⟩ = some (.slice at' s.tr.length ct) ∧ W.cell? ⟨g, 0, none⟩ = some (.int .i64 s.cy) ∧ W.cell? ⟨g, 1, none⟩ = some (.slice aa s.gr.length ca) ∧ W.cell? ⟨g, 2, none⟩ = some (.slice ab s.tr.length cb))
        ((refine KS.out _ ?_; (first | assumption | exact Below.drew (by assumption))))
        ((first
          | (go_at_call 20; (with_reducible show Calls _ _ #[Value.agg #[Value.int IntKind.i64 s.cy, Value.slice ag s.gr.length cg, Value.slice at' s.tr.length ct], _] _ _); refine (impl_bandOf _ lo _ _ s offs (KV.out _ ?_) (KO.out _ ?_)).mono ?_; (first | assumption | exact Below.drew (by assumption)); (first | assumption | exact Below.drew (by assumption)); rintro e wx ⟨rfl, hBx⟩; rw [← HB1.out]; have Bx : Below wc.heap.size wc wx := Below.trans (by first | assumption | exact Below.drew (by assumption)) (hBx.mono (Below.size (B := wc.heap.size) (w := wc) (by first | assumption | exact Below.drew (by assumption)))))
          | (go_at_call 19; (with_reducible show Calls _ _ #[_, vo] _ _); refine (appendReversed_any _ lo _ offs (KO.out _ ?_) hol6).mono ?_; (first | assumption | exact Below.drew (by assumption)); rintro e wr ⟨vr, rfl, hOr, hBr⟩; have hIr := Own.ints hOr (by simp); have Br : Below wc.heap.size wc wr := Below.trans (by first | assumption | exact Below.drew (by assumption)) (hBr.mono (Below.size (B := wc.heap.size) (w := wc) (by first | assumption | exact Below.drew (by assumption)))))
          | (go_at_call 20; (with_reducible show Calls _ _ #[Value.agg #[Value.int IntKind.i64 s.cy, Value.slice aa s.gr.length ca, Value.slice ab s.tr.length cb], _] _ _); refine (impl_bandOf _ 0 _ _ (revS s) offs.reverse (KR.out _ ?_) ?_).mono ?_; (first | assumption | exact Below.drew (by assumption)); (first | assumption | exact Rd.below hIr hBx (Nat.le_refl _) (by decide) | exact Rd.below hIr (undrew hBx) (Nat.le_refl _) (by decide)); rintro e wy ⟨rfl, hBy⟩; rw [← HB2.out]; have By : Below wc.heap.size wc wy := Below.trans (by first | assumption | exact Below.drew (by assumption)) (hBy.mono (Below.size (B := wc.heap.size) (w := wc) (by first | assumption | exact Below.drew (by assumption)))))))
      all_goals go_wp2_with fail
      all_goals go_ret
      all_goals refine ⟨ret_H HE, HT2.out.trans (Below.mono ?_ HT2.out.size)⟩
      all_goals (first | assumption | exact Below.drew (by assumption))
end Go.Proofs.Ytbojkhmlfflakaa
