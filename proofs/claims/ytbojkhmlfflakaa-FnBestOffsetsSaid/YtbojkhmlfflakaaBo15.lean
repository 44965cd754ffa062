/- reversedStreet: the reference's. -/
import Derived.Test.YtbojkhmlfflakaaBo14
import Derived.Test.YtbojkhmlfflakaaApart
namespace Go.Proofs.Ytbojkhmlfflakaa
open Go.RowKit
set_option linter.unusedVariables false
set_option linter.unusedSimpArgs false

theorem Boxd.below {V W : World} {g B : Nat} (h : Boxd V g) (hB : Below B V W) (hg : g < B) : Boxd W g := by
  unfold Boxd
  rw [hB.block g hg]; exact h
def StrRet (w : World) (s : Str) (e : Ending) (w' : World) : Prop := ∃ v', e = .returned v' ∧ StrR w' 0 v' s ∧ Below w.heap.size w w'

set_option maxHeartbeats 8000000 in
theorem spec_reversedStreet (w : World) (lo : Nat) (v : Value) (s : Str) (hv : StrR w lo v s) (htl : s.tr.length + 1 = s.gr.length) (hg4 : s.gr.length ≤ 4) :
    Calls Try.prog 29 #[v] w (StrRet w (revS s)) := by
  obtain ⟨vg, vt, rfl, hg, ht⟩ := hv
  obtain ⟨ag, cg, rfl, hcg, hmg⟩ := Rd.form hg
  obtain ⟨at', ct, rfl, hct, hmt⟩ := Rd.form ht
  have HXT : Hid (0 < s.tr.length → ∃ bt ot, at' = some ⟨bt, ot, none⟩ ∧ bt < w.heap.size ∧ ∀ i, i < s.tr.length → w.cell? ⟨bt, ot + i, none⟩ = some (.int .i64 (s.tr.getD i 0))) := fun h => by
    obtain ⟨bt, ot, e, _, hbt, hxt⟩ := Rd.spot 0 ht h
    exact ⟨bt, ot, e, hbt, hxt⟩
  have HXG : Hid (0 < s.gr.length → ∃ bt ot, ag = some ⟨bt, ot, none⟩ ∧ bt < w.heap.size ∧ ∀ i, i < s.gr.length → w.cell? ⟨bt, ot + i, none⟩ = some (.int .i64 (s.gr.getD i 0))) := fun h => by
    obtain ⟨bt, ot, e, _, hbt, hxt⟩ := Rd.spot 0 hg h
    exact ⟨bt, ot, e, hbt, hxt⟩
  have wr1 : IntKind.i64.wrap ((s.gr.length : Int) - 1) = (s.gr.length : Int) - 1 := IntWalk.i64_in _ (by omega)
  obtain ⟨wa, hwa, hBa, x0, x1, x2, hza⟩ := str_box w (.int .i64 s.cy) (.slice ag s.gr.length cg) (.slice at' s.tr.length ct)
  have hsa : wa.heap.size = w.heap.size + 1 := by rw [hwa]; simp
  obtain ⟨wb, hwb⟩ : ∃ wb, wb = wa.alloc (.cells #[.int .i64 0, .slice none 0 0, .slice none 0 0] 25) := ⟨_, rfl⟩
  have hXb : Boxd wb (w.heap.size + 1) := by rw [hwb, ← hsa]; exact Boxd.new wa
  have hBb : Below wa.heap.size wa wb := by rw [hwb]; exact (Below.refl _ _).alloc (Nat.le_refl _) _
  have hsb : wb.heap.size = w.heap.size + 2 := by rw [hwb]; simp [hsa]
  obtain ⟨wc, hwc, hOc, hBc, hzc⟩ := int_box wb
  have hsc : wc.heap.size = w.heap.size + 3 := by rw [hwc]; simp [hsb]
  obtain ⟨W, hW, hOd, hBd, hzd⟩ := int_box wc
  have hsd : W.heap.size = w.heap.size + 4 := by rw [hW]; simp [hsc]
  have hX : Boxd W (w.heap.size + 1) := (hXb.thru hBc).thru hBd
  have hOg := hOc.below hBd (Nat.le_refl _)
  have hOt := hOd
  rw [hsb] at hOg
  rw [hsc] at hOt
  have hOt := hOt.mono (lo' := w.heap.size + 2) (by omega)
  have hB2 : Below w.heap.size w W := ((hBa.trans (hBb.mono hBa.size)).trans (hBc.mono (Nat.le_trans hBa.size hBb.size))).trans (hBd.mono (by omega))
  have hBW : Below wa.heap.size wa W := (hBb.trans (hBc.mono (by omega))).trans (hBd.mono (by omega))
  have t0 := (hBW.cell (p := ⟨w.heap.size, 0, none⟩) hza).trans x0
  have t1 := (hBW.cell (p := ⟨w.heap.size, 1, none⟩) hza).trans x1
  have t2 := (hBW.cell (p := ⟨w.heap.size, 2, none⟩) hza).trans x2
  rw [hwc, hwb, hwa] at hW
  have HTL := Lib.hid htl
  have HB2 := Lib.hid hB2
  have HX := Lib.hid hX
  have HOg := Lib.hid hOg
  have HOt := Lib.hid hOt
  clear hg ht x0 x1 x2 hBa hBb hBc hBd hOc hOd hwa hwb hwc hsa hsb hsc hXb hza hzc hzd htl hBW hB2 hX hOg hOt
  go_enter Try.func29, Try.ntmps29
  go_wp2_with fail
  rw [← hW]
  clear hW
  go_loopw [3, 4, 5] (fun gv tv i wo => ∃ k : Nat, k ≤ s.gr.length ∧ i = .int .i64 ((k : Int) - 1) ∧ Own wo (w.heap.size + 2) 3 1 gv (s.gr.length - k) ((s.gr.drop k).reverse.map (Value.int .i64)) ∧ Own wo (w.heap.size + 2) 3 1 tv (s.tr.length - (k - 1)) ((s.tr.drop (k - 1)).reverse.map (Value.int .i64)) ∧ Apart gv tv ∧ Below (w.heap.size + 2) W wo) (fun gv tv i _ => (intOf i + 1).toNat)
  case atStart =>
    refine ⟨s.gr.length, Nat.le_refl _, rfl, by rw [Nat.sub_self, List.drop_length]; exact HOg.out, ?_, ?_, Below.refl _ _⟩
    · rw [show s.gr.length - 1 = s.tr.length by have := HTL.out; omega, Nat.sub_self, List.drop_length]; exact HOt.out
    · intro k h1 h2; simp [wblk] at h1
  case round =>
    clear HOg HOt
    obtain ⟨k, hk, rfl, hO, hT, hAp, hBB⟩ := hrel
    have hB := HB2.out.trans (hBB.mono (by omega))
    have y0 := (hBB.cell (p := ⟨w.heap.size, 0, none⟩) (show w.heap.size < w.heap.size + 2 by omega)).trans t0
    have y1 := (hBB.cell (p := ⟨w.heap.size, 1, none⟩) (show w.heap.size < w.heap.size + 2 by omega)).trans t1
    have y2 := (hBB.cell (p := ⟨w.heap.size, 2, none⟩) (show w.heap.size < w.heap.size + 2 by omega)).trans t2
    have hsz : w.heap.size + 2 ≤ wr.heap.size := Nat.le_trans (by omega) hBB.size
    by_cases hk0 : 0 < k
    · obtain ⟨bg, og, rfl, hbg, hxg⟩ := HXG.out (by omega)
      obtain ⟨j, rfl⟩ : ∃ j, k = j + 1 := ⟨k - 1, by omega⟩
      have hj : j < s.gr.length := by omega
      have hcj := (hB.cell (p := ⟨bg, og + j, none⟩) hbg).trans (hxg j hj)
      have hrd := rev_drop s.gr hj
      have e1 : ((j + 1 : Nat) : Int) - 1 = (j : Int) := by omega
      have wr2 : IntKind.i64.wrap ((j : Int) - 1) = (j : Int) - 1 := IntWalk.i64_in _ (by omega)
      obtain ⟨y, hy⟩ : ∃ y, y = s.gr.getD j 0 := ⟨_, rfl⟩
      rw [← hy] at hcj hrd
      have HRD := Lib.hid hrd
      rw [e1]
      rw [Nat.add_sub_cancel] at hT
      have hj0 : (0 : Int) ≤ (j : Int) := by omega
      clear hxg hrd hy
      by_cases hj1 : 0 < j
      · obtain ⟨bt, ot, rfl, hbt, hxt'⟩ := HXT.out (by have := HTL.out; omega)
        have hxt := hxt' (j - 1) (by have := HTL.out; omega)
        have hrt := rev_drop s.tr (k := j - 1) (by have := HTL.out; omega)
        rw [show j - 1 + 1 = j by omega] at hrt
        obtain ⟨z, hz⟩ : ∃ z, z = s.tr.getD (j - 1) 0 := ⟨_, rfl⟩
        rw [← hz] at hxt hrt
        obtain ⟨q, hq⟩ : ∃ q, q = j - 1 := ⟨_, rfl⟩
        have wr3 : IntKind.i64.wrap ((j : Int) - 1) = (q : Int) := by rw [show (j : Int) - 1 = (q : Int) by omega]; exact IntWalk.i64_in _ (by omega)
        have hq0 : (0 : Int) ≤ (q : Int) := by omega
        have hqt : (q : Int) < (s.tr.length : Int) := by have := HTL.out; omega
        have HRT := Lib.hid hrt
        have HJ : Hid (q + 1 = j) := by unfold Hid; omega
        rw [← hq] at hxt
        have hj1' : (0 : Int) < (j : Int) := by omega
        have hlen : s.tr.length - j + 1 ≤ 4 := by have := HTL.out; omega
        clear hxt' hz hrt wr2 hq
        go_wp2_with (first
          | (at_builtin; refine wpList_append_one _ rfl _ _ 23 rfl 3 (.int .i64 0) 8 Try.underlying23 info_int rfl (w.heap.size + 2) _ _ _ rfl hO _ _ rfl rfl (by omega) (by omega) hsz ?_; intro v8 w8 hO8 hg8 hk8; have hT8 := hT.beside hg8 hAp; have hA8 : Apart v8 u4 := (Apart.step (Apart.symm hAp) hT hk8).symm; have hB8 := hBB.trans (below_of_grownBy hg8 hsz (fun q hq => (hO.wblk hq).1)); have hsz8 : w.heap.size + 2 ≤ w8.heap.size := Nat.le_trans hsz hg8.size; have y20 := hB8.cell (p := ⟨w.heap.size, 2, none⟩) (show w.heap.size < w.heap.size + 2 by omega); rw [t2] at y20; have kt8 := (HB2.out.trans (hB8.mono (by omega))).cell (p := ⟨bt, ot + q, none⟩) hbt; rw [hxt] at kt8)
          | (at_builtin; refine wpList_append_one _ rfl _ _ 23 rfl 3 (.int .i64 0) 8 Try.underlying23 info_int rfl (w.heap.size + 2) _ _ _ rfl hT8 _ _ rfl rfl (by omega) (by omega) hsz8 ?_; intro v9 w9 hO9 hg9 hk9))
        have hB9 := hB8.trans (below_of_grownBy hg9 hsz8 (fun q hq => (hT8.wblk hq).1))
        have hG9 := hO8.beside hg9 hA8.symm
        have hA9 : Apart v8 v9 := Apart.step hA8 hO8 hk9
        have hO10 : Own w9 (w.heap.size + 2) 3 1 v8 (s.gr.length - j) ((s.gr.drop j).reverse.map (Value.int .i64)) := by
          rw [HRD.out, show s.gr.length - j = s.gr.length - (j + 1) + 1 by omega, List.map_append]; exact hG9
        have hT10 : Own w9 (w.heap.size + 2) 3 1 v9 (s.tr.length - (j - 1)) ((s.tr.drop (j - 1)).reverse.map (Value.int .i64)) := by
          rw [HRT.out, show s.tr.length - (j - 1) = s.tr.length - j + 1 by have := HTL.out; omega, List.map_append]; exact hO9
        clear hO hT hAp hO8 hg8 hk8 hT8 hA8 hB8 hO9 hg9 hk9 hG9
        go_roundw
        case rel => exact ⟨j, by omega, by have := HJ.out; rw [show (j : Int) - 1 = (q : Int) by omega], hO10, hT10, hA9, hB9⟩
        case measure => (have h1 := HJ.out; simp only [intOf]; omega)
      · obtain rfl : j = 0 := by omega
        rw [Nat.add_zero] at hcj
        have wr3 : IntKind.i64.wrap ((0 : Int) - 1) = -1 := by decide
        go_wp2_with (at_builtin; refine wpList_append_one _ rfl _ _ 23 rfl 3 (.int .i64 0) 8 Try.underlying23 info_int rfl (w.heap.size + 2) _ _ _ rfl hO _ _ rfl rfl (by omega) (by omega) hsz ?_; intro v8 w8 hO8 hg8 hk8)
        have hT8 := hT.beside hg8 hAp
        have hA8 : Apart v8 u4 := (Apart.step (Apart.symm hAp) hT hk8).symm
        have hB8 := hBB.trans (below_of_grownBy hg8 hsz (fun q hq => (hO.wblk hq).1))
        have hO10 : Own w8 (w.heap.size + 2) 3 1 v8 (s.gr.length - 0) ((s.gr.drop 0).reverse.map (Value.int .i64)) := by
          rw [HRD.out, show s.gr.length - 0 = s.gr.length - (0 + 1) + 1 by omega, List.map_append]; exact hO8
        clear hO hT hAp hO8 hg8 hk8
        go_roundw
        case rel => exact ⟨0, by omega, rfl, hO10, hT8, hA8, hB8⟩
        case measure => simp [intOf]
    · obtain rfl : k = 0 := by omega
      obtain ⟨aa, ca, e3, _⟩ := hO.form
      obtain ⟨ab, cb, e4, _⟩ := hT.form
      rw [e3] at hO
      rw [e4] at hT
      rw [e3, e4]
      have hO2 : Own wr (w.heap.size + 2) 3 1 (.slice aa s.gr.length ca) s.gr.length (s.gr.reverse.map (Value.int .i64)) := by simpa using hO
      have hT2 : Own wr (w.heap.size + 2) 3 1 (.slice ab s.tr.length cb) s.tr.length (s.tr.reverse.map (Value.int .i64)) := by simpa using hT
      have hXr := HX.out.below hBB (by omega)
      obtain ⟨z0, z1, z2, f0, f1, f2⟩ := hXr.facts
      obtain ⟨g, aa', ca', ab', cb', eg, hBf, _, _, _, _, hR⟩ := BackBox.set (s := s) (B := w) hB (by omega) hXr hO2 (.inl (by omega)) hT2 (.inl (by omega))
      have HBF := Lib.hid hBf
      have hRR : StrR (((wr.setCell ⟨w.heap.size + 1, 0, none⟩ (.int .i64 s.cy)).setCell ⟨w.heap.size + 1, 1, none⟩ (.slice aa s.gr.length ca)).setCell ⟨w.heap.size + 1, 2, none⟩ (.slice ab s.tr.length cb)) 0 (.agg #[.int .i64 s.cy, .slice aa s.gr.length ca, .slice ab s.tr.length cb]) (revS s) :=
        strR_of (own_set1 (own_set1 (own_set1 hO2 (.inl (by omega)) _ _) (.inl (by omega)) _ _) (.inl (by omega)) _ _) (own_set1 (own_set1 (own_set1 hT2 (.inl (by omega)) _ _) (.inl (by omega)) _ _) (.inl (by omega)) _ _)
      have HRR := Lib.hid hRR
      clear e3 e4 hO hT hO2 hT2 hAp hR hRR hBf eg
      simp only [Nat.sub_zero, Nat.zero_sub]
      go_wp2_with fail
      refine bodyPost_ret (v := .agg #[.int .i64 s.cy, .slice aa s.gr.length ca, .slice ab s.tr.length cb]) (by simp [results, Try.results29, go_sem, z0, z1, z2, f0, f1, f2]) rfl ?_
      exact ⟨_, rfl, HRR.out, HBF.out⟩
end Go.Proofs.Ytbojkhmlfflakaa
