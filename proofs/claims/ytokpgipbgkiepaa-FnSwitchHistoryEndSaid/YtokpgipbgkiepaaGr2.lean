/- greens, greensOf, withGreens, SetGreens: the program's and the reference's. -/
import Derived.Test.YtokpgipbgkiepaaGr1
import Derived.Test.YtokpgipbgkiepaaPlU
import Derived.Test.YtokpgipbgkiepaaDrP4
import Derived.Deep.RegionLaw
namespace Go.Proofs.Ytokpgipbgkiepaa
open Go.RowKit
set_option linter.unusedVariables false
set_option linter.unusedSimpArgs false

theorem grs_take_succ {p : Pln} {k : Nat} (hk : k < p.st.length) : (grs p).take (k + 1) = (grs p).take k ++ [(p.st.getD k s0).gr] := by
  rw [List.take_succ_eq_append_getElem (by rw [grs_len]; exact hk)]
  simp [grs, List.getD_eq_getElem?_getD, hk]
theorem grs_take_all (p : Pln) : (grs p).take p.st.length = grs p := by rw [List.take_of_length_le (by rw [grs_len]; exact Nat.le_refl _)]
def GrsRet (w : World) (xs : List Int) (e : Ending) (w' : World) : Prop := ∃ v', e = .returned v' ∧ Own w' w.heap.size 3 1 v' xs.length (xs.map (.int .i64)) ∧ Below w.heap.size w w'

set_option maxHeartbeats 4000000 in
theorem plan_greens (w : World) (lo : Nat) (vp : Value) (p : Pln) (hp : PlanR w lo vp p) (h5 : p.st.length ≤ 5) :
    Calls Try.prog 75 #[vp] w (GrsRet w (grs p)) := by
  obtain ⟨vc, vs, rfl, hc, hs⟩ := hp
  obtain ⟨ao, cap, rfl, hcap, hm⟩ := hs.form
  obtain ⟨aoc, capc, rfl, hcapc, hmc⟩ := hc.form
  have HS := Lib.hid hs
  obtain ⟨w0, hw0, hB0, x0, x1, hz0⟩ := plan_box w (.slice aoc p.cl.length capc) (.slice ao p.st.length cap)
  have HB0 := Lib.hid hB0
  clear hc hs hB0
  go_enter Try.func75, Try.ntmps75
  go_wp2_with fail
  rw [← hw0]
  clear hw0
  go_loopw [3, 9] (fun sv i wo => ∃ j : Nat, j ≤ p.st.length ∧ i = .int .i64 j ∧ Own wo w0.heap.size 3 1 sv j (((grs p).take j).map (.int .i64)) ∧ Below w0.heap.size w0 wo) (fun _ i _ => p.st.length - (intOf i).toNat)
  case atStart => exact ⟨0, Nat.zero_le _, rfl, Own.nil _ _ _ _, Below.refl _ _⟩
  case round =>
    obtain ⟨j, hj, rfl, hO, hB⟩ := hrel
    have hT := HB0.out.trans (hB.mono HB0.out.size)
    by_cases hlt : j < p.st.length
    · obtain ⟨b, off, rfl, _, hb, hx⟩ := HS.out.spot (by omega)
      obtain ⟨g1, ai, ci, g0, hIj⟩ := hx j (by omega)
      have c0 := (hT.cell (p := ⟨b, off + j * 2, none⟩) hb).trans g0
      have c1 := (hT.cell (p := ⟨b, off + j * 2 + 1, none⟩) hb).trans g1
      have hsu := grs_take_succ hlt
      obtain ⟨n, hn⟩ : ∃ n, n = (p.st.getD j s0).ph.length := ⟨_, rfl⟩
      obtain ⟨gr, hgr⟩ : ∃ gr, gr = (p.st.getD j s0).gr := ⟨_, rfl⟩
      rw [← hn] at c0
      rw [← hgr] at c1 hsu
      have HSU := Lib.hid hsu
      have hsz := hB.size
      clear g0 g1 hIj hx hn hgr hsu hT
      go_wp2_with (at_builtin; refine wpList_append_oneH _ rfl _ _ 27 rfl 3 (.int .i64 0) 8 Try.underlying27 info_int rfl w0.heap.size _ _ _ rfl (hO.alloc _) _ _ (wr.heap.size + 1) rfl (by simp) rfl (by omega) (by omega) (by simp; omega) ?_; intro v' w3 hO3 hg3 _)
      have hB3 : Below w0.heap.size w0 w3 := (hB.alloc hsz _).grown hg3 (by simp; omega) (fun k hk => (hO.wblk hk).1)
      have hO4 : Own w3 w0.heap.size 3 1 v' (j + 1) (((grs p).take (j + 1)).map (.int .i64)) := by rw [HSU.out, List.map_append]; exact hO3
      clear hO3 hg3 hB hO
      go_wp2
      go_roundw
      case rel => exact ⟨j + 1, by omega, by go_num, hO4, hB3⟩
      case measure => simp [intOf]; omega
    · obtain rfl : j = p.st.length := by omega
      have HF : Hid (Own wr w.heap.size 3 1 u3 (grs p).length ((grs p).map (.int .i64))) := by
        rw [grs_take_all] at hO; rw [grs_len]; exact hO.mono HB0.out.size
      clear hO
      go_wp2_with fail
      go_ret
      exact ⟨_, rfl, HF.out, hT⟩

set_option maxHeartbeats 4000000 in
theorem spec_greensOf (w : World) (lo : Nat) (vp : Value) (p : Pln) (hp : PlanR w lo vp p) (h5 : p.st.length ≤ 5) :
    Calls Try.prog 82 #[vp] w (GrsRet w (grs p)) := by
  obtain ⟨vc, vs, rfl, hc, hs⟩ := hp
  obtain ⟨ao, cap, rfl, hcap, hm⟩ := hs.form
  obtain ⟨aoc, capc, rfl, hcapc, hmc⟩ := hc.form
  have HS := Lib.hid hs
  obtain ⟨w0, hw0, hB0, x0, x1, hz0⟩ := plan_box w (.slice aoc p.cl.length capc) (.slice ao p.st.length cap)
  obtain ⟨w1, hw1⟩ : ∃ x, x = w0.alloc (.cells #[] 3) := ⟨_, rfl⟩
  have hB1 : Below w0.heap.size w0 w1 := by rw [hw1]; exact (Below.refl _ _).alloc (Nat.le_refl _) _
  have hs1 : w0.heap.size = w.heap.size + 1 := by rw [hw0]; simp
  have HB0 := Lib.hid hB0
  have HS1 := Lib.hid hs1
  clear hc hs hB0 hs1
  go_enter Try.func82, Try.ntmps82
  go_wp2_with fail
  rw [← hw0, ← hw1]
  clear hw0 hw1
  go_loopw [3, 4] (fun sv i wo => ∃ j : Nat, j ≤ p.st.length ∧ i = .int .i64 j ∧ Own wo w0.heap.size 3 1 sv j (((grs p).take j).map (.int .i64)) ∧ Below w0.heap.size w0 wo) (fun _ i _ => p.st.length - (intOf i).toNat)
  case atStart => exact ⟨0, Nat.zero_le _, rfl, .inr ⟨rfl, rfl, _, rfl⟩, hB1⟩
  case round =>
    clear hB1
    obtain ⟨j, hj, rfl, hO, hB⟩ := hrel
    have hT := HB0.out.trans (hB.mono HB0.out.size)
    have u1 := (hB.cell (p := ⟨w.heap.size, 1, none⟩) hz0).trans x1
    by_cases hlt : j < p.st.length
    · obtain ⟨b, off, rfl, _, hb, hx⟩ := HS.out.spot (by omega)
      obtain ⟨g1, ai, ci, g0, hIj⟩ := hx j (by omega)
      have c1 := (hT.cell (p := ⟨b, off + j * 2 + 1, none⟩) hb).trans g1
      have hsu := grs_take_succ hlt
      obtain ⟨gr, hgr⟩ : ∃ gr, gr = (p.st.getD j s0).gr := ⟨_, rfl⟩
      rw [← hgr] at c1 hsu
      have HSU := Lib.hid hsu
      have hsz := hB.size
      clear g0 g1 hIj hx hgr hsu hT
      go_wp2_with (at_builtin; refine wpList_append_one _ rfl _ _ 27 rfl 3 (.int .i64 0) 8 Try.underlying27 info_int rfl w0.heap.size _ _ _ rfl hO _ _ rfl rfl (by omega) (by omega) hsz ?_; intro v' w3 hO3 hg3 _)
      have hB3 : Below w0.heap.size w0 w3 := hB.trans (below_of_grownBy hg3 hsz (fun k hk => (hO.wblk hk).1))
      have hO4 : Own w3 w0.heap.size 3 1 v' (j + 1) (((grs p).take (j + 1)).map (.int .i64)) := by rw [HSU.out, List.map_append]; exact hO3
      clear hO3 hg3 hB hO
      go_wp2
      go_roundw
      case rel => exact ⟨j + 1, by omega, by go_num, hO4, hB3⟩
      case measure => simp [intOf]; omega
    · obtain rfl : j = p.st.length := by omega
      have HF : Hid (Own wr w.heap.size 3 1 u3 (grs p).length ((grs p).map (.int .i64))) := by
        rw [grs_take_all] at hO; rw [grs_len]; exact hO.mono HB0.out.size
      clear hO
      go_wp2_with fail
      go_ret
      exact ⟨_, rfl, HF.out, hT⟩

/-! append as a step of a region that draws its order. -/
section
variable {P : Program}
theorem step_append_OwnW (w : World) {ops : Array Oper} {o : Oper} {a : Act} {K : Act → World → Prop} {Q : Exit → Act → World → Prop} {E : Prop} (hw : Region.wanted o (yielded ops a.tmps) = true) (s x : Operand) (t : TypeId)
    (ho : o.op = .call { callee := .builtin .append, args := #[s, x], argTypes := #[t, t] })
    (e : TypeId) (z : Value) (sz bytes : Nat) (ht : P.underlying t = some (.slice e)) (hi : (P.info? e).map (fun i => (i.zero, i.size, i.bytes)) = some (some z, sz, bytes))
    (hzs : z.cells.size = sz) (hsz : 0 < sz)
    (lo : Nat) (v : Value) (n : Nat) (cs : List Value) (hs : a.eval s = v) (hown : Own w lo e sz v n cs)
    (cell : List Value) (hcl : cell.length = sz) (t' : TypeId) (H : Nat) (hxe : a.eval x = .slice (some ⟨H, 0, none⟩) 1 1) (hH : w.heap.size = H) (h1 : ∀ u ∈ cell, u.oneCell' = true)
    (h63 : n + 1 ≤ 9223372036854775807) (hbytes : (n + 1) * bytes ≤ 140737488355328) (hbase : lo ≤ w.heap.size)
    (h : ∀ v' w', Own w' lo e sz v' (n + 1) (cs ++ cell) → w.grownBy w' (wblk v) → (∀ k, wblk v' = some k → wblk v = some k ∨ w.heap.size ≤ k) → K (a.put o.dst v') w') :
    if Region.wanted o (yielded ops a.tmps) = true then Oper.wp P o a (w.alloc (.cells cell.toArray t')) K Q else E := by
  rw [if_pos hw]
  subst hH
  obtain ⟨i, hi1, hz, hsize, hby⟩ := info_parts hi
  obtain ⟨v', w', hr, h2, h3, h4⟩ := run_append_Own (P := P) (w.alloc (.cells cell.toArray t')) lo t o.type e i z sz bytes ht hi1 hz hsize hby hzs hsz v n cs (hown.alloc _) (.slice (some ⟨w.heap.size, 0, none⟩) 1 1) 0 1 cell (Rd.made w cell t' 0 sz 1 (by omega) (Nat.zero_le _) (by decide)) h1 (by unfold maxLen; omega) hbytes (by simp; omega)
  have hga := World.grownBy_alloc w (.cells cell.toArray t') none
  unfold Oper.wp execOp
  simp only [ho, resolve, invoke, builtin, Sem.run_bind, Sem.run_pure, Result.andThen_ok, List.map_toArray, List.map_cons, List.map_nil, hs, hxe, hr]
  refine h v' w' h2 ?_ ?_
  · exact grownBy_trans (row := wblk v) ⟨hga.os, hga.tape, hga.output, hga.size, fun k hk _ => hga.block k hk (fun e => by cases e)⟩ h3 (fun x hx => .inl hx)
  · intro k hk'
    rcases h4 k hk' with h | h
    · exact .inl h
    · right; simp at h; omega
end

/-- The stages of a plan with other greens, as far as the first k. -/
def wst (p : Pln) (gs : List Int) (k : Nat) : List Stg := (List.range k).map fun i => ⟨(p.st.getD i s0).ph, gs.getD i 0⟩
theorem wst_len (p : Pln) (gs : List Int) (k : Nat) : (wst p gs k).length = k := by simp [wst]
theorem wst_succ (p : Pln) (gs : List Int) (k : Nat) : wst p gs (k + 1) = wst p gs k ++ [⟨(p.st.getD k s0).ph, gs.getD k 0⟩] := by unfold wst; rw [List.range_succ, List.map_append]; rfl
theorem wst_all (p : Pln) (gs : List Int) : wst p gs p.st.length = (wgs p gs).st := rfl

/-- One stage more. -/
theorem stg_app {w0 w1 w' : World} {lo : Nat} {v v' u : Value} {hs : List Value} {ss : List Stg} {s : Stg} (h1 : Own w0 lo 34 2 v ss.length (stgCells hs ss)) (h2 : RowsO w0 lo hs (phsOf ss) ss.length) (h3 : ∀ j, j < ss.length → Apart v (hs.getD j .nilFunc)) (hb : Below w0.heap.size w0 w1) (hu : Own w1 w0.heap.size 3 1 u s.ph.length (s.ph.map (.int .i64))) (hlo : lo ≤ w0.heap.size)
    (hO : Own w' lo 34 2 v' (ss.length + 1) (stgCells hs ss ++ [u, .int .i64 s.gr])) (hg : w1.grownBy w' (wblk v)) (hk : ∀ k, wblk v' = some k → wblk v = some k ∨ w1.heap.size ≤ k) :
    OwnStg w' lo v' (ss ++ [s]) := by
  have h2' := (h2.below hb (Nat.le_refl _)).cong (t' := phsOf (ss ++ [s])) (fun j hj => phsOf_snoc_lt hj)
  have hU : Own w1 w0.heap.size 3 1 u ((phsOf (ss ++ [s])).getD ss.length []).length (((phsOf (ss ++ [s])).getD ss.length []).map (.int .i64)) := by rw [phsOf_snoc_eq]; exact hu
  have h4 := h2'.snoc2 (u := u) (fun j hj q hq => (h2.lt hj hq).2) hU hlo
  have hA : ∀ j, j < ss.length + 1 → Apart v ((hs ++ [u]).getD j .nilFunc) := by
    intro j hj
    by_cases e : j = ss.length
    · subst e
      rw [← h2.1, getD_snoc_eq]
      intro q hq hq'
      have := (h1.wblk hq).2; have := (hU.wblk hq').1; omega
    · rw [getD_snoc_lt (by rw [h2.1]; omega)]; exact h3 j (by omega)
  refine ⟨hs ++ [u], ?_, ?_, ?_⟩
  · rw [stgCells_snoc h2.1]; simpa using hO
  · have := h4.grown hg (fun q hq => .inr (fun j hj e => hA j hj q hq e))
    simpa using this
  · intro j hj q hq hq'
    rcases hk q hq with h | h
    · exact hA j (by simpa using hj) q h hq'
    · have := (h4.lt (by simpa using hj) hq').2; omega


theorem ph8 {p : Pln} (h : validP p = true) {i : Nat} (hi : i < p.st.length) : (p.st.getD i s0).ph.length ≤ 8 := by
  obtain ⟨hv, _⟩ := validP_iff.1 h
  have h8 := (validCl_iff.1 hv).2.1
  have := movesB_len (validP_st h hi).1 (by omega)
  omega
def WgRet (w : World) (vc : Value) (p : Pln) (gs : List Int) (e : Ending) (w' : World) : Prop := ∃ vs, e = .returned (.agg #[vc, vs]) ∧ OwnStg w' w.heap.size vs (wgs p gs).st ∧ Below w.heap.size w w'

set_option maxHeartbeats 8000000 in
set_option maxRecDepth 100000 in
theorem spec_withGreens (w : World) (lo lo' : Nat) (vc vs vg : Value) (p : Pln) (gs : List Int) (hp : PlanR w lo (.agg #[vc, vs]) p) (hg : Ints w lo' vg gs) (hval : validP p = true) (hl : gs.length = p.st.length) :
    Calls Try.prog 60 #[.agg #[vc, vs], vg] w (WgRet w vc p gs) := by
  obtain ⟨vc', vs', e, hc, hs⟩ := hp
  cases e
  obtain ⟨_, h1, h5, _⟩ := validP_iff.1 hval
  obtain ⟨ao, cap, rfl, hcap, hm⟩ := hs.form
  obtain ⟨aoc, capc, rfl, hcapc, hmc⟩ := hc.form
  obtain ⟨ag, capg, rfl, hcapg, hmg⟩ := hg.form
  rw [hl] at hcapg ⊢
  obtain ⟨b, off, rfl, _, hb, hx⟩ := hs.spot (by omega)
  have hgs : ∃ bg og, ag = some ⟨bg, og, none⟩ ∧ bg < w.heap.size ∧ ∀ i, i < p.st.length → w.cell? ⟨bg, og + i, none⟩ = some (.int .i64 (gs.getD i 0)) := by
    obtain ⟨bg, og, e, _, hbg, hxg⟩ := hg.spot 0 (by omega)
    exact ⟨bg, og, e, hbg, fun i hi => hxg i (by omega)⟩
  obtain ⟨bg, og, rfl, hbg, hxg⟩ := hgs
  obtain ⟨w1, hw1, hB1, x0, x1, hz1⟩ := plan_box w (.slice aoc p.cl.length capc) (.slice (some ⟨b, off, none⟩) p.st.length cap)
  have hs1 : w1.heap.size = w.heap.size + 1 := by rw [hw1]; simp
  have hX2 := Own.made w1 [.slice none 0 0, .slice none 0 0] 26 w.heap.size 2 1 rfl (by omega) (by decide)
  obtain ⟨w2, hw2⟩ : ∃ x, x = w1.alloc (.cells #[.slice none 0 0, .slice none 0 0] 26) := ⟨_, rfl⟩
  rw [show (w1.alloc (Obj.cells [Value.slice none 0 0, Value.slice none 0 0].toArray 26)) = w2 from hw2.symm, hs1] at hX2
  have hB2 : Below w1.heap.size w1 w2 := by rw [hw2]; exact (Below.refl _ _).alloc (Nat.le_refl _) _
  have hs2 : w2.heap.size = w.heap.size + 2 := by rw [hw2]; simp [hs1]
  obtain ⟨w3, hw3⟩ : ∃ x, x = w2.alloc (.cells #[] 34) := ⟨_, rfl⟩
  have hB3 : Below w2.heap.size w2 w3 := by rw [hw3]; exact (Below.refl _ _).alloc (Nat.le_refl _) _
  have hs3 : w3.heap.size = w.heap.size + 3 := by rw [hw3]; simp [hs2]
  have hB13 := hB2.trans (hB3.mono hB2.size)
  have y0 := (hB13.cell (p := ⟨w.heap.size, 0, none⟩) hz1).trans x0
  have y1 := (hB13.cell (p := ⟨w.heap.size, 1, none⟩) hz1).trans x1
  have HX3 := Lib.hid (hX2.below hB3 (Nat.le_refl _))
  have HT3 := Lib.hid (hB1.trans (hB13.mono hB1.size))
  have HK : Hid (∀ W, Below w3.heap.size w3 W → W.cell? ⟨w.heap.size, 0, none⟩ = some (.slice aoc p.cl.length capc) ∧ W.cell? ⟨w.heap.size, 1, none⟩ = some (.slice (some ⟨b, off, none⟩) p.st.length cap)) := fun W h => ⟨(h.cell (p := ⟨w.heap.size, 0, none⟩) (by show w.heap.size < w3.heap.size; omega)).trans y0, (h.cell (p := ⟨w.heap.size, 1, none⟩) (by show w.heap.size < w3.heap.size; omega)).trans y1⟩
  have HX := Lib.hid hx
  have HXG := Lib.hid hxg
  have HW1 := Lib.hid hw1
  have HW2 := Lib.hid hw2
  have HW3 := Lib.hid hw3
  have HS3 := Lib.hid hs3
  have HV := Lib.hid hval
  clear hX2 hB2 hB3 hB13 hB1 hs1 hs2 hs3 hw1 hw2 hw3 hc hs hg hx hxg x0 x1 y0 y1 hval
  go_enter Try.func60, Try.ntmps60
  go_wp2_with fail
  rw [← HW1.out, ← HW2.out, ← HW3.out]
  clear HW1 HW2 HW3
  go_loopw [5, 6] (fun sv i wo => ∃ j : Nat, j ≤ p.st.length ∧ i = .int .i64 j ∧ OwnStg wo (w.heap.size + 3) sv (wst p gs j) ∧ Below w3.heap.size w3 wo) (fun _ i _ => p.st.length - (intOf i).toNat)
  case atStart => exact ⟨0, Nat.zero_le _, rfl, ⟨[], .inr ⟨rfl, rfl, _, rfl⟩, RowsO.nil _ _ _, fun j hj => absurd hj (Nat.not_lt_zero _)⟩, Below.refl _ _⟩
  case round =>
    obtain ⟨j, hj, rfl, hO, hB⟩ := hrel
    have hT := HT3.out.trans (hB.mono HT3.out.size)
    obtain ⟨u0, u1⟩ := HK.out _ hB
    have hsz := hB.size
    rw [HS3.out] at hsz
    by_cases hlt : j < p.st.length
    · obtain ⟨_, ai, ci, g0, hIj⟩ := HX.out j hlt
      have c0 := (hT.cell (p := ⟨b, off + j * 2, none⟩) hb).trans g0
      have c1 := (hT.cell (p := ⟨bg, og + j, none⟩) hbg).trans (HXG.out j hlt)
      have hsu := wst_succ p gs j
      have hp8 := ph8 HV.out hlt
      obtain ⟨ph, hph⟩ : ∃ ph, ph = (p.st.getD j s0).ph := ⟨_, rfl⟩
      obtain ⟨gr, hgr⟩ : ∃ gr, gr = gs.getD j 0 := ⟨_, rfl⟩
      rw [← hph] at c0 hIj hsu hp8
      rw [← hgr] at c1 hsu
      have HSU := Lib.hid hsu
      have HI := Lib.hid ((Rd.below hIj hT (Nat.le_refl _) (by decide) : Ints wr lo _ _).mono (Nat.zero_le _))
      have HCG := Lib.hid (HXG.out j hlt)
      rw [← hgr] at HCG
      have KA : Hid (∀ W, Below w3.heap.size w3 W → W.cell? ⟨w.heap.size, 1, none⟩ = some (.slice (some ⟨b, off, none⟩) p.st.length cap) ∧ W.cell? ⟨b, off + j * 2, none⟩ = some (.slice ai ph.length ci) ∧ W.cell? ⟨bg, og + j, none⟩ = some (.int .i64 gr)) := fun W h => ⟨(HK.out W h).2, ((HT3.out.trans (h.mono HT3.out.size)).cell (p := ⟨b, off + j * 2, none⟩) hb).trans (by rw [hph]; exact g0), ((HT3.out.trans (h.mono HT3.out.size)).cell (p := ⟨bg, og + j, none⟩) hbg).trans HCG.out⟩
      have j0 : (0 : Int) ≤ (j : Int) := by omega
      have j1 : (j : Int) < (p.st.length : Int) := by omega
      obtain ⟨hs, hO1, hR1, hA1⟩ := hO
      rw [wst_len] at hO1 hR1 hA1
      have HO1 := Lib.hid hO1
      have HR1 := Lib.hid hR1
      have HA1 := Lib.hid hA1
      clear g0 hIj hph hgr hsu hO1 hR1 hA1 hT
      go_wp2_with fail
      go_region_held3 (fun w' => w'.cell? ⟨w.heap.size, 1, none⟩ = some (.slice (some ⟨b, off, none⟩) p.st.length cap) ∧ w'.cell? ⟨b, off + j * 2, none⟩ = some (.slice ai ph.length ci) ∧ w'.cell? ⟨bg, og + j, none⟩ = some (.int .i64 gr))
        (first | exact KA.out _ hB6 | exact KA.out _ (hB5.alloc hB5.size _) | exact KA.out _ hB5 | exact KA.out _ hB | exact KA.out _ (hB.trans ((Below.drew (Below.refl wr.heap.size wr)).mono hB.size)) | go_keep | assumption)
        ((first
          | (go_at_call 59; refine (copyInts_any _ _ ph (Rd.below HI.out (Below.drew (Below.refl wr.heap.size wr)) (Nat.le_refl _) (by decide)) (by omega)).mono ?_; rintro e w5 ⟨v5, rfl, hO5, hB5'⟩; obtain ⟨a5, c5, rfl, _, _⟩ := hO5.form; have hBr : Below wr.heap.size wr w5 := (Below.drew (Below.refl wr.heap.size wr)).trans hB5'; have hB5 : Below w3.heap.size w3 w5 := hB.trans (hBr.mono hB.size); have hO5w := HO1.out.below hBr (Nat.le_refl _); have hz5 : w.heap.size + 3 ≤ w5.heap.size := Nat.le_trans hsz hBr.size)
          | (refine step_append_OwnW _ (by rfl) _ _ 24 (by rfl) 34 (.agg #[.slice none 0 0, .int .i64 0]) 2 32 Try.underlying24 info_stg rfl (by omega) (w.heap.size + 3) _ _ _ (by rfl) hO5w [.slice a5 ph.length c5, .int .i64 gr] rfl _ w5.heap.size (by rfl) rfl (by simp; exact ⟨rfl, rfl⟩) (by omega) (by omega) hz5 ?_; intro v' w6 hO6 hg6 hk6; have hB6 : Below w3.heap.size w3 w6 := hB5.trans (below_of_grownBy hg6 hB5.size (fun k hk => by have := (hO5w.wblk hk).1; have := HS3.out; omega)))))
      have HF : Hid (OwnStg w6 (w.heap.size + 3) v' (wst p gs (j + 1))) := by
        unfold Hid
        rw [HSU.out]
        exact stg_app (s := ⟨ph, gr⟩) (by rw [wst_len]; exact HO1.out) (by rw [wst_len]; exact HR1.out) (by rw [wst_len]; exact HA1.out) hBr hO5 hsz (by rw [wst_len]; exact hO6) hg6 hk6
      clear hO6 hg6 hk6 hO5w hO5 hBr hB5'
      go_wp2
      go_roundw
      case rel => exact ⟨j + 1, by omega, by go_num, HF.out, hB6⟩
      case measure => simp [intOf]; omega
    · obtain rfl : j = p.st.length := by omega
      obtain ⟨a9, c9, rfl, _, _⟩ := hO.stg.form
      rw [wst_len]
      have hX9 : Own wr w.heap.size 26 2 (.slice (some ⟨w.heap.size + 1, 0, none⟩) 1 1) 1 _ := HX3.out.below hB (Nat.le_refl _)
      obtain ⟨_, e1, _, z9, p9, f9, _⟩ := hX9.parts (by omega)
      cases e1
      have r0 := p9 0 (by simp)
      have r1 := p9 1 (by simp)
      have fr0 := f9 0
      have fr1 := f9 1
      simp only [List.getElem_cons_zero, List.getElem_cons_succ] at r0 r1
      have HF : Hid (∀ x1 x2 : Value, OwnStg ((wr.setCell ⟨w.heap.size + 1, 0, none⟩ x1).setCell ⟨w.heap.size + 1, 1, none⟩ x2) w.heap.size (.slice a9 p.st.length c9) (wgs p gs).st ∧ Below w.heap.size w ((wr.setCell ⟨w.heap.size + 1, 0, none⟩ x1).setCell ⟨w.heap.size + 1, 1, none⟩ x2)) := by
        intro x1 x2
        have hO' : OwnStg wr (w.heap.size + 3) (.slice a9 p.st.length c9) (wgs p gs).st := by rw [wst_len] at hO; rw [← wst_all]; exact hO
        have one : ∀ (W : World) (o : Nat) (u : Value), (OwnStg W (w.heap.size + 3) (.slice a9 p.st.length c9) (wgs p gs).st ∧ Below w.heap.size w W) → (OwnStg (W.setCell ⟨w.heap.size + 1, o, none⟩ u) (w.heap.size + 3) (.slice a9 p.st.length c9) (wgs p gs).st ∧ Below w.heap.size w (W.setCell ⟨w.heap.size + 1, o, none⟩ u)) := by
          intro W o u ⟨a, c⟩
          have hg : W.grownBy (W.setCell ⟨w.heap.size + 1, o, none⟩ u) (some (w.heap.size + 1)) := cell_grown (b' := w.heap.size + 1) u o
          exact ⟨a.grown hg (fun q hq => by cases hq; omega), c.setCell (by show w.heap.size ≤ w.heap.size + 1; omega) u⟩
        have := one _ 1 x2 (one _ 0 x1 ⟨hO', hT⟩)
        exact ⟨this.1.mono (by omega), this.2⟩
      clear p9 f9 hX9 hO
      go_wp2_with fail
      exact bodyPost_ret (v := .agg #[.slice aoc p.cl.length capc, .slice a9 p.st.length c9]) (by simp [results, Try.results60, go_sem, r0, r1, fr0, fr1]) rfl ⟨_, rfl, (HF.out _ _).1, (HF.out _ _).2⟩
end Go.Proofs.Ytokpgipbgkiepaa
