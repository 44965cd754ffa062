/- withGreens: the program's. -/
import Derived.Test.YtokpgipbgkiepaaGr2
import Derived.Test.YtokpgipbgkiepaaCp1
namespace Go.Proofs.Ytokpgipbgkiepaa
open Go.RowKit
set_option linter.unusedVariables false
set_option linter.unusedSimpArgs false

/-- One row more. -/
theorem ss_app {w0 w1 w' : World} {lo : Nat} {v v' u : Value} {hs : List Value} {t : List (List Int)} {k : Nat} (h1 : Own w0 lo 27 1 v k hs) (h2 : RowsO w0 lo hs t k) (h3 : ∀ j, j < k → Apart v (hs.getD j .nilFunc)) (hb : Below w0.heap.size w0 w1) (hu : Own w1 w0.heap.size 3 1 u (t.getD k []).length ((t.getD k []).map (.int .i64))) (hlo : lo ≤ w0.heap.size)
    (hg : w1.grownBy w' (wblk v)) (hk : ∀ q, wblk v' = some q → wblk v = some q ∨ w1.heap.size ≤ q) :
    RowsO w' lo (hs ++ [u]) t (k + 1) ∧ ∀ j, j < k + 1 → Apart v' ((hs ++ [u]).getD j .nilFunc) := by
  have h4 := h2.snoc hb hu hlo
  have hA : ∀ j, j < k + 1 → Apart v ((hs ++ [u]).getD j .nilFunc) := by
    intro j hj
    by_cases e : j = k
    · subst e
      rw [← h2.1, getD_snoc_eq]
      intro q hq hq'
      have := (h1.wblk hq).2; have := (hu.wblk hq').1; omega
    · rw [getD_snoc_lt (by rw [h2.1]; omega)]; exact h3 j (by omega)
  refine ⟨h4.grown hg (fun q hq => .inr (fun j hj e => hA j hj q hq e)), fun j hj q hq hq' => ?_⟩
  rcases hk q hq with h | h
  · exact hA j hj q h hq'
  · have := (h4.lt hj hq').2; omega
theorem Own.same {w w' : World} {lo : Nat} {e : TypeId} {sz : Nat} {v : Value} {n : Nat} {cs : List Value} (h : Own w lo e sz v n cs) (hb : ∀ g, v.ownBlock = some g → w'.heap[g]? = w.heap[g]?) : Own w' lo e sz v n cs := by
  rcases h with ⟨h1, h | ⟨g, cap, cur, rfl, h2, h3, h4⟩⟩ | h
  · exact .inl ⟨h1, .inl h⟩
  · exact .inl ⟨h1, .inr ⟨g, cap, cur, rfl, h2, by rw [hb g rfl]; exact h3, h4⟩⟩
  · exact .inr h
/-- What the first loop keeps: the rows made so far, and the variable that holds them. -/
structure WgC (w wo : World) (p : Pln) (v : Value) (j : Nat) : Prop where
  ex : ∃ hs, Own wo (w.heap.size + 3) 27 1 v j hs ∧ RowsO wo (w.heap.size + 3) hs p.cl j ∧ ∀ q, q < j → Apart v (hs.getD q .nilFunc)
  box : Own wo w.heap.size 26 2 (.slice (some ⟨w.heap.size + 2, 0, none⟩) 1 1) 1 [v, .slice none 0 0]
  sz : w.heap.size + 3 ≤ wo.heap.size

set_option maxHeartbeats 16000000 in
set_option maxRecDepth 100000 in
theorem plan_withGreens (w : World) (lo lo' : Nat) (vp vg : Value) (p : Pln) (gs : List Int) (hp : PlanR w lo vp p) (hg : Ints w lo' vg gs) (hval : validP p = true) (hl : gs.length = p.st.length) :
    Calls Try.prog 56 #[vp, vg] w (PlanRet w (wgs p gs)) := by
  obtain ⟨vc, vs, rfl, hc, hs⟩ := hp
  obtain ⟨hvc, h1, h5, _⟩ := validP_iff.1 hval
  obtain ⟨hn1, hn8, hrow, _⟩ := validCl_iff.1 hvc
  obtain ⟨ao, cap, rfl, hcap, hm⟩ := hs.form
  obtain ⟨aoc, capc, rfl, hcapc, hmc⟩ := hc.form
  obtain ⟨ag, capg, rfl, hcapg, hmg⟩ := hg.form
  rw [hl] at hcapg ⊢
  obtain ⟨b, off, rfl, _, hb, hx⟩ := hs.spot (by omega)
  obtain ⟨bc, offc, rfl, _, hbc, hxc⟩ := hc.spot (by omega)
  have hgs : ∃ bg og, ag = some ⟨bg, og, none⟩ ∧ bg < w.heap.size ∧ ∀ i, i < p.st.length → w.cell? ⟨bg, og + i, none⟩ = some (.int .i64 (gs.getD i 0)) := by
    obtain ⟨bg, og, e, _, hbg, hxg⟩ := hg.spot 0 (by omega)
    exact ⟨bg, og, e, hbg, fun i hi => hxg i (by omega)⟩
  obtain ⟨bg, og, rfl, hbg, hxg⟩ := hgs
  obtain ⟨w1, hw1, hB1, x0, x1, hz1⟩ := plan_box w (.slice (some ⟨bc, offc, none⟩) p.cl.length capc) (.slice (some ⟨b, off, none⟩) p.st.length cap)
  have hs1 : w1.heap.size = w.heap.size + 1 := by rw [hw1]; simp
  have hX2 := Own.made w1 [.slice none 0 0, .slice none 0 0] 26 w.heap.size 2 1 rfl (by omega) (by decide)
  obtain ⟨w2, hw2⟩ : ∃ x, x = w1.alloc (.cells #[.slice none 0 0, .slice none 0 0] 26) := ⟨_, rfl⟩
  have hB2 : Below w1.heap.size w1 w2 := by rw [hw2]; exact (Below.refl _ _).alloc (Nat.le_refl _) _
  have hs2 : w2.heap.size = w.heap.size + 2 := by rw [hw2]; simp [hs1]
  have hX3 := Own.made w2 [.slice none 0 0, .slice none 0 0] 26 w.heap.size 2 1 rfl (by omega) (by decide)
  obtain ⟨w3, hw3⟩ : ∃ x, x = w2.alloc (.cells #[.slice none 0 0, .slice none 0 0] 26) := ⟨_, rfl⟩
  have hB3 : Below w2.heap.size w2 w3 := by rw [hw3]; exact (Below.refl _ _).alloc (Nat.le_refl _) _
  have hs3 : w3.heap.size = w.heap.size + 3 := by rw [hw3]; simp [hs2]
  rw [show (w1.alloc (Obj.cells [Value.slice none 0 0, Value.slice none 0 0].toArray 26)) = w2 from hw2.symm, hs1] at hX2
  rw [show (w2.alloc (Obj.cells [Value.slice none 0 0, Value.slice none 0 0].toArray 26)) = w3 from hw3.symm, hs2] at hX3
  have hB13 := hB2.trans (hB3.mono hB2.size)
  have y0 := (hB13.cell (p := ⟨w.heap.size, 0, none⟩) hz1).trans x0
  have y1 := (hB13.cell (p := ⟨w.heap.size, 1, none⟩) hz1).trans x1
  have HR3 := Lib.hid (hX2.below hB3 (Nat.le_refl _))
  have HC3 := Lib.hid hX3
  have HT3 := Lib.hid (hB1.trans (hB13.mono hB1.size))
  have HK : Hid (∀ W, Below (w.heap.size + 2) w3 W → W.cell? ⟨w.heap.size, 0, none⟩ = some (.slice (some ⟨bc, offc, none⟩) p.cl.length capc) ∧ W.cell? ⟨w.heap.size, 1, none⟩ = some (.slice (some ⟨b, off, none⟩) p.st.length cap)) := fun W h => ⟨(h.cell (p := ⟨w.heap.size, 0, none⟩) (by show w.heap.size < w.heap.size + 2; omega)).trans y0, (h.cell (p := ⟨w.heap.size, 1, none⟩) (by show w.heap.size < w.heap.size + 2; omega)).trans y1⟩
  have HX := Lib.hid hx
  have HXC := Lib.hid hxc
  have HXG := Lib.hid hxg
  have HW1 := Lib.hid hw1
  have HW2 := Lib.hid hw2
  have HW3 := Lib.hid hw3
  have HS3 := Lib.hid hs3
  have HV := Lib.hid hval
  have HROW : Hid (∀ j, j < p.cl.length → (p.cl.getD j []).length ≤ 8) := fun j hj => by rw [(rowOk_iff.1 (hrow j hj)).1]; exact hn8
  clear hX2 hX3 hB2 hB3 hB13 hB1 hs1 hs2 hs3 hw1 hw2 hw3 hc hs hg hx hxc hxg x0 x1 y0 y1 hval hvc hrow
  go_enter Try.func56, Try.ntmps56
  go_wp2_with fail
  rw [← HW1.out, ← HW2.out, ← HW3.out]
  clear HW1 HW2 HW3
  go_loopw [13] (fun i wo => ∃ j : Nat, ∃ v, j ≤ p.cl.length ∧ i = .int .i64 j ∧ WgC w wo p v j ∧ Below (w.heap.size + 2) w3 wo) (fun i _ => p.cl.length - (intOf i).toNat)
  case atStart => exact ⟨0, .slice none 0 0, Nat.zero_le _, rfl, ⟨⟨[], Own.nil _ _ _ _, RowsO.nil _ _ _, fun j hj => absurd hj (Nat.not_lt_zero _)⟩, HC3.out, by rw [HS3.out]; exact Nat.le_refl _⟩, Below.refl _ _⟩
  case round =>
    obtain ⟨j, v, hj, rfl, hC, hB⟩ := hrel
    have hT := HT3.out.trans (hB.mono (by omega))
    obtain ⟨u0, u1⟩ := HK.out _ hB
    have hsz := hC.sz
    by_cases hlt : j < p.cl.length
    · obtain ⟨ai, ci, g0, hIj⟩ := HXC.out j hlt
      have c0 := (hT.cell (p := ⟨bc, offc + j, none⟩) hbc).trans g0
      have hr8 := HROW.out j hlt
      obtain ⟨row, hrw⟩ : ∃ row, row = p.cl.getD j [] := ⟨_, rfl⟩
      rw [← hrw] at c0 hIj hr8
      have HRW := Lib.hid hrw
      have HI := Lib.hid (Rd.below hIj hT (Nat.le_refl _) (by decide) : Ints wr lo _ row)
      obtain ⟨hs, hO1, hR1, hA1⟩ := hC.ex
      obtain ⟨av, cv, rfl, _, _⟩ := hO1.form
      obtain ⟨_, e1, _, zb, pb, fb, _⟩ := hC.box.parts (by omega)
      cases e1
      have k0 := pb 0 (by simp)
      have f0 := fb 0
      simp only [List.getElem_cons_zero] at k0
      have HO1 := Lib.hid hO1
      have HR1 := Lib.hid hR1
      have HA1 := Lib.hid hA1
      have HC := Lib.hid hC
      have HBX := Lib.hid hC.box
      have j0 : (0 : Int) ≤ (j : Int) := by omega
      have j1 : (j : Int) < (p.cl.length : Int) := by omega
      clear g0 hIj hrw hO1 hR1 hA1 hC pb fb hT
      go_wp2_with fail
      go_region_law ((first
        | (go_simp; go_at_call 76; refine (clone_any _ lo _ row (Rd.below HI.out (Below.drew (Below.refl wr.heap.size wr)) (Nat.le_refl _) (by decide)) (by omega)).mono ?_; rintro e w5 ⟨v5, rfl, hO5, hB5'⟩; obtain ⟨a5, c5, rfl, _, _⟩ := hO5.form; have hBr : Below wr.heap.size wr w5 := (Below.drew (Below.refl wr.heap.size wr)).trans hB5'; have hO5w := HO1.out.below hBr (Nat.le_refl _); have hz5 : w.heap.size + 3 ≤ w5.heap.size := Nat.le_trans hsz hBr.size; have hbx := HBX.out.below hBr (Nat.le_refl _); obtain ⟨_, e1, _, zb5, pb, fb, _⟩ := hbx.parts (by omega); cases e1; have k5 := pb 0 (by simp); have f5 := fb 0; simp only [List.getElem_cons_zero] at k5; have HBX5 := Lib.hid hbx; clear hbx pb fb)
        | (refine step_append_OwnW _ (by rfl) _ _ 23 (by rfl) 27 (.slice none 0 0) 1 24 Try.underlying23 info_intsl rfl (by omega) (w.heap.size + 3) _ _ _ (by rfl) hO5w [.slice a5 row.length c5] rfl _ w5.heap.size (by rfl) rfl (by simp; rfl) (by omega) (by omega) hz5 ?_; intro v' w6 hO6 hg6 hk6; obtain ⟨a6, c6, rfl, _, _⟩ := hO6.form; have hbx6 := HBX5.out.grown hg6 (fun q hq => .inr (fun e => by have := (hO5w.wblk hq).1; simp [Value.ownBlock] at e; omega)); obtain ⟨_, e1, _, zb6, pb, fb, _⟩ := hbx6.parts (by omega); cases e1; have k6 := pb 0 (by simp); have f6 := fb 0; simp only [List.getElem_cons_zero] at k6; have HBX6 := Lib.hid hbx6; clear hbx6 pb fb)))
      all_goals
        have HF : Hid (WgC w (w6.setCell ⟨w.heap.size + 2, 0, none⟩ (.slice a6 (j + 1) c6)) p (.slice a6 (j + 1) c6) (j + 1) ∧ Below (w.heap.size + 2) w3 (w6.setCell ⟨w.heap.size + 2, 0, none⟩ (.slice a6 (j + 1) c6))) := by
          obtain ⟨hS, hgS⟩ := HBX6.out.store (by omega) 0 (.slice a6 (j + 1) c6)
          have hA := ss_app (u := .slice a5 row.length c5) HO1.out HR1.out HA1.out hBr (by rw [← HRW.out]; exact hO5) hsz hg6 hk6
          have hz6 : w.heap.size + 3 ≤ w6.heap.size := Nat.le_trans hz5 hg6.size
          refine ⟨⟨⟨hs ++ [.slice a5 row.length c5], hO6.grown hgS (fun q hq => .inl (by cases hq; omega)), hA.1.grown hgS (fun q hq => .inl (by cases hq; omega)), hA.2⟩, hS, by simp [World.setCell]; omega⟩, ?_⟩
          refine ((hB.trans (hBr.mono (by omega))).trans (below_of_grownBy hg6 (B := w.heap.size + 2) (by omega) (fun k hk => by have := (hO5w.wblk hk).1; omega))).setCell (p := ⟨w.heap.size + 2, 0, none⟩) (Nat.le_refl _) _
        clear hO6 hg6 hk6 hO5w hO5 hBr hB5' hB
        go_wp2
        go_roundw
        case rel => exact ⟨j + 1, _, by omega, by go_num, HF.out.1, HF.out.2⟩
        case measure => simp [intOf]; omega
    · obtain rfl : j = p.cl.length := by omega
      obtain ⟨hs, hO1, hR1, hA1⟩ := hC.ex
      obtain ⟨av, cv, rfl, _, _⟩ := hO1.form
      have HSS : Hid (OwnSSh wr (w.heap.size + 3) wr.heap.size (.slice av p.cl.length cv) p.cl) := OwnSS.up ⟨hs, hO1, hR1, hA1⟩
      have HBX := Lib.hid hC.box
      have HBr := Lib.hid hB
      obtain ⟨wm, hwm⟩ : ∃ wm, wm = wr := ⟨_, rfl⟩
      rw [← hwm] at HSS HBX hsz HBr
      have HWM := Lib.hid hwm
      clear hO1 hR1 hA1 hC hB hwm hT
      go_wp2_with fail
      go_loopw [28] (fun i wo => ∃ j : Nat, ∃ v, j ≤ p.st.length ∧ i = .int .i64 j ∧ OwnSSh wo (w.heap.size + 3) wm.heap.size (.slice av p.cl.length cv) p.cl ∧ OwnStg wo wm.heap.size v (wst p gs j) ∧ Own wo w.heap.size 26 2 (.slice (some ⟨w.heap.size + 2, 0, none⟩) 1 1) 1 [.slice av p.cl.length cv, v] ∧ wm.heap.size ≤ wo.heap.size ∧ Below (w.heap.size + 2) w3 wo) (fun i _ => p.st.length - (intOf i).toNat)
      case atStart => exact ⟨0, .slice none 0 0, Nat.zero_le _, rfl, by rw [← HWM.out]; exact HSS.out, ⟨[], Own.nil _ _ _ _, RowsO.nil _ _ _, fun j hj => absurd hj (Nat.not_lt_zero _)⟩, by rw [← HWM.out]; exact HBX.out, by rw [← HWM.out]; exact Nat.le_refl _, by rw [← HWM.out]; exact HBr.out⟩
      case round =>
        clear u0 u1
        obtain ⟨j, v, hj, rfl, hSS, hSt, hBx, hzm, hB⟩ := hrel
        have hT := HT3.out.trans (hB.mono (by omega))
        obtain ⟨u0, u1⟩ := HK.out _ hB
        by_cases hlt : j < p.st.length
        · obtain ⟨g1, ai, ci, g0, hIj⟩ := HX.out j hlt
          have c0 := (hT.cell (p := ⟨b, off + j * 2, none⟩) hb).trans g0
          have c1 := (hT.cell (p := ⟨b, off + j * 2 + 1, none⟩) hb).trans g1
          have cg := (hT.cell (p := ⟨bg, og + j, none⟩) hbg).trans (HXG.out j hlt)
          have hsu := wst_succ p gs j
          have hp8 := ph8 HV.out hlt
          obtain ⟨ph, hph⟩ : ∃ ph, ph = (p.st.getD j s0).ph := ⟨_, rfl⟩
          obtain ⟨go, hgo⟩ : ∃ go, go = (p.st.getD j s0).gr := ⟨_, rfl⟩
          obtain ⟨gr, hgr⟩ : ∃ gr, gr = gs.getD j 0 := ⟨_, rfl⟩
          rw [← hph] at c0 hIj hsu hp8
          rw [← hgo] at c1
          rw [← hgr] at cg hsu
          have HSU := Lib.hid hsu
          have hX4 := Own.made wr [.slice ai ph.length ci, .int .i64 go] 34 wr.heap.size 2 1 rfl (Nat.le_refl _) (by decide)
          obtain ⟨w4, hw4⟩ : ∃ x, x = wr.alloc (.cells #[.slice ai ph.length ci, .int .i64 go] 34) := ⟨_, rfl⟩
          rw [show (wr.alloc (Obj.cells [Value.slice ai ph.length ci, Value.int IntKind.i64 go].toArray 34)) = w4 from hw4.symm] at hX4
          have hB4 : Below wr.heap.size wr w4 := by rw [hw4]; exact (Below.refl _ _).alloc (Nat.le_refl _) _
          obtain ⟨_, e1, _, zs, ps, _, _⟩ := hX4.parts (by omega)
          cases e1
          have s4 := ps 0 (by simp)
          simp only [List.getElem_cons_zero] at s4
          have HSS4 := Lib.hid (hSS.below hB4 (Nat.le_refl _))
          have hBx4 := hBx.below hB4 (Nat.le_refl _)
          obtain ⟨_, e1, _, zb, pb, fb, _⟩ := hBx4.parts (by omega)
          cases e1
          have k4 := pb 1 (by simp)
          have f4 := fb 1
          simp only [List.getElem_cons_zero, List.getElem_cons_succ] at k4
          obtain ⟨hs, hO1, hR1, hA1⟩ := hSt.below hB4 (Nat.le_refl _)
          rw [wst_len] at hO1 hR1 hA1
          obtain ⟨av2, cv2, rfl, _, _⟩ := hO1.form
          have HI := Lib.hid (Rd.below (Rd.below hIj hT (Nat.le_refl _) (by decide) : Ints wr lo _ ph) hB4 (Nat.le_refl _) (by decide) : Ints w4 lo _ ph)
          have hbg4 : bg < w4.heap.size := by have := hT.size; have := hB4.size; omega
          have cg4 := (hB4.cell (p := ⟨bg, og + j, none⟩) (by have := hT.size; show bg < wr.heap.size; omega)).trans cg
          have hz4 : wm.heap.size ≤ w4.heap.size := Nat.le_trans hzm hB4.size
          have HO1 := Lib.hid hO1
          have HR1 := Lib.hid hR1
          have HA1 := Lib.hid hA1
          have HBX4 := Lib.hid hBx4
          have HB4 := Lib.hid (hB.trans (hB4.mono (by have := hB.size; omega)))
          have HW4 := Lib.hid hw4
          have j0 : (0 : Int) ≤ (j : Int) := by omega
          have j1 : (j : Int) < (p.st.length : Int) := by omega
          clear g0 g1 hIj hph hgo hgr hsu hO1 hR1 hA1 hX4 hSS hSt hBx hBx4 ps pb fb hT hB hB4 hw4 cg
          go_wp2_with fail
          rw [← HW4.out]
          clear HW4 c0 c1 u0 u1
          go_region_law ((first
            | (go_simp; go_at_call 76; refine (clone_any _ lo _ ph (Rd.below HI.out (Below.drew (Below.refl w4.heap.size w4)) (Nat.le_refl _) (by decide)) (by omega)).mono ?_; rintro e w5 ⟨v5, rfl, hO5, hB5'⟩; obtain ⟨a5, c5, rfl, _, _⟩ := hO5.form; have hBr : Below w4.heap.size w4 w5 := (Below.drew (Below.refl w4.heap.size w4)).trans hB5'; have hO5w := HO1.out.below hBr (Nat.le_refl _); have hz5 : wm.heap.size ≤ w5.heap.size := Nat.le_trans hz4 hBr.size; have cg5 := (hBr.cell (p := ⟨bg, og + j, none⟩) hbg4).trans cg4; have hbx := HBX4.out.below hBr (Nat.le_refl _); obtain ⟨_, e1, _, zb5, pb, fb, _⟩ := hbx.parts (by omega); cases e1; have k5 := pb 1 (by simp); have f5 := fb 1; simp only [List.getElem_cons_zero, List.getElem_cons_succ] at k5; have HBX5 := Lib.hid hbx; clear hbx pb fb)
            | (refine step_append_OwnW _ (by rfl) _ _ 24 (by rfl) 34 (.agg #[.slice none 0 0, .int .i64 0]) 2 32 Try.underlying24 info_stg rfl (by omega) wm.heap.size _ _ _ (by rfl) hO5w [.slice a5 ph.length c5, .int .i64 gr] rfl _ w5.heap.size (by rfl) rfl (by simp; exact ⟨rfl, rfl⟩) (by omega) (by omega) hz5 ?_; intro v' w6 hO6 hg6 hk6; obtain ⟨a6, c6, rfl, _, _⟩ := hO6.form; have hbx6 := HBX5.out.grown hg6 (fun q hq => .inr (fun e => by have := (hO5w.wblk hq).1; simp [Value.ownBlock] at e; omega)); obtain ⟨_, e1, _, zb6, pb, fb, _⟩ := hbx6.parts (by omega); cases e1; have k6 := pb 1 (by simp); have f6 := fb 1; simp only [List.getElem_cons_zero, List.getElem_cons_succ] at k6; have HBX6 := Lib.hid hbx6; clear hbx6 pb fb)))
          all_goals
            have HF : Hid (OwnSSh (w6.setCell ⟨w.heap.size + 2, 1, none⟩ (.slice a6 (j + 1) c6)) (w.heap.size + 3) wm.heap.size (.slice av p.cl.length cv) p.cl ∧ OwnStg (w6.setCell ⟨w.heap.size + 2, 1, none⟩ (.slice a6 (j + 1) c6)) wm.heap.size (.slice a6 (j + 1) c6) (wst p gs (j + 1)) ∧
                Own (w6.setCell ⟨w.heap.size + 2, 1, none⟩ (.slice a6 (j + 1) c6)) w.heap.size 26 2 (.slice (some ⟨w.heap.size + 2, 0, none⟩) 1 1) 1 [.slice av p.cl.length cv, .slice a6 (j + 1) c6] ∧ wm.heap.size ≤ (w6.setCell ⟨w.heap.size + 2, 1, none⟩ (.slice a6 (j + 1) c6)).heap.size ∧ Below (w.heap.size + 2) w3 (w6.setCell ⟨w.heap.size + 2, 1, none⟩ (.slice a6 (j + 1) c6))) := by
              obtain ⟨hS, hgS⟩ := HBX6.out.store (by omega) 1 (.slice a6 (j + 1) c6)
              have hA := stg_app (u := .slice a5 ph.length c5) (s := ⟨ph, gr⟩) (ss := wst p gs j) (v' := .slice a6 (j + 1) c6) (w' := w6) (by rw [wst_len]; exact HO1.out) (by rw [wst_len]; exact HR1.out) (by rw [wst_len]; exact HA1.out) hBr hO5 hz4 (by rw [wst_len]; exact hO6) hg6 hk6
              have hz6 : wm.heap.size ≤ w6.heap.size := Nat.le_trans hz5 hg6.size
              refine ⟨((HSS4.out.below hBr (Nat.le_refl _)).grown hg6 (fun q hq => .inr (hO5w.wblk hq).1)).grown hgS (fun q hq => .inl (by cases hq; omega)), ?_, hS, by simp [World.setCell]; exact hz6, ?_⟩
              · rw [HSU.out]; exact hA.grown hgS (fun q hq => by cases hq; omega)
              · exact ((HB4.out.trans (hBr.mono (by have := HB4.out.size; omega))).trans (below_of_grownBy hg6 (B := w.heap.size + 2) (by omega) (fun k hk => by have := (hO5w.wblk hk).1; omega))).setCell (p := ⟨w.heap.size + 2, 1, none⟩) (Nat.le_refl _) _
            clear hO6 hg6 hk6 hO5w hO5 hBr hB5' cg5 cg4 s4
            go_wp2
            go_roundw
            case rel => exact ⟨j + 1, _, by omega, by go_num, HF.out.1, HF.out.2.1, HF.out.2.2.1, HF.out.2.2.2.1, HF.out.2.2.2.2⟩
            case measure => simp [intOf]; omega
        · obtain rfl : j = p.st.length := by omega
          obtain ⟨a9, c9, rfl, _, _⟩ := hSt.stg.form
          rw [wst_len] at hBx hSt
          have hR9 : Own wr w.heap.size 26 2 (.slice (some ⟨w.heap.size + 1, 0, none⟩) 1 1) 1 _ := HR3.out.same (fun g hg => by cases hg; exact hB.block (w.heap.size + 1) (by omega))
          obtain ⟨_, e1, _, z9, p9, f9, _⟩ := hR9.parts (by omega)
          cases e1
          have r0 := p9 0 (by simp)
          have r1 := p9 1 (by simp)
          have fr0 := f9 0
          have fr1 := f9 1
          simp only [List.getElem_cons_zero, List.getElem_cons_succ] at r0 r1
          obtain ⟨_, e1, _, zb, pb, _, _⟩ := hBx.parts (by omega)
          cases e1
          have k0 := pb 0 (by simp)
          have k1 := pb 1 (by simp)
          simp only [List.getElem_cons_zero, List.getElem_cons_succ] at k0 k1
          have HF : Hid (∀ x1 x2 : Value, PlanO ((wr.setCell ⟨w.heap.size + 1, 0, none⟩ x1).setCell ⟨w.heap.size + 1, 1, none⟩ x2) w.heap.size (.agg #[.slice av p.cl.length cv, .slice a9 p.st.length c9]) (wgs p gs) ∧ Below w.heap.size w ((wr.setCell ⟨w.heap.size + 1, 0, none⟩ x1).setCell ⟨w.heap.size + 1, 1, none⟩ x2)) := by
            intro x1 x2
            have hO' : OwnStg wr wm.heap.size (.slice a9 p.st.length c9) (wgs p gs).st := by rw [← wst_all]; exact hSt
            have one : ∀ (W : World) (o : Nat) (u : Value), (OwnSSh W (w.heap.size + 3) wm.heap.size (.slice av p.cl.length cv) p.cl ∧ OwnStg W wm.heap.size (.slice a9 p.st.length c9) (wgs p gs).st ∧ Below w.heap.size w W) → (OwnSSh (W.setCell ⟨w.heap.size + 1, o, none⟩ u) (w.heap.size + 3) wm.heap.size (.slice av p.cl.length cv) p.cl ∧ OwnStg (W.setCell ⟨w.heap.size + 1, o, none⟩ u) wm.heap.size (.slice a9 p.st.length c9) (wgs p gs).st ∧ Below w.heap.size w (W.setCell ⟨w.heap.size + 1, o, none⟩ u)) := by
              intro W o u ⟨a, a2, c⟩
              have hg : W.grownBy (W.setCell ⟨w.heap.size + 1, o, none⟩ u) (some (w.heap.size + 1)) := cell_grown (b' := w.heap.size + 1) u o
              exact ⟨a.grown hg (fun q hq => .inl (by cases hq; omega)), a2.grown hg (fun q hq => by cases hq; omega), c.setCell (by show w.heap.size ≤ w.heap.size + 1; omega) u⟩
            have := one _ 1 x2 (one _ 0 x1 ⟨hSS, hO', hT⟩)
            exact ⟨⟨_, _, wm.heap.size, rfl, by omega, this.1.mono (by omega), this.2.1⟩, this.2.2⟩
          clear p9 f9 hR9 pb hSS hSt hBx hT hB
          go_wp2_with fail
          exact bodyPost_ret (v := .agg #[.slice av p.cl.length cv, .slice a9 p.st.length c9]) (by simp [results, Try.results56, go_sem, k0, k1, r0, r1, fr0, fr1]) rfl ⟨_, rfl, (HF.out _ _).1, (HF.out _ _).2⟩
end Go.Proofs.Ytokpgipbgkiepaa
