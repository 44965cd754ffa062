/- ParseStages: the program's. -/
import Derived.Test.YtpaioaknppgggaaGreatDoorTx16
namespace Go.Proofs.YtpaioaknppgggaaGreatDoor
open Go Go.RowKit Go.Shelf
set_option linter.unusedVariables false
set_option linter.unusedSimpArgs false
attribute [local go_sem] Oper.semAt_some

theorem keepsO_below {W W' : World} (h : Below W.heap.size W W') : KeepsOthers W W' :=
  ⟨h.size, fun k o hk _ => (h.block k (Array.getElem?_eq_some_iff.1 hk).1).trans hk⟩
theorem keepsO_own {W W' : World} {v : Value} {lo e sz n : Nat} {cs : List Value} (hO : Own W lo e sz v n cs) (hg : W.grownBy W' (wblk v)) : KeepsOthers W W' :=
  ⟨hg.size, fun k o hk hc => (hg.block k (Array.getElem?_eq_some_iff.1 hk).1 (fun e => by
    obtain ⟨o', ho', hc'⟩ := own_cells hO e.symm
    rw [hk] at ho'; cases ho'; rw [hc] at hc'; cases hc')).trans hk⟩
theorem keepsO_set (W : World) (g : Nat) (u : Value) : KeepsOthers W (W.setCell ⟨g, 0, none⟩ u) := KeepsOthers.setCell _ _ _
theorem parI_next {n0 : Nat} {w : World} {pre : List Wd} {x : Wd} {W W1 W2 W4 : World} {ss : List Stg} {v v' hdr : Value} {hs : List Value} {st : Stg}
    (p1 : parseL (pre.map (·.1)) = some ss) (p2 : ss.length = pre.length) (p5 : pre.length < 5) (hbL : W.heap[n0 + 2]? = some (.cells #[v] 42 (0, 0)))
    (hO : Own W (n0 + 6) 85 2 v ss.length (stgCells hs ss)) (hR : RowsO W (n0 + 6) hs (phsOf ss) ss.length) (hA : ∀ j, j < ss.length → Apart v (hs.getD j .nilFunc))
    (hb0 : W.heap[n0]? = some (.cells #[.slice none 0 0] 42 (0, 0))) (hb1 : W.heap[n0 + 1]? = some (.cells #[.bool false] 4 (0, 0))) (hB : Below n0 w W) (hz : n0 + 6 ≤ W.heap.size)
    (hp : parseI x.1 = some st) (hB1 : Below W.heap.size W W1) (hU : Own W1 W.heap.size 3 1 hdr st.ph.length (st.ph.map (Value.int .i64))) (hB2 : Below W1.heap.size W1 W2)
    (hO4 : Own W4 (n0 + 6) 85 2 v' (ss.length + 1) (stgCells hs ss ++ [hdr, .int .i64 st.gr])) (hg : W2.grownBy W4 (wblk v)) (hk : ∀ k, wblk v' = some k → wblk v = some k ∨ W2.heap.size ≤ k) :
    KeepsOthers W (W4.setCell ⟨n0 + 1 + 1, 0, none⟩ v') ∧ KpB (n0 + 3) W (W4.setCell ⟨n0 + 1 + 1, 0, none⟩ v') ∧ ParI n0 w (pre ++ [x]) (W4.setCell ⟨n0 + 1 + 1, 0, none⟩ v') := by
  have hB12 : Below W.heap.size W W2 := hB1.trans (hB2.mono hB1.size)
  have hO2 := hO.below hB12 (Nat.le_refl _)
  have vb : ∀ k, wblk v = some k → n0 + 6 ≤ k ∧ k < W.heap.size := fun k h => hO.wblk h
  have blk : ∀ k, k < n0 + 6 → k ≠ n0 + 2 → (W4.setCell ⟨n0 + 1 + 1, 0, none⟩ v').heap[k]? = W.heap[k]? := fun k h1 h2 => by
    rw [Below.heap_setCell _ _ _ _ (by simp only; omega), hg.block k (by have := hB12.size; omega) (fun e => by have := vb k e.symm; omega)]
    exact hB12.block k (by omega)
  have hRc : RowsO W (n0 + 6) hs (phsOf (ss ++ [st])) ss.length := RowsO.congT hR (fun j hj => phsOf_snoc_ltT hj)
  have hR1 : RowsO W1 (n0 + 6) (hs ++ [hdr]) (phsOf (ss ++ [st])) (ss.length + 1) := RowsO.snoc hRc hB1 (by rw [phsOf_snoc_eqT]; exact hU) hz
  have hR2 := hR1.below hB2 (Nat.le_refl _)
  have hA2 : ∀ j, j < ss.length + 1 → Apart v ((hs ++ [hdr]).getD j .nilFunc) := by
    intro j hj
    by_cases e : j = ss.length
    · subst e
      rw [← hR.1, getD_snoc_eq]
      intro q hq hq'
      have h1 := (vb q hq).2
      have h2 := (hU.wblk hq').1
      omega
    · rw [getD_snoc_lt (by rw [hR.1]; omega)]; exact hA j (by omega)
  have hR4 := hR2.grown hg (fun q hq => .inr (fun j hj e => hA2 j hj q hq e))
  have hA4 : ∀ j, j < ss.length + 1 → Apart v' ((hs ++ [hdr]).getD j .nilFunc) := by
    intro j hj q hq hq'
    rcases hk q hq with h | h
    · exact hA2 j hj q h hq'
    · have := (hR2.lt hj hq').2; omega
  have hsz4 : W.heap.size ≤ W4.heap.size := Nat.le_trans hB12.size hg.size
  have hb2 : W4.heap[n0 + 2]? = some (.cells #[v] 42 (0, 0)) := by
    rw [hg.block (n0 + 2) (by have := hB12.size; omega) (fun e => by have := vb _ e.symm; omega), hB12.block (n0 + 2) (by omega)]; exact hbL
  refine ⟨?_, fun k hk' => blk k (by omega) (by omega), ss ++ [st], v', hs ++ [hdr], ⟨?_, by simp [p2], by simp; omega⟩, box1_set hb2 v', ⟨?_, ?_, ?_⟩, (blk n0 (by omega) (by omega)).trans hb0, (blk (n0 + 1) (by omega) (by omega)).trans hb1, ?_, by simp [World.setCell]; omega⟩
  · exact ((keepsO_below hB12).trans (keepsO_own hO2 hg)).trans (keepsO_set _ _ _)
  · rw [List.map_append, List.map_cons, List.map_nil, parseL_snoc, p1, hp]
  · rw [stgCells_snocT (by rw [hR.1])]
    have := hO4.grown (cell_grown (b' := n0 + 1 + 1) v' 0) (fun k e => .inl (by cases e; show n0 + 1 + 1 < n0 + 6; omega))
    simpa using this
  · have := hR4.grown (cell_grown (b' := n0 + 1 + 1) v' 0) (fun k e => .inl (by cases e; show n0 + 1 + 1 < n0 + 6; omega))
    simpa using this
  · intro j hj; exact hA4 j (by simpa using hj)
  · exact ((hB.trans (hB12.mono (by omega))).grown hg (by have := hB12.size; omega) (fun k e => by have := vb k e; omega)).setCell (by simp only; omega) _
theorem ownStg_done {W : World} {lo g1 g2 D : Nat} {v : Value} {ss : List Stg} (h : OwnStg W lo v ss) (h1 : g1 < lo) (h2 : g2 < lo) (hD : W.heap[D]? = some (.deferred (some []))) (u1 u2 : Value) :
    OwnStg (((W.setCell ⟨g1, 0, none⟩ u1).setCell ⟨g2, 0, none⟩ u2).putObj D (.deferred none)) lo v ss := by
  obtain ⟨hs, a, b, c⟩ := h
  have nc : ∀ (u : Value) (e sz n : Nat) (cs : List Value), Own W lo e sz u n cs → wblk u ≠ some D := fun u e sz n cs hO hw => by
    obtain ⟨o', ho', hc'⟩ := own_cells hO hw
    rw [hD] at ho'; cases ho'; cases hc'
  refine ⟨hs, ?_, ?_, c⟩
  · exact ((a.grown_w (cell_grown (b' := g1) u1 0) (fun k e => .inl (by cases e; exact h1))).grown_w (cell_grown (b' := g2) u2 0) (fun k e => .inl (by cases e; exact h2))).grown_w (grownBy_putObj' _ D (.deferred none)) (fun k e => .inr (by cases e; exact nc _ _ _ _ _ a))
  · exact ((b.grown (cell_grown (b' := g1) u1 0) (fun k e => .inl (by cases e; exact h1))).grown (cell_grown (b' := g2) u2 0) (fun k e => .inl (by cases e; exact h2))).grown (grownBy_putObj' _ D (.deferred none)) (fun k e => .inr (by cases e; exact fun j hj => nc _ _ _ _ _ (b.2.1 j hj)))
def ParRet (l : List UInt8) (w : World) (e : Ending) (w' : World) : Prop :=
  ∃ (v : Value) (ok : Bool), e = .returned (.tuple #[v, .bool ok]) ∧ ((ok = true ∧ ∃ ss, parseO l = some ss ∧ OwnStg w' w.heap.size v ss) ∨ (ok = false ∧ parseO l = none ∧ v = .slice none 0 0)) ∧ Below w.heap.size w w'

set_option maxRecDepth 100000 in
set_option maxHeartbeats 16000000 in
theorem impl_parse (w : World) (S : ByteArray) (l : List UInt8) (hS : Str8 S l) (hl : l.length ≤ 1000000000) :
    Calls Tryz.prog 59 #[.string S] w (ParRet l w) := by
  obtain ⟨n0, hn0⟩ : ∃ n0, n0 = w.heap.size := ⟨_, rfl⟩
  obtain ⟨w3, hw3⟩ : ∃ w3, w3 = ((w.alloc (.cells #[.slice none 0 0] 42)).alloc (.cells #[.bool false] 4)).alloc (.cells #[.slice none 0 0] 42) := ⟨_, rfl⟩
  have hz3 : w3.heap.size = n0 + 3 := by rw [hw3, hn0]; simp
  have hB3 : Below n0 w w3 := by rw [hw3, hn0]; exact (((Below.refl _ _).alloc (Nat.le_refl _) _).alloc (by simp) _).alloc (by simp; omega) _
  have a0 : w3.heap[n0]? = some (.cells #[.slice none 0 0] 42 (0, 0)) := by
    rw [hw3, hn0, Below.heap_alloc _ _ _ (by simp; omega), Below.heap_alloc _ _ _ (by simp)]; exact heap_alloc_new w _
  have a1 : w3.heap[n0 + 1]? = some (.cells #[.bool false] 4 (0, 0)) := by
    rw [hw3, hn0, Below.heap_alloc _ _ _ (by simp)]
    have := heap_alloc_new (w.alloc (.cells #[.slice none 0 0] 42)) (.cells #[.bool false] 4)
    rwa [World.size_alloc] at this
  have a2 : w3.heap[n0 + 2]? = some (.cells #[.slice none 0 0] 42 (0, 0)) := by
    rw [hw3, hn0]
    have := heap_alloc_new ((w.alloc (.cells #[.slice none 0 0] 42)).alloc (.cells #[.bool false] 4)) (.cells #[.slice none 0 0] 42)
    rwa [World.size_alloc, World.size_alloc] at this
  obtain ⟨w6, hw6⟩ : ∃ w6, w6 = ((w3.alloc (.cells #[.string S] 9)).alloc (.cells #[.string ⟨#[32]⟩] 9)).alloc (.cells #[.int .i64 0] 3) := ⟨_, rfl⟩
  have hz6 : w6.heap.size = n0 + 6 := by rw [hw6]; simp [hz3]
  have hB6 : Below w3.heap.size w3 w6 := by rw [hw6]; exact (((Below.refl _ _).alloc (Nat.le_refl _) _).alloc (by simp) _).alloc (by simp; omega) _
  have b0 : w6.heap[n0 + 3]? = some (.cells #[.string S] 9 (0, 0)) := by
    rw [hw6, ← hz3, Below.heap_alloc _ _ _ (by simp; omega), Below.heap_alloc _ _ _ (by simp)]; exact heap_alloc_new w3 _
  have b1 : w6.heap[n0 + 3 + 1]? = some (.cells #[.string ⟨#[32]⟩] 9 (0, 0)) := by
    rw [hw6, ← hz3, Below.heap_alloc _ _ _ (by simp)]
    have := heap_alloc_new (w3.alloc (.cells #[.string S] 9)) (.cells #[.string ⟨#[32]⟩] 9)
    rwa [World.size_alloc] at this
  have b2 : w6.heap[n0 + 3 + 2]? = some (.cells #[.int .i64 0] 3 (0, 0)) := by
    rw [hw6, ← hz3]
    have := heap_alloc_new ((w3.alloc (.cells #[.string S] 9)).alloc (.cells #[.string ⟨#[32]⟩] 9)) (.cells #[.int .i64 0] 3)
    rwa [World.size_alloc, World.size_alloc] at this
  have hI0 : ParI n0 w [] w6 := ⟨[], .slice none 0 0, [], ⟨rfl, rfl, by simp⟩, (hB6.block _ (by omega)).trans a2, ⟨Own.nil _ _ _ _, RowsO.nil _ _ _, fun j hj => by simp at hj⟩, (hB6.block _ (by omega)).trans a0, (hB6.block _ (by omega)).trans a1, hB3.trans (hB6.mono (by omega)), by omega⟩
  have HI0 := Lib.hid hI0
  have HS := Lib.hid hS
  have HBB := Lib.hid (And.intro b0 (And.intro b1 b2))
  have HN := Lib.hid hn0
  have HW3 := Lib.hid hw3
  have HW6 := Lib.hid hw6
  clear hI0 a0 a1 a2 b0 b1 b2 hB3 hB6 hS hw3 hw6 hn0
  refine (callsIn_wide (n := 8)).1 ?_
  refine callsIn_of_wp_marks Tryz.func59 rfl trivial ?_ rfl
  simp only [Tryz.ntmps59, List.size_toArray, List.length_cons, List.length_nil, Nat.reduceAdd, Nat.reduceSub, Array.replicate_succ, Array.replicate_zero, List.push_toArray, List.append_toArray, List.nil_append, List.cons_append]
  gi_wp2_with (refine ⟨trivial, ?_⟩; gi_at_call 81; rw [← HW3.out]; refine (callsIn_wide.2 (splitSeq_any w3 S)).mono ?_; rintro e w' ⟨rfl, hw'⟩; rw [← HW6.out] at hw'; subst hw'; rw [hz3, ← HN.out])
  obtain ⟨Sx, hSx⟩ : ∃ Sx, Sx = S := ⟨_, rfl⟩
  refine wpIn_rangeX rfl (by omega) (gf := 122) (lb := #[.pointer (some ⟨n0 + 3 + 1, 0, none⟩), .pointer (some ⟨n0 + 3, 0, none⟩), .pointer (some ⟨n0 + 3 + 2, 0, none⟩)]) rfl trivial (enters_of Tryz.func122 (by kernel_rfl) rfl)
    (bx := n0 + 3) (by omega) (seq_stops 7 (n0 + 3) l hl (by omega) w' S HS.out HBB.out.1 HBB.out.2.1 HBB.out.2.2)
    (fun h k q hq => (k q hq).trans (h q hq)) (fun W lp o o' hlp ho h1 h2 k hk => World.putObj_heap_other (by omega)) (Below.refl _ _) (fun _ => rfl)
    (ParI n0 w) (ParX n0 w) (by rw [hz6]; exact parI_own HN.out) (fun c => by rw [hz6]; exact parX_own HN.out c) HI0.out
    (fun x => { tmps := #[.string S, undef, .pointer (some ⟨n0, 0, none⟩), .pointer (some ⟨n0 + 1, 0, none⟩), .pointer (some ⟨n0 + 1 + 1, 0, none⟩), .string ⟨x.1.toArray⟩, undef, undef, .string S, .func (.func 122) #[] #[.pointer (some ⟨n0 + 3 + 1, 0, none⟩), .pointer (some ⟨n0 + 3, 0, none⟩), .pointer (some ⟨n0 + 3 + 2, 0, none⟩)], .string ⟨x.1.toArray⟩, undef, undef, undef, undef, undef, undef, undef, undef, undef, undef, undef, undef, undef, undef, undef, undef, undef], defers := [] }) ?assign ?body ?done ?stop
  case assign =>
    intro lp x W K hK
    unfold wdV
    gi_wp2
    exact hK
  case body =>
    rintro lp pre x W ⟨ss, v, hs, ⟨p1, p2, p3⟩, hbL, ⟨hO, hR, hA⟩, hb0, hb1, hB, hz⟩ _
    obtain ⟨ao, cap, rfl, hcap, hcm⟩ := hO.form
    have HPN := Lib.hid (And.intro p1 (And.intro p2 p3))
    have HO := Lib.hid hO
    have HRA := Lib.hid (And.intro hR hA)
    have HB := Lib.hid (And.intro hbL (And.intro hb0 (And.intro hb1 hB)))
    have hss5 : ss.length ≤ 5 := by omega
    clear p1 p2 p3 hO hR hA hbL hb0 hb1 hB
    gi_wp2_with fail
    refine ⟨trivial, ?_⟩
    gi_at_call 82
    refine (CallsIn.inRound lp (callsIn_wide.2 (impl_parseStage _ _ x.1 rfl x.2))).mono ?_
    rintro e W1 ⟨hdr, gr, ok, rfl, hcase, hB1⟩
    have bk : ∀ k, k < n0 + 6 → (W1.alloc (.cells #[hdr, .int .i64 gr] 85)).heap[k]? = W.heap[k]? := fun k hk => by
      rw [Below.heap_alloc _ _ _ (by have := hB1.size; omega)]; exact hB1.block k (by omega)
    have eL := (bk (n0 + 2) (by omega)).trans HB.out.1
    have e0 := (bk n0 (by omega)).trans HB.out.2.1
    have e1 := (bk (n0 + 1) (by omega)).trans HB.out.2.2.1
    obtain ⟨cL, fL, _⟩ := box1 eL
    obtain ⟨c0, f0, _⟩ := box1 e0
    obtain ⟨c1, f1, _⟩ := box1 e1
    have HX : Hid (parseI x.1 = none ∨ 5 = ss.length → ∀ u t, KeepsOthers W (((W1.alloc (.cells #[hdr, .int .i64 gr] 85)).setCell ⟨n0, 0, none⟩ u).setCell ⟨n0 + 1, 0, none⟩ t)) := fun _ u t => (((keepsO_below hB1).trans (KeepsOthers.alloc _ _)).trans (keepsO_set _ _ _)).trans (keepsO_set _ _ _)
    have HXP : Hid (parseI x.1 = none ∨ 5 = ss.length → ParX n0 w .ret (pre ++ [x]) (((W1.alloc (.cells #[hdr, .int .i64 gr] 85)).setCell ⟨n0, 0, none⟩ (.slice none 0 0)).setCell ⟨n0 + 1, 0, none⟩ (.bool false))) := fun h => by
      refine ⟨rfl, ?_, box1_far (box1_set e0 _) (by omega) _, box1_set (box1_far e1 (by omega) _) _, ?_, ?_⟩
      · rcases h with h | h
        · left; rw [List.map_append, List.map_cons, List.map_nil, parseL_snoc, h]; cases parseL (pre.map (·.1)) <;> rfl
        · right; have := HPN.out.2.1; simp; omega
      · exact (((HB.out.2.2.2.trans (hB1.mono (by omega))).alloc (by have := hB1.size; omega) _).setCell (Nat.le_refl _) _).setCell (by simp only; omega) _
      · have := hB1.size; simp [World.setCell]; omega
    have HE := Lib.hid eL
    clear eL e0 e1 bk
    rcases hcase with ⟨rfl, st, hp, rfl, hU⟩ | ⟨rfl, hp, rfl, rfl⟩
    · obtain ⟨bo, cap1, rfl, hcap1, hcm1⟩ := hU.form
      by_cases h5 : ss.length = 5
      · have d5 : ((ss.length : Int) == 5) = true := by rw [h5]; rfl
        gi_wp2
        exact ⟨HX.out (.inr h5.symm) _ _, HXP.out (.inr h5.symm)⟩
      · have d5 : ((ss.length : Int) == 5) = false := by simp; omega
        have HB2 : Hid (Below W1.heap.size W1 (W1.alloc (.cells #[.slice bo st.ph.length cap1, .int .i64 st.gr] 85))) := (Below.refl _ _).alloc (Nat.le_refl _) _
        have HB1 := Lib.hid hB1
        have HO2 := Lib.hid (HO.out.below (HB1.out.trans (HB2.out.mono HB1.out.size)) (Nat.le_refl _))
        have HU := Lib.hid hU
        have hsz := hB1.size
        have HV : Hid (wblk (.slice ao ss.length cap) ≠ some (n0 + 2)) := fun h => by have := HO.out.wblk h; omega
        clear hB1 hU
        gi_wp2_with (
          gi_at_builtin
          refine wpListIn_append_stg _ rfl _ _ 42 rfl 85 Tryz.underlying42 info_stg (n0+6) _ _ _ rfl HO2.out _ _ _ _ rfl (by simp) rfl rfl (by omega) (by omega) (by rw [World.size_alloc]; omega) ?_
          intro v' w7 hO7 hg7 hk7
          obtain ⟨ao7, cap7, rfl, _, _⟩ := hO7.form
          have eL7 := (hg7.block (n0 + 2) (by rw [World.size_alloc]; omega) HV.out.symm).trans HE.out
          have HO7 := Lib.hid hO7
          have HG7 := Lib.hid hg7
          have HK7 := Lib.hid hk7
          obtain ⟨cL7, fL7, _⟩ := box1 eL7
          clear hO7 hg7 hk7 eL7)
        exact parI_next HPN.out.1 HPN.out.2.1 (by have := HPN.out.2.1; omega) HB.out.1 HO.out HRA.out.1 HRA.out.2 HB.out.2.1 HB.out.2.2.1 HB.out.2.2.2 hz hp HB1.out HU.out HB2.out HO7.out HG7.out HK7.out
    · gi_wp2
      exact ⟨HX.out (.inl hp) _ _, HXP.out (.inl hp)⟩
  case done =>
    rintro D xs W hD hxs ⟨ss, v, hs, ⟨p1, p2, p3⟩, hbL, ⟨hO, hR, hA⟩, hb0, hb1, hB, hz⟩ hdef
    obtain ⟨ao, cap, rfl, hcap, hcm⟩ := hO.form
    obtain ⟨cL, fL, _⟩ := box1 hbL
    obtain ⟨c0, f0, _⟩ := box1 hb0
    obtain ⟨c1, f1, _⟩ := box1 hb1
    have HDN := Lib.hid (And.intro hxs (And.intro p1 (And.intro p2 p3)))
    have HBL := Lib.hid (And.intro hbL (And.intro hb0 (And.intro hb1 (And.intro hB hdef))))
    have HON := Lib.hid (And.intro hO (And.intro hR hA))
    clear hxs p1 p2 p3 hbL hO hR hA hb0 hb1 hB hdef
    gi_wp2
    have d6 : n0 + 6 ≤ D := by rw [← hz6]; exact hD
    have hK' := (Below.heap_setCell (W.setCell ⟨n0, 0, none⟩ (.slice ao ss.length cap)) ⟨n0 + 1, 0, none⟩ (.bool true) D (by show D ≠ n0 + 1; omega)).trans ((Below.heap_setCell W ⟨n0, 0, none⟩ (.slice ao ss.length cap) D (by show D ≠ n0; omega)).trans HBL.out.2.2.2.2)
    refine ⟨by simp, .inl ⟨_, _, rfl, run_takeDeferred hK', ?_⟩⟩
    have r0 := (box1 (box1_far (box1_set HBL.out.2.1 (.slice ao ss.length cap)) (b := n0 + 1) (by omega) (.bool true))).1
    have r1 := (box1 (box1_set (box1_far HBL.out.2.2.1 (b := n0) (by omega) (.slice ao ss.length cap)) (.bool true))).1
    have q0 := cell_kept r0 (grownBy_putObj' _ D (.deferred none)) (fun r e => by cases e; exact ⟨_, hK', rfl⟩)
    have q1 := cell_kept r1 (grownBy_putObj' _ D (.deferred none)) (fun r e => by cases e; exact ⟨_, hK', rfl⟩)
    refine ⟨.tuple #[.slice ao ss.length cap, .bool true], ?_, .slice ao ss.length cap, true, rfl, .inl ⟨rfl, ss, ?_, ?_⟩, ?_⟩
    · simp [results, Tryz.func59, go_sem, q0, q1]
    · unfold parseO
      have e1 := HDN.out.1
      unfold SeqS at e1
      rw [← e1, List.length_map, if_pos HDN.out.2.2.2]
      exact HDN.out.2.1
    · rw [← HN.out]
      exact OwnStg.mono (ownStg_done ⟨hs, HON.out.1, HON.out.2.1, HON.out.2.2⟩ (by omega) (by omega) HBL.out.2.2.2.2 _ _) (by omega)
    · rw [← HN.out]
      exact ((HBL.out.2.2.2.1.setCell (Nat.le_refl _) _).setCell (by show n0 ≤ n0 + 1; omega) _).grown (grownBy_putObj' _ D (.deferred none)) (Nat.le_trans (Nat.le_add_right n0 6) (by simpa [World.setCell] using hz)) (fun k e => by cases e; omega)
  case stop =>
    rintro D c pre W hD ⟨_, hpre⟩ ⟨rfl, hbad, hb0, hb1, hB, hz⟩ hK'
    have d6 : n0 + 6 ≤ D := by rw [← hz6]; exact hD
    have q0 := cell_kept (box1 hb0).1 (grownBy_putObj' _ D (.deferred none)) (fun r e => by cases e; exact ⟨_, hK', rfl⟩)
    have q1 := cell_kept (box1 hb1).1 (grownBy_putObj' _ D (.deferred none)) (fun r e => by cases e; exact ⟨_, hK', rfl⟩)
    gi_wp2
    refine ⟨by simp, .inl ⟨_, _, rfl, run_takeDeferred hK', ?_⟩⟩
    refine ⟨.tuple #[.slice none 0 0, .bool false], ?_, .slice none 0 0, false, rfl, .inr ⟨rfl, bad_none hpre hbad, rfl⟩, ?_⟩
    · simp [results, Tryz.func59, go_sem, q0, q1]
    · rw [← HN.out]
      exact hB.grown (grownBy_putObj' _ D (.deferred none)) (Nat.le_trans (Nat.le_add_right n0 6) hz) (fun k e => by cases e; omega)
end Go.Proofs.YtpaioaknppgggaaGreatDoor
