/- What the loop of ParseStages keeps. -/
import Derived.Test.YtpaioaknppgggaaGreatDoorTx15
namespace Go.Proofs.YtpaioaknppgggaaGreatDoor
open Go Go.RowKit
set_option linter.unusedVariables false
set_option linter.unusedSimpArgs false

theorem stgCells_snocT {hs : List Value} {ss : List Stg} (hl : hs.length = ss.length) (u : Value) (s : Stg) : stgCells (hs ++ [u]) (ss ++ [s]) = stgCells hs ss ++ [u, .int .i64 s.gr] := by
  unfold stgCells
  rw [List.length_append, List.length_singleton, List.range_succ, List.flatMap_append]
  congr 1
  · unfold List.flatMap
    congr 1
    apply List.map_congr_left
    intro i hi
    have hi' := List.mem_range.1 hi
    rw [getD_snoc_lt (by omega)]
    simp [List.getD_eq_getElem?_getD, List.getElem?_append_left hi']
  · simp [List.getD_eq_getElem?_getD, ← hl]
theorem phsOf_snoc_ltT {ss : List Stg} {s : Stg} {j : Nat} (h : j < ss.length) : (phsOf (ss ++ [s])).getD j [] = (phsOf ss).getD j [] := by
  unfold phsOf
  rw [List.map_append]
  simp [List.getD_eq_getElem?_getD, List.getElem?_append_left (show j < (ss.map Stg.ph).length by simpa using h), h]
theorem phsOf_snoc_eqT (ss : List Stg) (s : Stg) : (phsOf (ss ++ [s])).getD ss.length [] = s.ph := by
  simp [phsOf, List.getD_eq_getElem?_getD]
theorem RowsO.congT {w : World} {lo : Nat} {hs : List Value} {t t' : List (List Int)} {k : Nat} (h : RowsO w lo hs t k) (ht : ∀ j, j < k → t'.getD j [] = t.getD j []) : RowsO w lo hs t' k :=
  ⟨h.1, fun j hj => by rw [ht j hj]; exact h.2.1 j hj, h.2.2⟩

theorem RowsO.snoc2T {w : World} {lo B : Nat} {hs : List Value} {t : List (List Int)} {k : Nat} {u : Value} (h : RowsO w lo hs t k) (hlt : ∀ j, j < k → ∀ q, wblk (hs.getD j .nilFunc) = some q → q < B) (hO : Own w B 3 1 u (t.getD k []).length ((t.getD k []).map (.int .i64))) (hlo : lo ≤ B) :
    RowsO w lo (hs ++ [u]) t (k + 1) := by
  have old : ∀ j, j < k → (hs ++ [u]).getD j .nilFunc = hs.getD j .nilFunc := fun j hj => getD_snoc_lt (by rw [h.1]; exact hj)
  have new : (hs ++ [u]).getD k .nilFunc = u := by rw [← h.1]; exact getD_snoc_eq hs u
  refine ⟨by simp [h.1], fun j hj => ?_, fun i j hi hj hij => ?_⟩
  · by_cases e : j = k
    · subst e; rw [new]; exact hO.mono hlo
    · rw [old j (by omega)]; exact h.2.1 j (by omega)
  · have key : ∀ j, j < k → Apart u (hs.getD j .nilFunc) := fun j hj q hq hq' => by
      have := (hO.wblk hq).1; have := hlt j hj q hq'; omega
    by_cases ei : i = k
    · subst ei; rw [new, old j (by omega)]; exact key j (by omega)
    · by_cases ej : j = k
      · subst ej; rw [new, old i (by omega)]; exact (key i (by omega)).symm
      · rw [old i (by omega), old j (by omega)]; exact h.2.2 i j (by omega) (by omega) hij
theorem IntSS.grown {w w' : World} {lo : Nat} {v : Value} {t : List (List Int)} {row : Option Nat} (h : IntSS w lo v t) (hg : w.grownBy w' row) (hr : ∀ q, row = some q → q < lo) : IntSS w' lo v t := by
  obtain ⟨hs, h1, h2⟩ := h
  exact ⟨hs, h1.grown hg (fun q hq => .inl (hr q hq)) (by decide), fun i hi => Rd.grown (h2 i hi) hg (fun q hq => .inl (hr q hq)) (by decide)⟩
theorem StgS.grown {w w' : World} {lo : Nat} {v : Value} {t : List Stg} {row : Option Nat} (h : StgS w lo v t) (hg : w.grownBy w' row) (hr : ∀ q, row = some q → q < lo) : StgS w' lo v t := by
  obtain ⟨hs, h1, h2⟩ := h
  exact ⟨hs, h1.grown hg (fun q hq => .inl (hr q hq)) (by decide), fun i hi => Rd.grown (h2 i hi) hg (fun q hq => .inl (hr q hq)) (by decide)⟩
theorem PlanR.grown {w w' : World} {lo : Nat} {v : Value} {p : Pln} {row : Option Nat} (h : PlanR w lo v p) (hg : w.grownBy w' row) (hr : ∀ q, row = some q → q < lo) : PlanR w' lo v p := by
  obtain ⟨vc, vs, e, h1, h2⟩ := h; exact ⟨vc, vs, e, h1.grown hg hr, h2.grown hg hr⟩

theorem wpListIn_append_stg {F : Fence} {d : Nat} {P : Program} (w : World) {ops : Array Oper} {rest : List Oper} {o : Oper} {a : Act} {Q : Exit → Act → World → Prop} (hgd : o.guard = none) (s x : Operand) (t : TypeId)
    (hop : o.op = Op.call { callee := Callee.builtin Builtin.append, args := #[s, x], argTypes := #[t, t] })
    (e : TypeId) (ht : P.underlying t = some (.slice e)) (hi : (P.info? e).map (fun i => (i.zero, i.size, i.bytes)) = some (some (.agg #[.slice none 0 0, .int .i64 0]), 2, 32))
    (lo : Nat) (v : Value) (n : Nat) (cs : List Value) (hs : a.eval s = v) (hown : Own w lo e 2 v n cs)
    (u g : Value) (t' : TypeId) (H : Nat) (hxe : a.eval x = .slice (some ⟨H, 0, none⟩) 1 1) (hH : w.heap.size = H) (h1 : u.oneCell' = true) (h2 : g.oneCell' = true)
    (h63 : n + 1 ≤ 9223372036854775807) (hbytes : (n + 1) * 32 ≤ 140737488355328) (hbase : lo ≤ w.heap.size)
    (h : ∀ v' w', Own w' lo e 2 v' (n + 1) (cs ++ [u, g]) → w.grownBy w' (wblk v) → (∀ k, wblk v' = some k → wblk v = some k ∨ w.heap.size ≤ k) → wpListIn F d P ops Q rest (a.put o.dst v') w') :
    wpListIn F d P ops Q (o :: rest) a (w.alloc (.cells #[u, g] t')) := by
  subst hH
  refine wpListIn_plain hgd fun K hK' => ?_
  obtain ⟨i, hi1, hz, hsize, hby⟩ := info_parts hi
  obtain ⟨v', w', hrun, r1, r2, r3⟩ := run_append_Own (P := P) (w.alloc (.cells #[u, g] t')) lo t o.type e i _ 2 32 ht hi1 hz hsize hby rfl (by omega) v n cs (hown.alloc _) (.slice (some ⟨w.heap.size, 0, none⟩) 1 1) 0 1 [u, g] (Rd.made w [u, g] t' 0 2 1 rfl (Nat.zero_le _) (by decide)) (by intro q hq; simp at hq; rcases hq with rfl | rfl <;> assumption) (by unfold maxLen; omega) hbytes (by simp; omega)
  unfold Oper.wpIn
  refine ⟨?_, ?_⟩
  · simp [Oper.about, hop, resolve, Target.leads, Sem.run_pure]
  · rw [Oper.semAt_plain F _ _ (by rw [hop]; intro c hc'; cases hc')]
    simp [execOp, hop, resolve, invoke, builtin, hs, hxe, hrun, Result.andThen]
    have hga := World.grownBy_alloc w (.cells #[u, g] t') none
    refine hK' _ _ (h v' w' r1 ?_ ?_)
    · exact grownBy_trans (row := wblk v) ⟨hga.os, hga.tape, hga.output, hga.size, fun k hk _ => hga.block k hk (fun e => by cases e)⟩ r2 (fun x hx => .inl hx)
    · intro k hk'
      rcases r3 k hk' with h | h
      · exact .inl h
      · right; simp at h; omega

theorem own_cells {W : World} {lo e sz n k : Nat} {v : Value} {cs : List Value} (h : Own W lo e sz v n cs) (hk : wblk v = some k) : ∃ o : Obj, W.heap[k]? = some o ∧ o.isCells = true := by
  rcases h with ⟨_, ⟨rfl, _⟩ | ⟨g, cap, cur, rfl, _, hg, _⟩⟩ | ⟨_, _, ao, rfl⟩
  · simp [wblk] at hk
  · have : g = k := by
      simp only [wblk] at hk
      split at hk
      · cases hk
      · exact Option.some.inj hk
    subst this
    exact ⟨_, hg, rfl⟩
  · rcases ao with _ | a <;> simp [wblk] at hk

/-- The words read so far, as the program's own variables hold them. -/
def ParI (n0 : Nat) (w : World) (pre : List Wd) (W : World) : Prop :=
  ∃ (ss : List Stg) (v : Value) (hs : List Value), (parseL (pre.map (·.1)) = some ss ∧ ss.length = pre.length ∧ pre.length ≤ 5) ∧
    W.heap[n0 + 2]? = some (.cells #[v] 42 (0, 0)) ∧ (Own W (n0 + 6) 85 2 v ss.length (stgCells hs ss) ∧ RowsO W (n0 + 6) hs (phsOf ss) ss.length ∧ ∀ j, j < ss.length → Apart v (hs.getD j .nilFunc)) ∧
    W.heap[n0]? = some (.cells #[.slice none 0 0] 42 (0, 0)) ∧ W.heap[n0 + 1]? = some (.cells #[.bool false] 4 (0, 0)) ∧ Below n0 w W ∧ n0 + 6 ≤ W.heap.size
def ParX (n0 : Nat) (w : World) (c : Code) (pre : List Wd) (W : World) : Prop :=
  c = .ret ∧ (parseL (pre.map (·.1)) = none ∨ 5 < pre.length) ∧ W.heap[n0]? = some (.cells #[.slice none 0 0] 42 (0, 0)) ∧ W.heap[n0 + 1]? = some (.cells #[.bool false] 4 (0, 0)) ∧ Below n0 w W ∧ n0 + 6 ≤ W.heap.size
theorem parI_own {n0 : Nat} {w : World} (hn : n0 = w.heap.size) : OwnX (n0 + 6) (n0 + 3) (ParI n0 w) := by
  intro pre W W' row hI hg hr
  obtain ⟨ss, v, hs, h1, h2, ⟨h3, h4, h5⟩, h6, h7, h8, h9⟩ := hI
  have keep : ∀ k, k < n0 + 3 → W'.heap[k]? = W.heap[k]? := fun k hk => hg.block k (by omega) (fun e => by
    rcases hr k e.symm with h | ⟨h, _⟩ <;> omega)
  have nc : ∀ q, row = some q → ∀ (u : Value) (e sz n : Nat) (cs : List Value), Own W (n0 + 6) e sz u n cs → q < n0 + 6 ∨ wblk u ≠ some q := fun q hq u e sz n cs hO => by
    rcases hr q hq with h | ⟨_, o, ho, hc⟩
    · left; omega
    · right
      intro hw
      obtain ⟨o', ho', hc'⟩ := own_cells hO hw
      rw [ho] at ho'; cases ho'; rw [hc] at hc'; cases hc'
  refine ⟨ss, v, hs, h1, (keep _ (by omega)).trans h2, ⟨h3.grown_w hg (fun q hq => nc q hq _ _ _ _ _ h3), ⟨h4.1, fun j hj => (h4.2.1 j hj).grown_w hg (fun q hq => nc q hq _ _ _ _ _ (h4.2.1 j hj)), h4.2.2⟩, h5⟩, (keep _ (by omega)).trans h6, (keep _ (by omega)).trans h7, h8.grown hg (by omega) (fun k hk => by rcases hr k hk with h | ⟨h, _⟩ <;> omega), Nat.le_trans h9 hg.size⟩
theorem parX_own {n0 : Nat} {w : World} (hn : n0 = w.heap.size) (c : Code) : OwnX (n0 + 6) (n0 + 3) (ParX n0 w c) := by
  intro pre W W' row hI hg hr
  obtain ⟨h1, h2, h6, h7, h8, h9⟩ := hI
  have keep : ∀ k, k < n0 + 3 → W'.heap[k]? = W.heap[k]? := fun k hk => hg.block k (by omega) (fun e => by
    rcases hr k e.symm with h | ⟨h, _⟩ <;> omega)
  exact ⟨h1, h2, (keep _ (by omega)).trans h6, (keep _ (by omega)).trans h7, h8.grown hg (by omega) (fun k hk => by rcases hr k hk with h | ⟨h, _⟩ <;> omega), Nat.le_trans h9 hg.size⟩
theorem parseL_snoc (ws : List (List UInt8)) (x : List UInt8) : parseL (ws ++ [x]) = match parseL ws, parseI x with | some l, some a => some (l ++ [a]) | _, _ => none := by
  induction ws with
  | nil => simp only [List.nil_append, parseL]; cases parseI x <;> rfl
  | cons y ws ih =>
    rw [List.cons_append, parseL, parseL, ih]
    cases parseI y <;> cases parseL ws <;> cases parseI x <;> rfl
theorem parseL_pre {ws vs : List (List UInt8)} (h : ws <+: vs) (hn : parseL ws = none) : parseL vs = none := by
  obtain ⟨t, rfl⟩ := h
  induction ws with
  | nil => simp [parseL] at hn
  | cons y ws ih =>
    rw [parseL] at hn
    rw [List.cons_append, parseL]
    cases hy : parseI y with
    | none => rfl
    | some a =>
      rw [hy] at hn
      cases hw : parseL ws with
      | none => rw [ih hw]
      | some l => rw [hw] at hn; cases hn
theorem bad_none {l : List UInt8} {pre : List Wd} (hp : (pre.map (·.1)) <+: words l) (h : parseL (pre.map (·.1)) = none ∨ 5 < pre.length) : parseO l = none := by
  unfold parseO
  split
  · rename_i h5
    rcases h with h | h
    · exact parseL_pre hp h
    · have := hp.length_le
      rw [List.length_map] at this
      omega
  · rfl
theorem splitSeq_any (w : World) (S : ByteArray) :
    Calls Tryz.prog 81 #[.string S, .string ⟨#[32]⟩] w fun e w' => e = .returned (.func (.func 122) #[] #[.pointer (some ⟨w.heap.size + 1, 0, none⟩), .pointer (some ⟨w.heap.size, 0, none⟩), .pointer (some ⟨w.heap.size + 2, 0, none⟩)]) ∧
      w' = ((w.alloc (.cells #[.string S] 9)).alloc (.cells #[.string ⟨#[32]⟩] 9)).alloc (.cells #[.int .i64 0] 3) := by
  go_enter Tryz.func81, Tryz.ntmps81
  go_wp2
  go_ret
  exact ⟨rfl, rfl⟩
end Go.Proofs.YtpaioaknppgggaaGreatDoor
