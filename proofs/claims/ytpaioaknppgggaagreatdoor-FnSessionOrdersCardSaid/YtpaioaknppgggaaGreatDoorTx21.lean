/- ParseStages: the reference's. -/
import Derived.Test.YtpaioaknppgggaaGreatDoorTx20
namespace Go.Proofs.YtpaioaknppgggaaGreatDoor
open Go.RowKit
set_option linter.unusedVariables false
set_option linter.unusedSimpArgs false

theorem wpList_append_stgT {P : Program} (w : World) {ops : Array Oper} {rest : List Oper} {o : Oper} {a : Act} {Q : Exit → Act → World → Prop} (hgd : o.guard = none) (s x : Operand) (t : TypeId)
    (ho : o.op = .call { callee := .builtin .append, args := #[s, x], argTypes := #[t, t] })
    (e : TypeId) (ht : P.underlying t = some (.slice e)) (hi : (P.info? e).map (fun i => (i.zero, i.size, i.bytes)) = some (some (.agg #[.slice none 0 0, .int .i64 0]), 2, 32))
    (lo : Nat) (v : Value) (n : Nat) (cs : List Value) (hs : a.eval s = v) (hown : Own w lo e 2 v n cs)
    (u g : Value) (t' : TypeId) (H : Nat) (hxe : a.eval x = .slice (some ⟨H, 0, none⟩) 1 1) (hH : w.heap.size = H) (h1 : u.oneCell' = true) (h2 : g.oneCell' = true)
    (h63 : n + 1 ≤ 9223372036854775807) (hbytes : (n + 1) * 32 ≤ 140737488355328) (hbase : lo ≤ w.heap.size)
    (h : ∀ v' w', Own w' lo e 2 v' (n + 1) (cs ++ [u, g]) → w.grownBy w' (wblk v) → (∀ k, wblk v' = some k → wblk v = some k ∨ w.heap.size ≤ k) → wpList P ops Q rest (a.put o.dst v') w') :
    wpList P ops Q (o :: rest) a (w.alloc (.cells #[u, g] t')) := by
  subst hH
  refine wpList_append_Own _ hgd s x t ho e _ 2 32 ht hi rfl (by omega) lo v n cs hs (hown.alloc _) _ 0 1 [u, g] hxe (Rd.made w [u, g] t' 0 2 1 rfl (Nat.zero_le _) (by decide)) (by intro q hq; simp at hq; rcases hq with rfl | rfl <;> assumption) (by unfold maxLen; omega) hbytes (by simp; omega) ?_
  intro v' w' ho' hg hk
  have hga := World.grownBy_alloc w (.cells #[u, g] t') none
  refine h v' w' ho' ?_ ?_
  · exact grownBy_trans (row := wblk v) ⟨hga.os, hga.tape, hga.output, hga.size, fun k hk _ => hga.block k hk (fun e => by cases e)⟩ hg (fun x hx => .inl hx)
  · intro k hk'
    rcases hk k hk' with h | h
    · exact .inl h
    · right; simp at h; omega
def LstO (W : World) (lo : Nat) (v vw : Value) (hs : List Value) (ss : List Stg) (n : Nat) (cs : List Value) : Prop :=
  (Own W lo 85 2 v ss.length (stgCells hs ss) ∧ RowsO W lo hs (phsOf ss) ss.length ∧ ∀ j, j < ss.length → Apart v (hs.getD j .nilFunc)) ∧ Own W lo 9 1 vw n cs ∧ Apart v vw
theorem lst_next {lo n : Nat} {W W1 W2 W4 : World} {ss : List Stg} {v v' hdr vw : Value} {hs cs : List Value} {st : Stg} (h : LstO W lo v vw hs ss n cs) (hz : lo ≤ W.heap.size)
    (hB1 : Below W.heap.size W W1) (hU : Own W1 W.heap.size 3 1 hdr st.ph.length (st.ph.map (Value.int .i64))) (hB2 : Below W1.heap.size W1 W2)
    (hO4 : Own W4 lo 85 2 v' (ss.length + 1) (stgCells hs ss ++ [hdr, .int .i64 st.gr])) (hg : W2.grownBy W4 (wblk v)) (hk : ∀ k, wblk v' = some k → wblk v = some k ∨ W2.heap.size ≤ k) :
    LstO W4 lo v' vw (hs ++ [hdr]) (ss ++ [st]) n cs ∧ Below lo W W4 := by
  obtain ⟨⟨hO, hR, hA⟩, hW, hAw⟩ := h
  have hB12 : Below W.heap.size W W2 := hB1.trans (hB2.mono hB1.size)
  have vb : ∀ k, wblk v = some k → lo ≤ k ∧ k < W.heap.size := fun k h => hO.wblk h
  have hRc : RowsO W lo hs (phsOf (ss ++ [st])) ss.length := RowsO.congT hR (fun j hj => phsOf_snoc_ltT hj)
  have hR1 : RowsO W1 lo (hs ++ [hdr]) (phsOf (ss ++ [st])) (ss.length + 1) := RowsO.snoc hRc hB1 (by rw [phsOf_snoc_eqT]; exact hU) hz
  have hR2 := hR1.below hB2 (Nat.le_refl _)
  have hA2 : ∀ j, j < ss.length + 1 → Apart v ((hs ++ [hdr]).getD j .nilFunc) := by
    intro j hj
    by_cases e : j = ss.length
    · subst e
      rw [← hR.1, getD_snoc_eq]
      intro q hq hq'
      have h1 := (vb q hq).2
      have h2 := (hU.wblk hq').1
      omega
    · rw [getD_snoc_lt (by rw [hR.1]; omega)]; exact hA j (by omega)
  have hR4 := hR2.grown hg (fun q hq => .inr (fun j hj e => hA2 j hj q hq e))
  have hA4 : ∀ j, j < ss.length + 1 → Apart v' ((hs ++ [hdr]).getD j .nilFunc) := by
    intro j hj q hq hq'
    rcases hk q hq with h | h
    · exact hA2 j hj q h hq'
    · have := (hR2.lt hj hq').2; omega
  refine ⟨⟨⟨?_, ?_, ?_⟩, (hW.below hB12 (Nat.le_refl _)).grown_w hg (fun q hq => .inr (hAw q hq)), ?_⟩, (hB12.mono hz).grown hg (Nat.le_trans hz hB12.size) (fun k e => (vb k e).1)⟩
  · rw [stgCells_snocT (by rw [hR.1])]
    simpa using hO4
  · simpa using hR4
  · intro j hj; exact hA4 j (by simpa using hj)
  · intro q hq hq'
    rcases hk q hq with h | h
    · exact hAw q h hq'
    · have := (hW.wblk hq').2; have := hB12.size; omega
theorem take_map_snoc {ws : List (List UInt8)} {k : Nat} (hk : k < ws.length) : (ws.take (k + 1)).map parseS = (ws.take k).map parseS ++ [parseS (ws.getD k [])] := by
  rw [List.take_succ_eq_append_getElem hk, List.map_append, List.getD_eq_getElem?_getD, List.getElem?_eq_getElem hk]; rfl
theorem parse_not {l : List UInt8} (h : okSt ((words l).map parseS) = false ∨ txt ((words l).map parseS) ((words l).map parseS).length ≠ l) : parseO l = none := by
  cases hp : parseO l with
  | none => rfl
  | some x =>
    obtain ⟨h1, h2, _⟩ := (parse_spec l x).2 hp
    rcases h with h | h
    · rw [h1] at h; cases h
    · exact absurd h2 h
theorem words_len (l : List UInt8) : ∀ x ∈ words l, x.length ≤ l.length := by
  induction l with
  | nil => intro x hx; simp [words] at hx; subst hx; simp
  | cons b r ih =>
    intro x hx
    rw [words] at hx
    split at hx
    · rcases List.mem_cons.1 hx with e | e
      · subst e; simp
      · have := ih x e; simp; omega
    · cases hw : words r with
      | nil => exact absurd hw (words_ne r)
      | cons y ys =>
        rw [hw] at hx
        simp only at hx
        rcases List.mem_cons.1 hx with e | e
        · have := ih y (by rw [hw]; simp); subst e; simp; omega
        · have := ih x (by rw [hw]; simp [e]); simp; omega
theorem words_cnt (l : List UInt8) : (words l).length ≤ l.length + 1 := by
  induction l with
  | nil => simp [words]
  | cons b r ih =>
    rw [words]
    split
    · simp; omega
    · cases hw : words r with
      | nil => simp
      | cons y ys => rw [hw] at ih; simp at ih ⊢; omega

set_option maxRecDepth 100000 in
set_option maxHeartbeats 16000000 in
theorem spec_parse (w : World) (S : ByteArray) (l : List UInt8) (hS : Str8 S l) (hl63 : l.length ≤ 1000000000) :
    Calls Tryz.prog 66 #[.string S] w (ParRet l w) := by
  have HS := Lib.hid hS
  clear hS
  go_enter Tryz.func66, Tryz.ntmps66
  go_wp2_with (go_at_call 39; refine (spec_splitWords _ S l HS.out hl63).mono ?_; rintro e w1 ⟨vw, rfl, hW, hB1⟩; obtain ⟨aw, cw, rfl, hcw, hcm⟩ := hW.form)
  have hz1 : w.heap.size + 1 ≤ w1.heap.size := by have := hB1.size; simp at this; omega
  have hBw1 : Below w.heap.size w w1 := ((Below.refl w.heap.size w).alloc (Nat.le_refl _) _).trans (hB1.mono (by simp))
  obtain ⟨ws, hws⟩ : ∃ ws, ws = words l := ⟨_, rfl⟩
  rw [← hws] at hW hcw
  have hwl := words_cnt l
  have hwx := words_len l
  rw [← hws] at hwl hwx
  have HWX := Lib.hid hwx
  have hL0 : LstO w1 w.heap.size (.slice (some ⟨w.heap.size, 0, none⟩) 0 0) (.slice aw ws.length cw) [] [] ws.length (ws.map strV) :=
    ⟨⟨(Own.made w [] 85 w.heap.size 2 0 rfl (Nat.le_refl _) (by decide)).below hB1 (Nat.le_refl _), RowsO.nil _ _ _, fun j hj => by simp at hj⟩, hW.mono (by simp), fun k hk => by simp [wblk] at hk⟩
  have HL0 := Lib.hid hL0
  have HWS := Lib.hid hws
  rw [← HWS.out]
  clear hW hB1 hws hL0 hwx
  go_loopw [4, 6] (fun v i wo => ∃ k : Nat, ∃ hs : List Value, k ≤ ws.length ∧ i = .int .i64 k ∧ LstO wo w.heap.size v (.slice aw ws.length cw) hs ((ws.take k).map parseS) ws.length (ws.map strV) ∧ Below w.heap.size w wo) (fun v i _ => ws.length - (intOf i).toNat)
  case atStart => exact ⟨0, [], Nat.zero_le _, rfl, HL0.out, hBw1⟩
  case round =>
    obtain ⟨k, hs, hk, rfl, hL, hBw⟩ := hrel
    have HL := Lib.hid hL
    have hsz := hBw.size
    by_cases hkl : k < ws.length
    · obtain ⟨b, off, rfl, hb1, hb2, hx⟩ := hL.2.1.rd.spot (f := strV) [] (by omega)
      have hxk := hx k hkl
      have hlen : (ws.getD k []).length ≤ 1000000000 := by
        have := HWX.out (ws.getD k []) (by rw [List.getD_eq_getElem?_getD, List.getElem?_eq_getElem hkl]; simp)
        omega
      have hsn := take_map_snoc hkl
      obtain ⟨x, hxx⟩ : ∃ x, x = ws.getD k [] := ⟨_, rfl⟩
      rw [← hxx] at hxk hlen hsn
      obtain ⟨st, hst⟩ : ∃ st, st = parseS x := ⟨_, rfl⟩
      rw [← hst] at hsn
      obtain ⟨A, hA⟩ : ∃ A : ByteArray, A = ⟨x.toArray⟩ := ⟨_, rfl⟩
      have HAA : Hid (Str8 A x) := hA
      unfold strV at hxk
      rw [← hA] at hxk
      obtain ⟨ss, hss⟩ : ∃ ss, ss = (ws.take k).map parseS := ⟨_, rfl⟩
      have hsl : ss.length = k := by rw [hss]; simp; omega
      rw [← hss] at HL hsn hL
      have HSL := Lib.hid hsl
      have HSN := Lib.hid hsn
      have HST := Lib.hid hst
      have HXL := Lib.hid hlen
      have hkl2 : (k : Int) < (ws.length : Int) := by omega
      have hsl9 : ss.length ≤ 1000000001 := by omega
      clear hx hxx hst hA hss hsl hsn hlen hL
      go_wp2_with (first
        | (go_at_call 93; refine (spec_parseStage _ A x HAA.out HXL.out).mono ?_; rintro e w5 ⟨hdr, rfl, hU, hB5⟩; rw [← HST.out] at hU ⊢; obtain ⟨bo, cap1, rfl, hcap1, hcm1⟩ := hU.form; have HU := Lib.hid hU; have HB5 := Lib.hid hB5; have hz5 := hB5.size; clear hU hB5)
        | (at_builtin; refine wpList_append_stgT _ rfl _ _ 42 rfl 85 Tryz.underlying42 info_stg w.heap.size _ _ _ rfl (HL.out.1.1.below HB5.out (Nat.le_refl _)) _ _ _ _ rfl rfl rfl rfl (by omega) (by omega) (by omega) ?_; intro v' w8 hO8 hg8 hk8))
      obtain ⟨hL2, hB8⟩ := lst_next HL.out hsz HB5.out HU.out (Below.refl _ _) hO8 hg8 hk8
      rw [← HSN.out] at hL2
      have HL2 := Lib.hid hL2
      clear hO8 hg8 hk8 hL2
      go_roundw
      case rel => exact ⟨k + 1, hs ++ [_], by omega, by go_num, HL2.out, hBw.trans hB8⟩
      case measure => (simp only [intOf]; omega)
    · have hkk : k = ws.length := by omega
      rw [hkk, List.take_length] at hL
      have hno := parse_not (l := l)
      have hyes := (parse_spec l ((words l).map parseS)).1
      rw [← HWS.out] at hno hyes
      obtain ⟨ss, hss⟩ : ∃ ss, ss = ws.map parseS := ⟨_, rfl⟩
      rw [← hss] at hL hno hyes
      have hOw : OwnStg wr w.heap.size u4 ss := ⟨hs, hL.1.1, hL.1.2.1, hL.1.2.2⟩
      have HOW := Lib.hid hOw
      have HST := Lib.hid hOw.stg
      have hkl2 : ¬ (k : Int) < (ws.length : Int) := by omega
      clear HL hL hkk hss hOw
      cases hok : okSt ss
      · have HN : Hid (parseO l = none) := hno (.inl hok)
        clear hno hyes
        go_wp2_with (go_at_call 67; refine (spec_validStages _ _ _ ss HST.out).mono ?_; rintro e w6 ⟨rfl, hB6⟩; rw [hok]; clear hok)
        refine bodyPost_ret (v := .tuple #[.slice none 0 0, .bool false]) (by simp [results, Tryz.results66, go_sem]) rfl ?_
        exact ⟨_, _, rfl, .inr ⟨rfl, HN.out, rfl⟩, hBw.trans (hB6.mono hsz)⟩
      · obtain ⟨D, hD⟩ : ∃ D : ByteArray, D = ⟨(txt ss ss.length).toArray⟩ := ⟨_, rfl⟩
        have HOK := Lib.hid hok
        have HD := Lib.hid hD
        by_cases hds : D = S
        · have HY : Hid (parseO l = some ss) := hyes ⟨hok, by
            have h9 := HS.out
            unfold Str8 at h9
            rw [← hds, hD] at h9
            exact (bytes_eq _ _).1 h9, rfl⟩
          have db : (D.toList == S.toList) = true := ba_beq.2 hds
          clear hno hyes hD hds
          go_wp2_with (first
            | (go_at_call 67; refine (spec_validStages _ _ _ ss HST.out).mono ?_; rintro e w6 ⟨rfl, hB6⟩; rw [hok]; clear hok)
            | (go_at_call 68; refine (spec_formatStages _ _ _ ss (HST.out.below hB6 (Nat.le_refl _)) HOK.out).mono ?_; rintro e w7 ⟨rfl, hB7⟩; rw [← HD.out]))
          refine bodyPost_ret (v := .tuple #[u4, .bool true]) (by simp [results, Tryz.results66, go_sem]) rfl ?_
          exact ⟨_, _, rfl, .inl ⟨rfl, ss, HY.out, HOW.out.below (hB6.trans (hB7.mono hB6.size)) (Nat.le_refl _)⟩, hBw.trans ((hB6.trans (hB7.mono hB6.size)).mono hsz)⟩
        · have HN : Hid (parseO l = none) := hno (.inr fun e => hds (by
            have h9 := HS.out
            unfold Str8 at h9
            rw [hD, h9, e]))
          have db : (D.toList == S.toList) = false := ba_bne hds
          clear hno hyes hD hds
          go_wp2_with (first
            | (go_at_call 67; refine (spec_validStages _ _ _ ss HST.out).mono ?_; rintro e w6 ⟨rfl, hB6⟩; rw [hok]; clear hok)
            | (go_at_call 68; refine (spec_formatStages _ _ _ ss (HST.out.below hB6 (Nat.le_refl _)) HOK.out).mono ?_; rintro e w7 ⟨rfl, hB7⟩; rw [← HD.out]))
          refine bodyPost_ret (v := .tuple #[.slice none 0 0, .bool false]) (by simp [results, Tryz.results66, go_sem]) rfl ?_
          exact ⟨_, _, rfl, .inr ⟨rfl, HN.out, rfl⟩, hBw.trans ((hB6.trans (hB7.mono hB6.size)).mono hsz)⟩
end Go.Proofs.YtpaioaknppgggaaGreatDoor
