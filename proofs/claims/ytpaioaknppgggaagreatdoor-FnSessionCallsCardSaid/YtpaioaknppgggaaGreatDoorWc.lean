/- FnSessionCalls: the walk. -/
import Derived.Test.YtpaioaknppgggaaGreatDoorWk1
import Derived.Deep.QuietTactic
import Derived.BigQuiet
namespace Go.Proofs.YtpaioaknppgggaaGreatDoor
open Go.RowKit
set_option linter.unusedVariables false
set_option linter.unusedSimpArgs false

theorem info_strW : (Tryz.prog.info? 9).map (fun i => (i.zero, i.size, i.bytes)) = some (some (.string ⟨#[]⟩), 1, 16) := by kernel_rfl
theorem lns_app {w : World} {lo n : Nat} {v : Value} {cs : List Value} {ls : List (List UInt8)} (h : Own w lo 9 1 v n cs) (hn : n = ls.length) (hc : cs = ls.map strV) : LnsR w 0 v ls := by
  subst hn; subst hc; exact lnsD_of_own h

theorem one_strs {ls : List (List UInt8)} {u : Value} (h : u ∈ ls.map strV) : u.oneCell' = true := by
  obtain ⟨l, _, rfl⟩ := List.mem_map.1 h; rfl
theorem grow_two {B : Nat} {w2 w4 w6 w7 : World} {o : Obj} {r6 r7 : Option Nat} (hB4 : Below B w2 w4) (hs : B ≤ w4.heap.size) (hg6 : (w4.alloc o).grownBy w6 r6) (h6 : ∀ k, r6 = some k → w4.heap.size ≤ k) (hg7 : w6.grownBy w7 r7) (h7 : ∀ k, r7 = some k → w4.heap.size ≤ k) : Below B w2 w7 := by
  have h := hg6.size
  simp at h
  have h1 := (hB4.alloc hs o).trans (below_of_grownBy hg6 (by simp; omega) (fun k hk => Nat.le_trans hs (h6 k hk)))
  exact h1.trans (below_of_grownBy hg7 (by omega) (fun k hk => Nat.le_trans hs (h7 k hk)))
theorem wpList_append_two {P : Program} (w : World) {ops : Array Oper} {rest : List Oper} {o : Oper} {a : Act} {Q : Exit → Act → World → Prop} (hgd : o.guard = none) (s x : Operand) (t : TypeId)
    (ho : o.op = .call { callee := .builtin .append, args := #[s, x], argTypes := #[t, t] })
    (e : TypeId) (z : Value) (bytes : Nat) (ht : P.underlying t = some (.slice e)) (hi : (P.info? e).map (fun i => (i.zero, i.size, i.bytes)) = some (some z, 1, bytes))
    (hzs : z.cells.size = 1)
    (lo : Nat) (v : Value) (n : Nat) (cs : List Value) (hs : a.eval s = v) (hown : Own w lo e 1 v n cs)
    (u u2 : Value) (t' : TypeId) (hxe : a.eval x = .slice (some ⟨w.heap.size, 0, none⟩) 2 2) (h1 : u.oneCell' = true) (h2 : u2.oneCell' = true)
    (h63 : n + 2 ≤ 9223372036854775807) (hbytes : (n + 2) * bytes ≤ 140737488355328) (hbase : lo ≤ w.heap.size)
    (h : ∀ v' w', Own w' lo e 1 v' (n + 2) (cs ++ [u, u2]) → w.grownBy w' (wblk v) → (∀ k, wblk v' = some k → wblk v = some k ∨ w.heap.size ≤ k) → wpList P ops Q rest (a.put o.dst v') w') :
    wpList P ops Q (o :: rest) a (w.alloc (.cells #[u, u2] t')) := by
  refine wpList_append_Own _ hgd s x t ho e z 1 bytes ht hi hzs (by omega) lo v n cs hs (hown.alloc _) _ 0 2 [u, u2] hxe (Rd.made w [u, u2] t' 0 1 2 rfl (Nat.zero_le _) (by decide)) (by simp [h1, h2]) (by unfold maxLen; omega) hbytes (by simp; omega) ?_
  intro v' w' ho' hg hk
  have hga := World.grownBy_alloc w (.cells #[u, u2] t') none
  refine h v' w' ho' ?_ ?_
  · exact grownBy_trans (row := wblk v) ⟨hga.os, hga.tape, hga.output, hga.size, fun k hk _ => hga.block k hk (fun e => by cases e)⟩ hg (fun x hx => .inl hx)
  · intro k hk'
    rcases hk k hk' with h | h
    · exact .inl h
    · right; simp at h; omega

set_option maxRecDepth 100000 in
set_option maxHeartbeats 16000000 in
theorem fnSessionCalls_walk (w : World) (v : Value) (bs : List UInt8) (hv : Bytes w 0 v bs) (hg : GW w) :
    Calls Tryz.prog 7 #[v] w fun e w' => e = .returned (.bool true) ∧ Below w.heap.size w w' := by
  have HDR := Lib.hid (drawRunSession w v bs hv)
  obtain ⟨ao, cap, rfl, hcap, hm⟩ := hv.form
  have HG := Lib.hid hg
  clear hv hg
  by_cases hbig : 1048576 < bs.length
  · have db : (1048576 : Int) < ((bs.length : Nat) : Int) := by omega
    go_enter Tryz.func7, Tryz.ntmps7
    go_wp2_with fail
    go_ret
    exact ⟨rfl, Below.refl _ _⟩
  have db : ¬ (1048576 : Int) < ((bs.length : Nat) : Int) := by omega
  go_enter Tryz.func7, Tryz.ntmps7
  go_wp2_with fail
  go_at_call 8
  refine HDR.out.mono ?_
  rintro e w2 ⟨v2, ls, rfl, hO2, hfew, hB2⟩
  obtain ⟨bo, bc, rfl, _, _⟩ := hO2.form
  have HL := Lib.hid (lnsD_of_own hO2)
  have HFW := Lib.hid hfew
  have hlen15 := hfew.1
  have HB2 := Lib.hid hB2
  have HLN : Hid (∀ V, Below w2.heap.size w2 V → LnsR V 0 (.slice bo ls.length bc) ls) := fun V hb => lns_below HL.out hb
  have HRI : Hid (∀ V, Below w2.heap.size w2 V → Calls Tryz.prog 9 #[.slice bo ls.length bc] V fun e w' => e = .returned (.string (bsO ls)) ∧ Below V.heap.size V w') := fun V hb =>
    runS_impl V _ ls (lns_below HL.out hb) (few_big HFW.out (by decide)) ((HG.out.below HB2.out).below hb)
  have HRS : Hid (∀ V, Below w2.heap.size w2 V → Calls Tryz.prog 10 #[.slice bo ls.length bc] V fun e w' => e = .returned (.string (bsO ls)) ∧ Below V.heap.size V w') := fun V hb =>
    runS_spec V _ ls (lns_below HL.out hb) (few_big HFW.out (by decide))
  obtain ⟨x, hx1, hx2⟩ := ses_calls ls (by omega)
  obtain ⟨D, hD⟩ : ∃ D, D = bsO ls := ⟨_, rfl⟩
  obtain ⟨A, hA⟩ : ∃ A, A = bsO (ls ++ [bWait]) := ⟨_, rfl⟩
  obtain ⟨B, hB⟩ : ∃ B, B = bsO (ls ++ [bCall330, bWait]) := ⟨_, rfl⟩
  have HRA : Hid (∀ V u, Below w2.heap.size w2 V → LnsR V 0 u (ls ++ [bWait]) → Calls Tryz.prog 9 #[u] V fun e w' => e = .returned (.string A) ∧ Below V.heap.size V w') := fun V u hb hu => by
    rw [hA]
    refine runS_impl V _ _ hu (fun y hy => ?_) ((HG.out.below HB2.out).below hb)
    rcases List.mem_append.1 hy with h | h
    · exact few_big HFW.out (by decide) y h
    · simp at h; rw [h]; decide
  have HRB : Hid (∀ V u, Below w2.heap.size w2 V → LnsR V 0 u (ls ++ [bCall330, bWait]) → Calls Tryz.prog 9 #[u] V fun e w' => e = .returned (.string B) ∧ Below V.heap.size V w') := fun V u hb hu => by
    rw [hB]
    refine runS_impl V _ _ hu (fun y hy => ?_) ((HG.out.below HB2.out).below hb)
    rcases List.mem_append.1 hy with h | h
    · exact few_big HFW.out (by decide) y h
    · simp at h; rcases h with h | h <;> rw [h] <;> decide
  rw [← hD] at HRI HRS
  have sD : D.size = (sesO ls).length := by rw [hD]; exact (bsO_str ls).size
  have sA : A.size = (sesO ls).length + x.length := by rw [hA, (bsO_str _).size, hx1, List.length_append]
  have sB : B.size = (sesO ls).length + (3 + x.length) := by rw [hB, (bsO_str _).size, hx2, List.length_append, List.length_append]; rfl
  have tA : Str8 A (sesO ls ++ x) := by rw [hA, ← hx1]; exact bsO_str _
  have tB : Str8 B (sesO ls ++ ([110, 111, 10] ++ x)) := by rw [hB, ← hx2]; exact bsO_str _
  obtain ⟨A', HA', ka⟩ := sl_from tA (n := D.size) (by rw [List.length_append]; omega)
  obtain ⟨B', HB', kb⟩ := sl_from tB (n := D.size) (by rw [List.length_append]; omega)
  have hxl : x.length ≤ 5000 := by
    have h1 := sesO_len (ls ++ [bWait])
    rw [hx1, List.length_append, List.length_append] at h1
    simp at h1; omega
  have eA : Str8 A' x := by have h := HA'.out; rw [sD, List.drop_left' rfl] at h; exact h
  have eB : Str8 B' ([110, 111, 10] ++ x) := by have h := HB'.out; rw [sD, List.drop_left' rfl] at h; exact h
  obtain ⟨C, hC, kc⟩ := addS ⟨#[110, 111, 10]⟩ A' (by decide) (by rw [eA.size]; omega)
  have hCB : C = B' := by
    have h1 : Str8 C ([110, 111, 10] ++ x) := Str8.app (show Str8 ⟨#[110, 111, 10]⟩ [110, 111, 10] from rfl) eA hC
    unfold Str8 at h1 eB; rw [h1, eB]
  subst hCB
  obtain ⟨t1, t2⟩ := same_str D
  obtain ⟨t3, t4⟩ := same_str C
  have wr : IntKind.i64.wrap ((ls.length : Int) + 2) = (ls.length : Int) + 2 := IntWalk.i64_in _ (by omega)
  have dl : ¬ (30 : Int) < ((ls.length : Int) + 2) := by omega
  have d1 : ¬ ((A.size : Nat) : Int) < ((D.size : Nat) : Int) := by omega
  have d2 : ¬ ((B.size : Nat) : Int) < ((D.size : Nat) : Int) := by omega
  have hB0 := Below.refl w2.heap.size w2
  have KA := Lib.hid ka
  have KB := Lib.hid kb
  have KC := Lib.hid kc
  have T3 := Lib.hid t3
  have T4 := Lib.hid t4
  have D1 := Lib.hid d1
  have D2 := Lib.hid d2
  clear ka kb kc t3 t4 d1 d2 HDR hfew hO2 hB2 hD db hbig hA hB sD sA sB tA tB HA' HB' eA eB hC hx1 hx2 hxl
  go_wp2_with (first
    | (go_at_call 9; have hB12 := grow_two hB8 hB8.size hg9 (fun k hk => (hO8.wblk hk).1) hg10 (fun k hk => (hO9.wblk hk).1); refine (HRB.out _ _ hB12 (lns_app hO10 (by simp) (by simp [strV, bWait, bCall330]))).mono ?_; rintro e w13 ⟨rfl, hB13⟩; have hB13 := hB12.trans (hB13.mono hB12.size); have ka := KA.out; have kb := KB.out; have kc := KC.out; have t3 := T3.out; have t4 := T4.out; have d1 := D1.out; have d2 := D2.out)
    | (at_builtin; (refine wpList_append_two _ rfl _ _ 23 rfl 9 (.string ⟨#[]⟩) 16 Tryz.underlying23 info_strW rfl w8.heap.size _ _ _ rfl hO9 _ _ _ rfl rfl rfl (by omega) (by omega) (by have := hg9.size; simp at this; omega) ?_; intro v10 w10 hO10 hg10 hk10))
    | (at_builtin; (refine wpList_append_Own _ rfl _ _ 23 rfl 9 (.string ⟨#[]⟩) 1 16 Tryz.underlying23 info_strW rfl (by decide) w8.heap.size _ 0 [] rfl hO8 (.slice bo ls.length bc) 0 ls.length (ls.map strV) rfl hl8 (fun u hu => one_strs hu) (by unfold maxLen; omega) (by omega) (by simp) ?_; intro v9 w9 hO9 hg9 hk9))
    | (go_at_call 9; have hB7 := grow_two hB4 hB4.size hg6 (fun k hk => (hO5.wblk hk).1) hg7 (fun k hk => (hO6.wblk hk).1); refine (HRA.out _ _ hB7 (lns_app hO7 (by simp) (by simp [strV, bWait]))).mono ?_; rintro e w8 ⟨rfl, hB8⟩; have hB8 := hB7.trans (hB8.mono hB7.size); have hO8 := Own.made w8 [] 9 w8.heap.size 1 0 rfl (Nat.le_refl _) (by decide); have hl8 := HLN.out _ (hB8.alloc hB8.size (.cells #[] 9)))
    | (at_builtin; ((refine wpList_append_one _ rfl _ _ 23 rfl 9 (.string ⟨#[]⟩) 16 Tryz.underlying23 info_strW rfl w4.heap.size _ _ _ rfl hO6 _ _ rfl rfl (by omega) (by omega) (by have := hg6.size; simp at this; omega) ?_; intro v7 w7 hO7 hg7 hk7)))
    | (at_builtin; ((refine wpList_append_Own _ rfl _ _ 23 rfl 9 (.string ⟨#[]⟩) 1 16 Tryz.underlying23 info_strW rfl (by decide) w4.heap.size _ 0 [] rfl hO5 (.slice bo ls.length bc) 0 ls.length (ls.map strV) rfl hl5 (fun u hu => one_strs hu) (by unfold maxLen; omega) (by omega) (by simp) ?_; intro v6 w6 hO6 hg6 hk6)))
    | (go_at_call 10; refine (HRS.out _ hB3).mono ?_; rintro e w4 ⟨rfl, hB4⟩; have hB4 := hB3.trans (hB4.mono hB3.size); have hO5 := Own.made w4 [] 9 w4.heap.size 1 0 rfl (Nat.le_refl _) (by decide); have hl5 := HLN.out _ (hB4.alloc hB4.size (.cells #[] 9)))
    | (go_at_call 9; refine (HRI.out _ hB0).mono ?_; rintro e w3 ⟨rfl, hB3⟩))
  go_quiet (fail)
  go_wp2_with fail
  go_ret
  exact ⟨rfl, below_drewN (HB2.out.trans (hB13.mono HB2.out.size)) _⟩
end Go.Proofs.YtpaioaknppgggaaGreatDoor
