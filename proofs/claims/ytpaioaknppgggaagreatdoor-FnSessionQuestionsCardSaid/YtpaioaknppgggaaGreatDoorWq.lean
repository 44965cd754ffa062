/- FnSessionQuestions: the walk. -/
import Derived.Test.YtpaioaknppgggaaGreatDoorWk1
import Derived.Deep.RegionLaw
import Derived.Deep.QuietTactic
import Derived.BigQuiet
namespace Go.Proofs.YtpaioaknppgggaaGreatDoor
open Go.RowKit
set_option linter.unusedVariables false
set_option linter.unusedSimpArgs false

theorem info_strQ : (Tryz.prog.info? 9).map (fun i => (i.zero, i.size, i.bytes)) = some (some (.string ⟨#[]⟩), 1, 16) := by kernel_rfl
theorem moreO_snoc (l : List UInt8) : ∀ (ls : List (List UInt8)) (i : Nat), moreO i (ls ++ [l]) = moreO i ls ++ [l, qOf (i + ls.length)]
  | [], i => rfl
  | x :: r, i => by
    show x :: qOf i :: moreO (i + 1) (r ++ [l]) = _
    rw [moreO_snoc l r (i + 1)]
    show _ = x :: qOf i :: (moreO (i + 1) r ++ _)
    rw [List.length_cons, show i + 1 + r.length = i + (r.length + 1) by omega]
theorem moreO_take {ls : List (List UInt8)} {k : Nat} (hk : k < ls.length) : moreO 0 (ls.take (k + 1)) = moreO 0 (ls.take k) ++ [ls.getD k [], qOf k] := by
  have e : ls.take (k + 1) = ls.take k ++ [ls.getD k []] := by
    rw [List.take_succ_eq_append_getElem hk, List.getD_eq_getElem?_getD, List.getElem?_eq_getElem hk]; rfl
  rw [e, moreO_snoc, List.length_take, Nat.min_eq_left (by omega), Nat.zero_add]
theorem more_big {n : Nat} : ∀ {ls : List (List UInt8)}, (∀ x ∈ ls, x.length ≤ n + 1000) → ∀ i, ∀ x ∈ moreO i ls, x.length ≤ n + 1000
  | [], _, _, x, hx => absurd hx (by simp [moreO])
  | l :: r, h, i, x, hx => by
    rcases List.mem_cons.1 hx with rfl | hx
    · exact h _ (by simp)
    · rcases List.mem_cons.1 hx with rfl | hx
      · have : (qOf i).length ≤ 10 := by unfold qOf; split; decide; split <;> decide
        omega
      · exact more_big (fun y hy => h y (List.mem_cons_of_mem _ hy)) (i + 1) x hx
theorem keep_at {E : List UInt8} {i : Nat} (hi : i < E.length) (k : Nat) (cur : List UInt8) :
    keepO (E.drop i) k cur = if E.getD i 0 = 10 then (if k % 2 = 0 then cur ++ [10] else []) ++ keepO (E.drop (i + 1)) (k + 1) [] else keepO (E.drop (i + 1)) k (cur ++ [E.getD i 0]) := by
  rw [List.drop_eq_getElem_cons hi, List.getD_eq_getElem?_getD, List.getElem?_eq_getElem hi]
  rfl
theorem cur_snoc {E : List UInt8} {st i : Nat} (hi : i < E.length) (hst : st ≤ i) : (E.take (i + 1)).drop st = (E.take i).drop st ++ [E.getD i 0] := by
  rw [take_snoc1 E hi, List.drop_append_of_le_length (by rw [List.length_take]; omega)]

theorem madeQ1 (w : World) (o : Obj) (a b : Value) (t : TypeId) : Rd ((w.alloc o).alloc (.cells #[a, b] t)) 0 (.slice (some ⟨w.heap.size + 1, 0, none⟩) 2 2) 1 2 [a, b] := by
  have h := Rd.made (w.alloc o) [a, b] t 0 1 2 rfl (Nat.zero_le _) (by decide)
  simp only [World.size_alloc] at h
  exact h
theorem madeQ2 (w : World) (o : Obj) (a b : Value) (t : TypeId) : Rd ((w.alloc o).drew.alloc (.cells #[a, b] t)) 0 (.slice (some ⟨w.heap.size + 1, 0, none⟩) 2 2) 1 2 [a, b] := by
  have h := Rd.made (w.alloc o).drew [a, b] t 0 1 2 rfl (Nat.zero_le _) (by decide)
  have e : (w.alloc o).drew.heap.size = w.heap.size + 1 := by show (w.alloc o).heap.size = _; simp
  rw [e] at h
  exact h
theorem madeQ3 (w : World) (o : Obj) (a b : Value) (t : TypeId) : Rd ((w.alloc o).alloc (.cells #[a, b] t)).drew 0 (.slice (some ⟨w.heap.size + 1, 0, none⟩) 2 2) 1 2 [a, b] :=
  Rd.below (madeQ1 w o a b t) (Below.drew (Below.refl _ _)) (Nat.le_refl _) (by decide)
theorem bDs (w : World) (o o' : Obj) : Below w.heap.size w ((w.alloc o).alloc o') := ((Below.refl _ _).alloc (Nat.le_refl _) _).alloc ((Below.refl w.heap.size w).alloc (Nat.le_refl _) o).size _
theorem bEs (w : World) (o o' : Obj) : Below w.heap.size w ((w.drew.alloc o).alloc o') := by
  have h : Below w.heap.size w (w.drew.alloc o) := (Below.drew (Below.refl _ _)).alloc (Nat.le_refl _) _
  exact h.alloc h.size _
theorem step_append_q {P : Program} {w W : World} {ops : Array Oper} {o : Oper} {a : Act} {K : Act → World → Prop} {Q : Exit → Act → World → Prop} {E : Prop} (hgd : o.guard = none) (s x : Operand) (t : TypeId)
    (ho : o.op = .call { callee := .builtin .append, args := #[s, x], argTypes := #[t, t] })
    (e : TypeId) (z : Value) (ht : P.underlying t = some (.slice e)) (hi : (P.info? e).map (fun i => (i.zero, i.size, i.bytes)) = some (some z, 1, 16)) (hzs : z.cells.size = 1)
    (lo : Nat) (v : Value) (n : Nat) (cs : List Value) (hs : a.eval s = v) (hown : Own w lo e 1 v n cs) (xv : Value) (u1 u2 : Value) (hxe : a.eval x = xv) (h1 : u1.oneCell' = true) (h2 : u2.oneCell' = true)
    (hn : n ≤ 1000000) (hlo : lo ≤ w.heap.size) (hb : Below w.heap.size w W) (hx : Rd W 0 xv 1 2 [u1, u2])
    (h : ∀ v' w', Own w' lo e 1 v' (n + 2) (cs ++ [u1, u2]) → w.grownBy w' (wblk v) → K (a.put o.dst v') w') :
    if Region.wanted o (yielded ops a.tmps) = true then Oper.wp P o a W K Q else E := by
  have hgb : w.grownBy W (wblk v) := ⟨hb.os, hb.tape, hb.output, hb.size, fun k hk _ => hb.block k hk⟩
  refine step_append_OwnS hgd s x t ho e z 1 16 ht hi hzs (by omega) lo v n cs hs (hown.below hb (Nat.le_refl _)) xv 0 2 [u1, u2] hxe hx (by intro u hu; simp at hu; rcases hu with rfl | rfl <;> assumption) (by unfold maxLen; omega) (by omega) (Nat.le_trans hlo hb.size) ?_
  intro v' w' h1 h2 _
  exact h v' w' h1 (grownBy_trans hgb h2 (fun x hx => .inl hx))

set_option maxRecDepth 100000 in
set_option maxHeartbeats 16000000 in
theorem fnSessionQuestions_walk (w : World) (v : Value) (bs : List UInt8) (hv : Bytes w 0 v bs) (hg : GW w) :
    Calls Tryz.prog 4 #[v] w fun e w' => e = .returned (.bool true) ∧ Below w.heap.size w w' := by
  have HDR := Lib.hid (drawRunSession w v bs hv)
  obtain ⟨ao, cap, rfl, hcap, hm⟩ := hv.form
  have HG := Lib.hid hg
  clear hv hg
  by_cases hbig : 1048576 < bs.length
  · have db : (1048576 : Int) < ((bs.length : Nat) : Int) := by omega
    go_enter Tryz.func4, Tryz.ntmps4
    go_wp2_with fail
    go_ret
    exact ⟨rfl, Below.refl _ _⟩
  have db : ¬ (1048576 : Int) < ((bs.length : Nat) : Int) := by omega
  go_enter Tryz.func4, Tryz.ntmps4
  go_wp2_with fail
  go_at_call 8
  refine HDR.out.mono ?_
  rintro e w2 ⟨v2, ls, rfl, hO2, hfew, hB2⟩
  obtain ⟨bo, bc, rfl, _, _⟩ := hO2.form
  have HL := Lib.hid (lnsD_of_own hO2)
  have HFW := Lib.hid hfew
  have hlen15 := hfew.1
  have HB2 := Lib.hid hB2
  have HLN : Hid (∀ V, Below w2.heap.size w2 V → LnsR V 0 (.slice bo ls.length bc) ls) := fun V hb => lns_below HL.out hb
  have HRI : Hid (∀ V, Below w2.heap.size w2 V → Calls Tryz.prog 9 #[.slice bo ls.length bc] V fun e w' => e = .returned (.string (bsO ls)) ∧ Below V.heap.size V w') := fun V hb =>
    runS_impl V _ ls (lns_below HL.out hb) (few_big HFW.out (by decide)) ((HG.out.below HB2.out).below hb)
  have HRS : Hid (∀ V, Below w2.heap.size w2 V → Calls Tryz.prog 10 #[.slice bo ls.length bc] V fun e w' => e = .returned (.string (bsO ls)) ∧ Below V.heap.size V w') := fun V hb =>
    runS_spec V _ ls (lns_below HL.out hb) (few_big HFW.out (by decide))
  obtain ⟨D, hD⟩ : ∃ D, D = bsO ls := ⟨_, rfl⟩
  obtain ⟨A, hA⟩ : ∃ A, A = bsO (moreO 0 ls) := ⟨_, rfl⟩
  have HRA : Hid (∀ V u, Below w2.heap.size w2 V → LnsR V 0 u (moreO 0 ls) → Calls Tryz.prog 9 #[u] V fun e w' => e = .returned (.string A) ∧ Below V.heap.size V w') := fun V u hb hu => by
    rw [hA]
    exact runS_impl V _ _ hu (more_big (n := 999999000) (few_big HFW.out (by decide)) 0) ((HG.out.below HB2.out).below hb)
  have HD : Hid (Str8 D (sesO ls)) := by unfold Hid; rw [hD]; exact bsO_str ls
  have HA : Hid (Str8 A (sesO (moreO 0 ls))) := by unfold Hid; rw [hA]; exact bsO_str _
  have HAL : Hid ((sesO (moreO 0 ls)).length ≤ 5000) := by
    have h1 := sesO_len (moreO 0 ls)
    rw [moreO_len] at h1
    unfold Hid; omega
  have HQ : Hid (keepO (sesO (moreO 0 ls)) 0 [] = sesO ls) := ses_questions ls (by omega)
  rw [← hD] at HRI HRS
  obtain ⟨t1, t2⟩ := same_str D
  have wr1 : IntKind.i64.wrap (2 * (ls.length : Int)) = 2 * (ls.length : Int) := IntWalk.i64_in _ (by omega)
  have dl : ¬ (30 : Int) < (2 * (ls.length : Int)) := by omega
  have hB0 := Below.refl w2.heap.size w2
  clear HDR hfew hO2 hB2 hD db hbig hA
  go_wp2_with (first
    | (go_at_call 10; refine (HRS.out _ hB3).mono ?_; rintro e w4 ⟨rfl, hB4⟩; have hB4 := hB3.trans (hB4.mono hB3.size); have hO5 := Own.made w4 [] 9 w4.heap.size 1 0 rfl (Nat.le_refl _) (by decide); have hB5 := hB4.alloc hB4.size (.cells #[] 9))
    | (go_at_call 9; refine (HRI.out _ hB0).mono ?_; rintro e w3 ⟨rfl, hB3⟩))
  have hs4 := hB4.size
  clear HRI HRS hB0 hB3 dl wr1 t1 t2
  go_loopw [5, 6] (fun mv iv V => ∃ k : Nat, k ≤ ls.length ∧ iv = .int .i64 k ∧ Own V w4.heap.size 9 1 mv (moreO 0 (ls.take k)).length ((moreO 0 (ls.take k)).map strV) ∧ Below w2.heap.size w2 V ∧ w4.heap.size ≤ V.heap.size) (fun _ iv _ => ls.length - (intOf iv).toNat)
  case atStart => exact ⟨0, Nat.zero_le _, rfl, hO5, hB5, by simp⟩
  case round =>
    clear hO5 hB5
    obtain ⟨k, hk, rfl, hO, hB, hsz⟩ := hrel
    by_cases hlt : k < ls.length
    · have hltz : (k : Int) < (ls.length : Int) := by omega
      obtain ⟨b, off, rfl, _, hb2, hc⟩ := HL.out.spot [] (by omega)
      obtain ⟨X, hX⟩ : ∃ X : ByteArray, X = ⟨(ls.getD k []).toArray⟩ := ⟨_, rfl⟩
      have hcx : wr.cell? ⟨b, off + k, none⟩ = some (.string X) := by
        rw [hX]; exact (hB.cell (p := ⟨b, off + k, none⟩) hb2).trans (hc k hlt)
      obtain ⟨n, hn⟩ : ∃ n, n = (moreO 0 (ls.take k)).length := ⟨_, rfl⟩
      have hn15 : n ≤ 30 := by rw [hn, moreO_len, List.length_take]; omega
      have HXK : Hid (∀ Z : ByteArray, Z = ⟨(qOf k).toArray⟩ → (moreO 0 (ls.take k)).map strV ++ [.string X, .string Z] = (moreO 0 (ls.take (k + 1))).map strV ∧ n + 2 = (moreO 0 (ls.take (k + 1))).length) := by
        intro Z hZ
        rw [hZ, hX, moreO_take hlt, List.map_append, List.length_append, hn]
        exact ⟨rfl, rfl⟩
      rw [← hn] at hO
      have hs2 : b < w4.heap.size := Nat.lt_of_lt_of_le hb2 hs4
      have hbl : b < wr.heap.size := Nat.lt_of_lt_of_le hb2 hB.size
      clear hc hX hn
      have hm : k % 3 = 0 ∨ k % 3 = 1 ∨ k % 3 = 2 := by omega
      rcases hm with hm | hm | hm
      · have hr : (k : Int).tmod 3 = 0 := by rw [Int.tmod_eq_emod_of_nonneg (by omega)]; omega
        have HZ : Hid ((⟨#[115, 104, 111, 119]⟩ : ByteArray) = ⟨(qOf k).toArray⟩) := by unfold Hid qOf; simp [hm, bShow, bStages, bWait]
        go_wp2_with fail
        go_region_law (refine step_append_q (w := wr) (by rfl) _ _ _ (by rfl) 9 (.string ⟨#[]⟩) Tryz.underlying23 info_strQ rfl w4.heap.size _ n _ (by rfl) hO (.slice (some ⟨wr.heap.size + 1, 0, none⟩) 2 2) (.string X) (.string ⟨#[115, 104, 111, 119]⟩) (by first | rfl | (simp; done)) (by rfl) (by rfl) (by omega) hsz (by first | exact bDs _ _ _ | exact bBs _ _ _ | exact bCs _ _ _ | exact bEs _ _ _) (by first | exact madeQ1 _ _ _ _ _ | exact madeQ2 _ _ _ _ _ | exact madeQ3 _ _ _ _ _ | exact madeQ1 wr.drew _ _ _ _) ?_; intro v6 w6 hO6 hg6)
        all_goals
          obtain ⟨e1, e2⟩ := HXK.out _ HZ.out
          rw [e1, e2] at hO6
          have hB6 := hB.trans (below_of_grownBy hg6 hB.size (fun q hq => by have := (hO.wblk hq).1; omega))
          have hz6 : w4.heap.size ≤ w6.heap.size := Nat.le_trans hsz hg6.size
          clear hO hB hg6 hsz
          go_wp2_with fail
          go_roundw
          case rel => exact ⟨k + 1, by omega, by go_num, hO6, hB6, hz6⟩
          case measure => simp [intOf]; omega
      · have hr : (k : Int).tmod 3 = 1 := by rw [Int.tmod_eq_emod_of_nonneg (by omega)]; omega
        have HZ : Hid ((⟨#[115, 116, 97, 103, 101, 115]⟩ : ByteArray) = ⟨(qOf k).toArray⟩) := by unfold Hid qOf; simp [hm, bShow, bStages, bWait]
        go_wp2_with fail
        go_region_law (refine step_append_q (w := wr) (by rfl) _ _ _ (by rfl) 9 (.string ⟨#[]⟩) Tryz.underlying23 info_strQ rfl w4.heap.size _ n _ (by rfl) hO (.slice (some ⟨wr.heap.size + 1, 0, none⟩) 2 2) (.string X) (.string ⟨#[115, 116, 97, 103, 101, 115]⟩) (by first | rfl | (simp; done)) (by rfl) (by rfl) (by omega) hsz (by first | exact bDs _ _ _ | exact bBs _ _ _ | exact bCs _ _ _ | exact bEs _ _ _) (by first | exact madeQ1 _ _ _ _ _ | exact madeQ2 _ _ _ _ _ | exact madeQ3 _ _ _ _ _ | exact madeQ1 wr.drew _ _ _ _) ?_; intro v6 w6 hO6 hg6)
        all_goals
          obtain ⟨e1, e2⟩ := HXK.out _ HZ.out
          rw [e1, e2] at hO6
          have hB6 := hB.trans (below_of_grownBy hg6 hB.size (fun q hq => by have := (hO.wblk hq).1; omega))
          have hz6 : w4.heap.size ≤ w6.heap.size := Nat.le_trans hsz hg6.size
          clear hO hB hg6 hsz
          go_wp2_with fail
          go_roundw
          case rel => exact ⟨k + 1, by omega, by go_num, hO6, hB6, hz6⟩
          case measure => simp [intOf]; omega
      · have hr : (k : Int).tmod 3 = 2 := by rw [Int.tmod_eq_emod_of_nonneg (by omega)]; omega
        have HZ : Hid ((⟨#[119, 97, 105, 116]⟩ : ByteArray) = ⟨(qOf k).toArray⟩) := by unfold Hid qOf; simp [hm, bShow, bStages, bWait]
        go_wp2_with fail
        go_region_law (refine step_append_q (w := wr) (by rfl) _ _ _ (by rfl) 9 (.string ⟨#[]⟩) Tryz.underlying23 info_strQ rfl w4.heap.size _ n _ (by rfl) hO (.slice (some ⟨wr.heap.size + 1, 0, none⟩) 2 2) (.string X) (.string ⟨#[119, 97, 105, 116]⟩) (by first | rfl | (simp; done)) (by rfl) (by rfl) (by omega) hsz (by first | exact bDs _ _ _ | exact bBs _ _ _ | exact bCs _ _ _ | exact bEs _ _ _) (by first | exact madeQ1 _ _ _ _ _ | exact madeQ2 _ _ _ _ _ | exact madeQ3 _ _ _ _ _ | exact madeQ1 wr.drew _ _ _ _) ?_; intro v6 w6 hO6 hg6)
        all_goals
          obtain ⟨e1, e2⟩ := HXK.out _ HZ.out
          rw [e1, e2] at hO6
          have hB6 := hB.trans (below_of_grownBy hg6 hB.size (fun q hq => by have := (hO.wblk hq).1; omega))
          have hz6 : w4.heap.size ≤ w6.heap.size := Nat.le_trans hsz hg6.size
          clear hO hB hg6 hsz
          go_wp2_with fail
          go_roundw
          case rel => exact ⟨k + 1, by omega, by go_num, hO6, hB6, hz6⟩
          case measure => simp [intOf]; omega
    · have hltz : ¬ (k : Int) < (ls.length : Int) := by omega
      have ek : ls.take k = ls := List.take_of_length_le (by omega)
      rw [ek] at hO
      have HRM := Lib.hid (HRA.out _ _ hB (lnsD_of_own hO))
      have HB := Lib.hid (HB2.out.trans (hB.mono HB2.out.size))
      obtain ⟨E, hE⟩ : ∃ E, E = sesO (moreO 0 ls) := ⟨_, rfl⟩
      rw [← hE] at HA HAL HQ
      clear hO hB ek HRA hE
      go_wp2_with (go_at_call 9; refine HRM.out.mono ?_; rintro e w7 ⟨rfl, hB7⟩; have HB7 := Lib.hid (HB.out.trans (hB7.mono HB.out.size)); clear hB7 HRM HB)
      have hlE := HAL.out
      have hsE : ((A.size : Nat) : Int) = ((E.length : Nat) : Int) := by rw [HA.out.size]
      go_loopw [8, 9, 10, 11] (fun kv nv sv iv V => ∃ (K : ByteArray) (n st i : Nat), kv = .string K ∧ nv = .int .i64 n ∧ sv = .int .i64 st ∧ iv = .int .i64 i ∧ st ≤ i ∧ n ≤ i ∧ i ≤ E.length ∧ K.size ≤ st ∧ Hid (K.data.toList ++ keepO (E.drop i) n ((E.take i).drop st) = sesO ls) ∧ V = w7) (fun _ _ _ iv _ => E.length - (intOf iv).toNat)
      case atStart => exact ⟨⟨#[]⟩, 0, 0, 0, rfl, rfl, rfl, rfl, Nat.le_refl _, Nat.le_refl _, Nat.zero_le _, Nat.zero_le _, by unfold Hid; simpa using HQ.out, rfl⟩
      case round =>
        obtain ⟨K, n, st, i, rfl, rfl, rfl, rfl, hst, hni, hi, hK, HK, rfl⟩ := hrel
        by_cases hil : i < E.length
        · have hilz : (i : Int) < ((E.length : Nat) : Int) := by omega
          have kx := fun W => idx_at HA.out hil W
          have HSTEP := Lib.hid (keep_at hil n ((E.take i).drop st))
          have HCS := Lib.hid (cur_snoc hil hst)
          obtain ⟨b, hb⟩ : ∃ b, b = E.getD i 0 := ⟨_, rfl⟩
          rw [← hb] at kx HSTEP HCS
          have hbl : b.toNat < 256 := b.toNat_lt
          have hb10 : b = 10 ↔ b.toNat = 10 := ⟨fun e => by rw [e]; rfl, fun e => UInt8.toNat_inj.1 (by rw [e]; rfl)⟩
          obtain ⟨bn, hbn⟩ : ∃ bn, bn = b.toNat := ⟨_, rfl⟩
          rw [← hbn] at kx hbl hb10
          have hkm := HK.out
          rw [HSTEP.out] at hkm
          by_cases h10 : bn = 10
          · have d10 : ((bn : Int) == 10) = true := by rw [h10]; rfl
            have e10 := hb10.2 h10
            rw [if_pos e10] at hkm
            have hrn : (n : Int).tmod 2 = ((n % 2 : Nat) : Int) := by rw [Int.tmod_eq_emod_of_nonneg (by omega)]; rfl
            have enil : (E.take (i + 1)).drop (i + 1) = [] := List.drop_eq_nil_of_le (by rw [List.length_take]; omega)
            by_cases h2 : n % 2 = 0
            · have d2 : (((n : Int).tmod 2) == 0) = true := by rw [hrn, h2]; rfl
              rw [if_pos h2] at hkm
              obtain ⟨q, hq⟩ : ∃ q : Nat, q = i + 1 := ⟨_, rfl⟩
              obtain ⟨M, HM, ks⟩ := sl_mid HA.out (a := st) (b := q) (by omega) (by omega)
              have hMs : M.size = i + 1 - st := by rw [HM.out.size, List.length_drop, List.length_take]; omega
              obtain ⟨C, hC, kc⟩ := addS K M (by omega) (by omega)
              have hCs : C.size = K.size + M.size := by rw [← hC, ByteArray.size_append]
              have HN : Hid (C.data.toList ++ keepO (E.drop (i + 1)) (n + 1) ((E.take (i + 1)).drop (i + 1)) = sesO ls) := by
                have h1 : Str8 C (K.data.toList ++ (E.take (i + 1)).drop st) := Str8.app (str8_self K) (by rw [← hq]; exact HM.out) hC
                have h2 : C.data.toList = K.data.toList ++ (E.take (i + 1)).drop st := by unfold Str8 at h1; rw [h1]
                unfold Hid
                rw [enil, h2, HCS.out, e10, ← hkm]
                simp
              have hqz : ((q : Nat) : Int) = (i : Int) + 1 := by omega
              have wq : IntKind.i64.wrap ((i : Int) + 1) = (i : Int) + 1 := IntWalk.i64_in _ (by omega)
              rw [hqz] at ks
              have hCi : C.size ≤ i + 1 := by omega
              clear hkm hb hbn hb10 e10 enil HM hMs hC hCs HK HSTEP HCS hq hqz hrn
              go_wp2_with fail
              go_roundw
              case rel => exact ⟨C, n + 1, i + 1, i + 1, rfl, by go_num, by go_num, by go_num, Nat.le_refl _, by omega, by omega, hCi, HN, trivial⟩
              case measure => (simp only [intOf]; omega)
            · have d2 : (((n : Int).tmod 2) == 0) = false := by rw [hrn]; exact beq_eq_false_iff_ne.mpr (by omega)
              rw [if_neg h2] at hkm
              have HN : Hid (K.data.toList ++ keepO (E.drop (i + 1)) (n + 1) ((E.take (i + 1)).drop (i + 1)) = sesO ls) := by
                unfold Hid; rw [enil, ← hkm]; rfl
              clear hkm hb hbn hb10 e10 enil HK HSTEP HCS hrn
              go_wp2_with fail
              go_roundw
              case rel => exact ⟨K, n + 1, i + 1, i + 1, rfl, by go_num, by go_num, by go_num, Nat.le_refl _, by omega, by omega, by omega, HN, trivial⟩
              case measure => (simp only [intOf]; omega)
          · have d10 : ((bn : Int) == 10) = false := beq_eq_false_iff_ne.mpr (by omega)
            rw [if_neg (fun e => h10 (hb10.1 e))] at hkm
            have HN : Hid (K.data.toList ++ keepO (E.drop (i + 1)) n ((E.take (i + 1)).drop st) = sesO ls) := by
              unfold Hid; rw [HCS.out, hkm]
            clear hkm hb hbn hb10 HK HSTEP HCS
            go_wp2_with fail
            go_roundw
            case rel => exact ⟨K, n, st, i + 1, rfl, rfl, rfl, by go_num, by omega, by omega, by omega, hK, HN, trivial⟩
            case measure => (simp only [intOf]; omega)
        · have hilz : ¬ (i : Int) < ((E.length : Nat) : Int) := by omega
          have hKD : K = D := by
            have h := HK.out
            rw [List.drop_eq_nil_of_le (by omega)] at h
            have h2 : K.data.toList = sesO ls := by simpa [keepO] using h
            have h3 := str8_self K
            rw [h2] at h3
            have h4 := HD.out
            unfold Str8 at h3 h4
            rw [h3, h4]
          subst hKD
          obtain ⟨t1, t2⟩ := same_str K
          clear HK
          go_wp2_with fail
          go_ret
          exact ⟨rfl, HB7.out⟩
end Go.Proofs.YtpaioaknppgggaaGreatDoor
