/- Lines: words as the library cuts them, prefixes, and what the world must hold. The program's session: a line. The program's session: a line that is a call, or none. The reference's desk: a line. The program's session: a line that is a call; every line. RunSession: the program's. RunSession: the reference's. -/
import Derived.Test.YtpaioaknppgggaaGreatDoorSsD
import Derived.Test.YtpaioaknppgggaaGreatDoorSsC
import Derived.Test.YtpaioaknppgggaaGreatDoorTx11
import Derived.Deep.RegionHeld3
import Derived.Test.YtpaioaknppgggaaGreatDoorSsA
namespace Go.Proofs.YtpaioaknppgggaaGreatDoor

section
open Go.RowKit Go.Sort
set_option linter.unusedVariables false
set_option linter.unusedSimpArgs false

theorem splitK_words : ∀ (k : Nat) (l : List UInt8), Lib.count l [32] = k → Lib.splitK [32] 0 k l = words l
  | k, l, hk => by
    have h1 := Lib.index_one l 32
    by_cases hm : Lib.index l [32] = -1
    · have hno : (32 : UInt8) ∉ l := fun hx => by
        obtain ⟨i, hi, e⟩ := List.mem_iff_getElem.1 hx
        rw [h1] at hm
        exact Lib.indexByte_none hm i (by rw [List.getElem?_eq_getElem hi, e])
      have hk0 : k = 0 := by rw [← hk]; exact Lib.count_miss hm
      subst hk0
      rw [words_one hno]; rfl
    · obtain ⟨i, hi⟩ : ∃ i : Nat, Lib.index l [32] = i := ⟨(Lib.index l [32]).toNat, by have := Lib.index_ge l [32]; omega⟩
      have hc := Lib.count_hit (sub := [32]) (by simp) hi
      obtain ⟨k', rfl⟩ : ∃ k', k = k' + 1 := ⟨k - 1, by omega⟩
      have hc2 : Lib.count (l.drop (i + 1)) [32] = k' := by
        have : Lib.count (l.drop (i + [(32 : UInt8)].length)) [32] = k' := by omega
        exact this
      have hr := Lib.index_room l [32] (by omega)
      have hil : i < l.length := by rw [hi] at hr; simp at hr; omega
      obtain ⟨s1, s2⟩ := Lib.indexByte_some (show Lib.indexByte l 32 = (i : Nat) by rw [← h1]; exact hi)
      have ht : (32 : UInt8) ∉ l.take i := fun hx => by
        obtain ⟨j, hj, e⟩ := List.mem_iff_getElem.1 hx
        rw [List.length_take] at hj
        refine s2 j (by omega) ?_
        rw [List.getElem_take] at e
        rw [List.getElem?_eq_getElem (by omega), e]
      have hl : l = l.take i ++ 32 :: l.drop (i + 1) := by
        have e : l.drop i = 32 :: l.drop (i + 1) := by
          rw [List.drop_eq_getElem_cons hil]
          rw [List.getElem?_eq_getElem hil] at s1
          rw [Option.some.inj s1]
        rw [← e, List.take_append_drop]
      have ih := splitK_words k' (l.drop (i + 1)) hc2
      have hne : ¬ (Lib.index l [32] == -1) = true := fun e => hm (beq_iff_eq.1 e)
      have hi2 : (Lib.index l [32]).toNat = i := by omega
      conv => rhs; rw [hl, words_app ht]
      unfold Lib.splitK
      rw [if_neg hne, hi2, Nat.add_zero]
      show _ :: Lib.splitK [32] 0 k' (l.drop (i + 1)) = _
      rw [ih]
theorem split_words {S : ByteArray} {l : List UInt8} (hS : Str8 S l) : (Lib.splitB ⟨#[32]⟩ 0 (Lib.countB S ⟨#[32]⟩) S).map (·.data.toList) = words l := by
  have hl : S.data.toList = l := by unfold Str8 at hS; rw [hS]
  rw [Lib.splitB_data]
  show Lib.splitK [32] 0 (Lib.count S.data.toList [32]) S.data.toList = _
  rw [hl]
  exact splitK_words _ _ rfl
/-- A row of words. -/
def WdsAt (W : World) (v : Value) (ws : List (List UInt8)) : Prop := ∃ g, v = .slice (some ⟨g, 0, none⟩) ws.length ws.length ∧ W.heap[g]? = some (.cells (ws.map strV).toArray 9 (0, 0))
def WdsRet (l : List UInt8) (W : World) (e : Ending) (w' : World) : Prop := ∃ v, e = .returned v ∧ WdsAt w' v (words l) ∧ Below W.heap.size W w'
/-- What the world must hold for the library's functions: the table of powers of ten, and a number that strings.Split reads. -/
def GW (W : World) : Prop := Lib.TabIs Tryz.prog W "internal/strconv.uint64pow10" .u64 Lib.pow10Tab ∧ ∃ m, W.cell? ⟨1, 0, none⟩ = some (.int .i64 m)
theorem GW.below {W W' : World} (h : GW W) (hb : Below W.heap.size W W') : GW W' := by
  obtain ⟨h1, m, h2⟩ := h
  refine ⟨?_, m, (hb.cell (p := ⟨1, 0, none⟩) (World.block_lt_of_cell? W ⟨1, 0, none⟩ h2)).trans h2⟩
  unfold Lib.TabIs World.var? at h1 ⊢
  cases hg : Tryz.prog.globalNamed "internal/strconv.uint64pow10" with
  | none => rw [hg] at h1; exact h1
  | some g =>
    rw [hg] at h1
    have e : W'.heap[g]? = W.heap[g]? := hb.block g (by
      rcases Nat.lt_or_ge g W.heap.size with h | h
      · exact h
      · simp [Array.getElem?_eq_none h] at h1)
    simp only [Option.bind_some] at h1 ⊢
    rw [e]; exact h1
theorem split_call (W : World) (S : ByteArray) (l : List UInt8) (hS : Str8 S l) (hl : l.length ≤ 1000000000) (hg : GW W) :
    Calls Tryz.prog 36 #[.string S, .string ⟨#[32]⟩] W (WdsRet l W) := by
  obtain ⟨m, hm⟩ := hg.2
  refine (Tryz.strings_Split S ⟨#[32]⟩ m W (by rw [hS.size]; omega) hm (by decide)).mono ?_
  rintro e w' ⟨rfl, rfl⟩
  have hw := split_words hS
  have hlen : (words l).length = Lib.countB S ⟨#[32]⟩ + 1 := by
    rw [← hw, List.length_map]; exact Lib.splitB_all ⟨#[32]⟩ (by decide) 0 _ S rfl
  refine ⟨_, rfl, ⟨W.heap.size, by rw [hlen], ?_⟩, (Below.refl _ _).alloc (Nat.le_refl _) _⟩
  rw [heap_alloc_new]
  congr 3
  rw [← hw, List.map_map]
  congr 1
theorem itoa_call (W : World) (n : Nat) (hn : n ≤ 1000000) (hg : GW W) (D : ByteArray) (hD : Str8 D (Lib.decDigits n)) :
    Calls Tryz.prog 31 #[.int .i64 n] W fun e w' => e = .returned (.string D) ∧ Below W.heap.size W w' := by
  refine (Tryz.strconv_Itoa (n : Int) (by omega) (by omega) W hg.1).mono ?_
  rintro e w' ⟨rfl, k, os, rfl⟩
  rw [Lib.itoa_nonneg, hD]
  exact ⟨rfl, ⟨rfl, rfl, rfl, by simp [grow, World.drewN], fun q hq => by
    unfold grow World.drewN
    rw [Array.getElem?_append_left hq]⟩⟩

theorem cut_pre (l : List UInt8) : (Lib.hasPrefix l bPlan = true ↔ l.take 5 = bPlan) ∧ (l.take 5 = bPlan → Lib.trimPrefix l bPlan = l.drop 5) := by
  have h1 : Lib.hasPrefix l bPlan = true ↔ l.take 5 = bPlan := by
    unfold Lib.hasPrefix
    rw [List.isPrefixOf_iff_prefix, List.prefix_iff_eq_take]
    exact ⟨fun h => h.symm, fun h => h.symm⟩
  refine ⟨h1, fun h => ?_⟩
  unfold Lib.trimPrefix
  rw [if_pos (h1.2 h)]; rfl
theorem WdsAt.lt {W : World} {g : Nat} {ws : List (List UInt8)} (h : W.heap[g]? = some (.cells (ws.map strV).toArray 9 (0, 0))) : g < W.heap.size := (Array.getElem?_eq_some_iff.1 h).1
theorem wds_cell {W : World} {g : Nat} {ws : List (List UInt8)} (h : W.heap[g]? = some (.cells (ws.map strV).toArray 9 (0, 0))) {i : Nat} (hi : i < ws.length) : W.cell? ⟨g, i, none⟩ = some (.string ⟨(ws.getD i []).toArray⟩) := by
  rw [Lib.cell_of_heap h]
  simp [hi, strV]
end

section
open Go.RowKit
set_option linter.unusedVariables false
set_option linter.unusedSimpArgs false

theorem SRet.after {T : TypeId} {B gs : Nat} {r : SesV × List UInt8} {W V : World} {e : Ending} {w' : World} (h : SRet T B gs r V e w') (hb : Below W.heap.size W V) (hB : B ≤ W.heap.size) : SRet T B gs r W e w' := by
  obtain ⟨S, h1, h2, h3⟩ := h
  exact ⟨S, h1, h2, h3.after hb hB⟩
theorem SRet.str {T : TypeId} {B gs : Nat} {r : SesV × List UInt8} {W : World} {e : Ending} {w' : World} (h : SRet T B gs r W e w') : ∃ S, e = .returned (.string S) ∧ SRet T B gs r W (.returned (.string S)) w' := by
  obtain ⟨S, h1, h2, h3⟩ := h
  exact ⟨S, h1, S, rfl, h2, h3⟩

set_option maxRecDepth 100000 in
set_option maxHeartbeats 4000000 in
theorem run_order (W : World) (B gs : Nat) (s : SesV) (h : Ses 44 B gs s W) (hB : B ≤ W.heap.size) (hok : sesOk s) (S : ByteArray) (l : List UInt8) (hS : Str8 S l) (ho : orderO l ≠ 0) :
    Calls Tryz.prog 21 #[.pointer (some ⟨gs, 0, none⟩), .string S] W (SRet 44 B gs (ordS s (orderO l)) W) := by
  obtain ⟨r, hr⟩ : ∃ r, r = orderO l := ⟨_, rfl⟩
  rw [← hr] at ho ⊢
  have HO := Lib.hid (impl_orderOf W S l hS r hr)
  have HS := Lib.hid (ses_order W B gs s h hB hok.1 r (by have := orderO_le l; omega))
  have t1 : ((r : Int) != 0) = true := by simp; omega
  clear h hok hS hr
  go_enter Tryz.func21, Tryz.ntmps21
  go_wp2_with (first
    | (go_at_call 28; refine HO.out.mono ?_; rintro e' w2 ⟨rfl, rfl⟩)
    | (go_at_call 29; refine HS.out.mono ?_; intro e' w3 h3; obtain ⟨U, rfl, h4⟩ := h3.str; have H4 := Lib.hid h4; clear h3 h4))
  go_ret
  exact H4.out
set_option maxRecDepth 100000 in
set_option maxHeartbeats 4000000 in
theorem run_show (W : World) (B gs : Nat) (s : SesV) (h : Ses 44 B gs s W) (hB : B ≤ W.heap.size) (hok : sesOk s) :
    Calls Tryz.prog 21 #[.pointer (some ⟨gs, 0, none⟩), .string ⟨#[115, 104, 111, 119]⟩] W (SRet 44 B gs (s, showT s.car) W) := by
  have HO := Lib.hid (impl_orderOf W ⟨#[115, 104, 111, 119]⟩ bShow rfl 0 (by decide))
  obtain ⟨vcl, vst, h⟩ := h
  have HS := Lib.hid (ses_show W B gs s.car vcl vst s.cl s.st h hok.1)
  have HF : Hid (∀ W', Below W.heap.size W W' → SesP 44 B gs s W W') := fun W' hb => SesP.still ⟨vcl, vst, h⟩ hb hB
  clear h hok
  go_enter Tryz.func21, Tryz.ntmps21
  go_wp2_with (first
    | (go_at_call 28; refine HO.out.mono ?_; rintro e' w2 ⟨rfl, rfl⟩)
    | (go_at_call 30; refine HS.out.mono ?_; rintro e' w3 ⟨U, rfl, h4, h5⟩; have H4 := Lib.hid h4; have H5 := Lib.hid h5; clear h4 h5))
  go_ret
  exact ⟨U, rfl, H4.out, HF.out _ H5.out⟩
set_option maxRecDepth 100000 in
set_option maxHeartbeats 4000000 in
theorem run_wait (W : World) (B gs : Nat) (s : SesV) (h : Ses 44 B gs s W) (hB : B ≤ W.heap.size) (hok : sesOk s) (hg : GW W) :
    Calls Tryz.prog 21 #[.pointer (some ⟨gs, 0, none⟩), .string ⟨#[119, 97, 105, 116]⟩] W (SRet 44 B gs (s, Lib.decDigits (totW s.cl).toNat) W) := by
  have HO := Lib.hid (impl_orderOf W ⟨#[119, 97, 105, 116]⟩ bWait rfl 0 (by decide))
  obtain ⟨vcl, vst, h⟩ := h
  have htb := totW_bd hok.2.1
  obtain ⟨D, hD⟩ : ∃ D : ByteArray, D = ⟨(Lib.decDigits (totW s.cl).toNat).toArray⟩ := ⟨_, rfl⟩
  obtain ⟨N, hN⟩ : ∃ N : Nat, totW s.cl = N := ⟨(totW s.cl).toNat, by omega⟩
  have HT : Hid (Calls Tryz.prog 32 #[vcl, .int .i64 0] W fun e w' => e = .returned (.int .i64 N) ∧ Below W.heap.size W w') := by
    rw [← hN]; exact impl_totalWait W B vcl s.cl (cls_of_ownS h.cal) hok.2.1
  have HI : Hid (∀ V, Below W.heap.size W V → Calls Tryz.prog 31 #[.int .i64 N] V fun e w' => e = .returned (.string D) ∧ Below V.heap.size V w') := fun V hb => itoa_call V N (by omega) (hg.below hb) D (by rw [hN] at hD; exact hD)
  have HF : Hid (∀ W', Below W.heap.size W W' → SesP 44 B gs s W W') := fun W' hb => SesP.still ⟨vcl, vst, h⟩ hb hB
  have HD := Lib.hid hD
  obtain ⟨hgs, hf, p0, p1, p2, p3, p4, p5⟩ := h.at
  clear h hok hD hN htb hf p0 p1 p2 p3 p5
  go_enter Tryz.func21, Tryz.ntmps21
  go_wp2_with (first
    | (go_at_call 28; refine HO.out.mono ?_; rintro e' w2 ⟨rfl, rfl⟩)
    | (go_at_call 32; refine HT.out.mono ?_; rintro e' w3 ⟨rfl, h4⟩; have H4 := Lib.hid h4; clear h4)
    | (go_at_call 31; refine (HI.out _ H4.out).mono ?_; rintro e' w4 ⟨rfl, h5⟩; have H5 := Lib.hid (H4.out.trans (h5.mono H4.out.size)); clear h5))
  go_ret
  exact ⟨D, rfl, HD.out, HF.out _ H5.out⟩
set_option maxRecDepth 100000 in
set_option maxHeartbeats 4000000 in
theorem run_stages (W : World) (B gs : Nat) (s : SesV) (h : Ses 44 B gs s W) (hB : B ≤ W.heap.size) (hok : sesOk s) :
    Calls Tryz.prog 21 #[.pointer (some ⟨gs, 0, none⟩), .string ⟨#[115, 116, 97, 103, 101, 115]⟩] W (SRet 44 B gs (s, fmtO s.st) W) := by
  have HO := Lib.hid (impl_orderOf W ⟨#[115, 116, 97, 103, 101, 115]⟩ bStages rfl 0 (by decide))
  obtain ⟨vcl, vst, h⟩ := h
  obtain ⟨D, hD⟩ : ∃ D : ByteArray, D = ⟨(fmtO s.st).toArray⟩ := ⟨_, rfl⟩
  have HT : Hid (Calls Tryz.prog 33 #[vst] W fun e w' => e = .returned (.string D) ∧ Below W.heap.size W w') := by
    rw [hD]; exact impl_format W B vst s.st h.stg.stg
  have HF : Hid (∀ W', Below W.heap.size W W' → SesP 44 B gs s W W') := fun W' hb => SesP.still ⟨vcl, vst, h⟩ hb hB
  have HD := Lib.hid hD
  obtain ⟨hgs, hf, p0, p1, p2, p3, p4, p5⟩ := h.at
  clear h hok hD hf p0 p1 p2 p3 p4
  go_enter Tryz.func21, Tryz.ntmps21
  go_wp2_with (first
    | (go_at_call 28; refine HO.out.mono ?_; rintro e' w2 ⟨rfl, rfl⟩)
    | (go_at_call 33; refine HT.out.mono ?_; rintro e' w3 ⟨rfl, h4⟩; have H4 := Lib.hid h4; clear h4))
  go_ret
  exact ⟨D, rfl, HD.out, HF.out _ H4.out⟩

/-- What none of the words tested first is. -/
def NotQ (l : List UInt8) : Prop := orderO l = 0 ∧ l ≠ bShow ∧ l ≠ bWait ∧ l ≠ bStages
set_option maxRecDepth 100000 in
set_option maxHeartbeats 4000000 in
theorem run_plan (W : World) (B gs : Nat) (s : SesV) (h : Ses 44 B gs s W) (hB : B ≤ W.heap.size) (S : ByteArray) (l : List UInt8) (hS : Str8 S l) (hl : l.length ≤ 1000000000) (hn : NotQ l) (hp : l.take 5 = bPlan ∧ 5 < l.length) :
    Calls Tryz.prog 21 #[.pointer (some ⟨gs, 0, none⟩), .string S] W (SRet 44 B gs (planS s (l.drop 5)) W) := by
  obtain ⟨n0, n1, n2, n3⟩ := hn
  have HO := Lib.hid (impl_orderOf W S l hS 0 n0.symm)
  have t1 : (S.toList == [115, 104, 111, 119]) = false := str_ne hS n1
  have t2 : (S.toList == [119, 97, 105, 116]) = false := str_ne hS n2
  have t3 : (S.toList == [115, 116, 97, 103, 101, 115]) = false := str_ne hS n3
  obtain ⟨X, hX⟩ : ∃ X : ByteArray, X = ⟨(l.drop 5).toArray⟩ := ⟨_, rfl⟩
  have hXs : Str8 X (l.drop 5) := hX
  have hd : l.drop 5 ≠ [] := fun e => by have := congrArg List.length e; simp at this; omega
  have t4 : (X.toList == []) = false := str_ne hXs hd
  have t5 : (X.toList != []) = true := by rw [bne, t4]; rfl
  have t6 : X.toList.isEmpty = false := by rw [str_list hXs]; cases hh : l.drop 5 with
    | nil => exact absurd hh hd
    | cons _ _ => rfl
  have hSl : S.data.toList = l := by unfold Str8 at hS; rw [hS]
  have HC : Hid (Calls Tryz.prog 34 #[.string S, .string ⟨#[112, 108, 97, 110, 32]⟩] W fun e w' => e = .returned (.tuple #[.string X, .bool true]) ∧ W = w') := by
    refine (Tryz.strings_CutPrefix S ⟨#[112, 108, 97, 110, 32]⟩ W).mono ?_
    rintro e w' ⟨rfl, rfl⟩
    refine ⟨?_, rfl⟩
    have c1 := (cut_pre l).1.2 hp.1
    have c2 := (cut_pre l).2 hp.1
    rw [hSl]
    have e1 : Lib.hasPrefix l [112, 108, 97, 110, 32] = true := c1
    have e2 : Lib.trimPrefix l [112, 108, 97, 110, 32] = l.drop 5 := c2
    rw [e1, e2, hX]
  have HP := Lib.hid (ses_plan W B gs s h hB X (l.drop 5) hXs (by simp; omega))
  clear h hS hX hXs hd hSl hp n0 n1 n2 n3
  go_enter Tryz.func21, Tryz.ntmps21
  go_wp2_with (first
    | (go_at_call 28; refine HO.out.mono ?_; rintro e' w2 ⟨rfl, rfl⟩)
    | (go_at_call 34; refine HC.out.mono ?_; rintro e' w2 ⟨rfl, rfl⟩)
    | (go_at_call 35; refine HP.out.mono ?_; intro e' w3 h3; obtain ⟨U, rfl, h4⟩ := h3.str; have H4 := Lib.hid h4; clear h3 h4))
  go_ret
  exact H4.out
end

section
open Go.RowKit
set_option linter.unusedVariables false
set_option linter.unusedSimpArgs false

theorem words_mem_len : ∀ (l : List UInt8), ∀ w ∈ words l, w.length ≤ l.length
  | [], w, h => by simp [words] at h; simp [h]
  | b :: r, w, h => by
    unfold words at h
    have ih := words_mem_len r
    split at h
    · rcases List.mem_cons.1 h with e | e
      · simp [e]
      · have := ih w e; simp; omega
    · split at h
      · rename_i hw; exact absurd hw (words_ne r)
      · rename_i w0 ws hw
        rcases List.mem_cons.1 h with e | e
        · have := ih w0 (by rw [hw]; simp); rw [e]; simp; omega
        · have := ih w (by rw [hw]; simp [e]); simp; omega
theorem words_at_len (l : List UInt8) (i : Nat) : ((words l).getD i []).length ≤ l.length := by
  by_cases h : i < (words l).length
  · rw [List.getD_eq_getElem?_getD, List.getElem?_eq_getElem h]; exact words_mem_len l _ (List.getElem_mem h)
  · rw [List.getD_eq_getElem?_getD, List.getElem?_eq_none (by omega)]; simp
theorem call_pre {l : List UInt8} (h : isCall l = true) : ¬ l.take 5 = bPlan := fun hp => by
  have e : l = [112, 108, 97, 110] ++ 32 :: l.drop 5 := by
    have := (List.take_append_drop 5 l).symm
    rw [hp] at this
    exact this
  unfold isCall at h
  rw [e, words_app (by decide)] at h
  simp [bCall] at h
theorem cut_not (W : World) (S : ByteArray) (l : List UInt8) (hS : Str8 S l) (hp : ¬ (l.take 5 = bPlan ∧ 5 < l.length)) :
    (∃ X, Calls Tryz.prog 34 #[.string S, .string ⟨#[112, 108, 97, 110, 32]⟩] W fun e w' => e = .returned (.tuple #[.string X, .bool false]) ∧ W = w') ∨
    (Calls Tryz.prog 34 #[.string S, .string ⟨#[112, 108, 97, 110, 32]⟩] W fun e w' => e = .returned (.tuple #[.string ⟨#[]⟩, .bool true]) ∧ W = w') := by
  have hSl : S.data.toList = l := by unfold Str8 at hS; rw [hS]
  by_cases h5 : l.take 5 = bPlan
  · right
    have hd : l.drop 5 = [] := List.drop_eq_nil_of_le (by have h6 : ¬ 5 < l.length := fun x => hp ⟨h5, x⟩; omega)
    refine (Tryz.strings_CutPrefix S ⟨#[112, 108, 97, 110, 32]⟩ W).mono ?_
    rintro e w' ⟨rfl, rfl⟩
    refine ⟨?_, rfl⟩
    rw [hSl]
    have e1 : Lib.hasPrefix l [112, 108, 97, 110, 32] = true := (cut_pre l).1.2 h5
    have e2 : Lib.trimPrefix l [112, 108, 97, 110, 32] = l.drop 5 := (cut_pre l).2 h5
    rw [e1, e2, hd]
  · left
    refine ⟨⟨(Lib.trimPrefix S.data.toList [112, 108, 97, 110, 32]).toArray⟩, ?_⟩
    refine (Tryz.strings_CutPrefix S ⟨#[112, 108, 97, 110, 32]⟩ W).mono ?_
    rintro e w' ⟨rfl, rfl⟩
    refine ⟨?_, rfl⟩
    have e1 : Lib.hasPrefix S.data.toList [112, 108, 97, 110, 32] = false := by
      rw [hSl, ← Bool.not_eq_true]; exact fun x => h5 ((cut_pre l).1.1 x)
    rw [e1]

set_option maxRecDepth 100000 in
set_option maxHeartbeats 4000000 in
theorem run_what (W : World) (B gs : Nat) (s : SesV) (h : Ses 44 B gs s W) (hB : B ≤ W.heap.size) (S : ByteArray) (l : List UInt8) (hS : Str8 S l) (hl : l.length ≤ 1000000000) (hn : NotQ l) (hp : ¬ (l.take 5 = bPlan ∧ 5 < l.length)) (hg : GW W) (hc : isCall l = false) :
    Calls Tryz.prog 21 #[.pointer (some ⟨gs, 0, none⟩), .string S] W (SRet 44 B gs (s, bWhat) W) := by
  obtain ⟨n0, n1, n2, n3⟩ := hn
  have HO := Lib.hid (impl_orderOf W S l hS 0 n0.symm)
  have t1 : (S.toList == [115, 104, 111, 119]) = false := str_ne hS n1
  have t2 : (S.toList == [119, 97, 105, 116]) = false := str_ne hS n2
  have t3 : (S.toList == [115, 116, 97, 103, 101, 115]) = false := str_ne hS n3
  have HC := cut_not W S l hS hp
  have HSP := Lib.hid (split_call W S l hS hl hg)
  have HW : Hid ((words l).length ≠ 4 ∨ (words l).getD 0 [] ≠ bCall) := by
    unfold Hid
    unfold isCall at hc
    by_cases h4 : (words l).length = 4
    · right; simpa [h4] using hc
    · left; exact h4
  have HF : Hid (∀ W', Below W.heap.size W W' → SesP 44 B gs s W W') := fun W' hb => SesP.still h hb hB
  obtain ⟨ws, hws⟩ : ∃ ws, ws = words l := ⟨_, rfl⟩
  have hwl : ws.length ≤ 9000000000 := by
    have := split_words hS
    rw [hws, ← this, List.length_map]
    have h2 := Lib.splitB_length_le ⟨#[32]⟩ 0 (Lib.countB S ⟨#[32]⟩) S
    have h3 := Lib.count_le S.data.toList [32]
    have h4 : S.data.toList.length = l.length := by unfold Str8 at hS; rw [hS]
    have h5 : Lib.countB S ⟨#[32]⟩ = Lib.count S.data.toList [32] := rfl
    omega
  have HSP2 : Hid (Calls Tryz.prog 36 #[.string S, .string ⟨#[32]⟩] W fun e w' => ∃ g, e = .returned (.slice (some ⟨g, 0, none⟩) ws.length ws.length) ∧ w'.heap[g]? = some (.cells (ws.map strV).toArray 9 (0, 0)) ∧ Below W.heap.size W w') := by
    refine HSP.out.mono ?_
    rintro e w' ⟨v, rfl, ⟨g, rfl, h1⟩, h2⟩
    rw [hws]
    exact ⟨g, rfl, h1, h2⟩
  rw [← hws] at HW
  have hpos : 0 < ws.length := by
    rw [hws]; cases hh : words l with
    | nil => exact absurd hh (words_ne l)
    | cons _ _ => simp
  clear h hS n0 n1 n2 n3 hg hc hp HSP hws
  obtain ⟨n, hn⟩ : ∃ n, n = ws.length := ⟨_, rfl⟩
  rw [← hn] at HSP2 HW hwl hpos
  have HN := Lib.hid hn
  clear hn
  have hnz : (0 : Int) < (n : Int) := by omega
  by_cases h4 : n = 4
  · have HW0 : Hid (ws.getD 0 [] ≠ bCall) := by
      rcases HW.out with e | e
      · exact absurd h4 e
      · exact e
    have tn : ((n : Int) == 4) = true := by simp [h4]
    rcases HC with ⟨X, HC⟩ | HC
    all_goals
      have HC := Lib.hid HC
      go_enter Tryz.func21, Tryz.ntmps21
      go_wp2_with (first
        | (go_at_call 28; refine HO.out.mono ?_; rintro e' w2 ⟨rfl, rfl⟩)
        | (go_at_call 34; refine HC.out.mono ?_; rintro e' w2 ⟨rfl, rfl⟩)
        | (go_at_call 36; refine HSP2.out.mono ?_; rintro e' w3 ⟨g, rfl, hh, hb⟩; have c0 := wds_cell hh (i := 0) (by have := HN.out; omega); obtain ⟨S0, hS0⟩ : ∃ S0 : ByteArray, S0 = ⟨(ws.getD 0 []).toArray⟩ := ⟨_, rfl⟩; rw [← hS0] at c0; have t5 : (S0.toList == [99, 97, 108, 108]) = false := str_ne (l := ws.getD 0 []) hS0 HW0.out; have H4 := Lib.hid hb; clear hh hb hS0))
      go_ret
      exact ⟨sV bWhat, rfl, rfl, HF.out _ H4.out⟩
  · have tn : ((n : Int) == 4) = false := by simp; omega
    have tn2 : (n == 4) = false := by simp [h4]
    rcases HC with ⟨X, HC⟩ | HC
    all_goals
      have HC := Lib.hid HC
      go_enter Tryz.func21, Tryz.ntmps21
      go_wp2_with (first
        | (go_at_call 28; refine HO.out.mono ?_; rintro e' w2 ⟨rfl, rfl⟩)
        | (go_at_call 34; refine HC.out.mono ?_; rintro e' w2 ⟨rfl, rfl⟩)
        | (go_at_call 36; refine HSP2.out.mono ?_; rintro e' w3 ⟨g, rfl, hh, hb⟩; have H4 := Lib.hid hb; clear hh hb))
      go_ret
      exact ⟨sV bWhat, rfl, rfl, HF.out _ H4.out⟩
end

section
open Go.RowKit
set_option linter.unusedVariables false
set_option linter.unusedSimpArgs false

/-- The numbers of the words behind the first. -/
def nums (ws : List (List UInt8)) (k : Nat) : List Int := (List.range k).map fun j => psn (ws.getD (j + 1) [])
theorem nums_len (ws : List (List UInt8)) (k : Nat) : (nums ws k).length = k := by simp [nums]
theorem nums_succ (ws : List (List UInt8)) (k : Nat) : nums ws (k + 1) = nums ws k ++ [psn (ws.getD (k + 1) [])] := by unfold nums; rw [List.range_succ]; simp
theorem nums_at (ws : List (List UInt8)) {k i : Nat} (h : i < k) : (nums ws k).getD i 0 = psn (ws.getD (i + 1) []) := by simp [nums, h]
theorem info_intD : (Tryz.prog.info? 3).map (fun i => (i.zero, i.size, i.bytes)) = some (some (.int .i64 0), 1, 8) := by kernel_rfl
theorem own_snocD {w : World} {lo n : Nat} {v : Value} {l : List Int} {x : Int} (h : Own w lo 3 1 v (n + 1) (l.map (Value.int .i64) ++ [.int .i64 x])) : Own w lo 3 1 v (n + 1) ((l ++ [x]).map (Value.int .i64)) := by
  simpa using h
/-- The order of the reference's tests gives the same line. -/
theorem line_same (s : SesV) (l : List UInt8) : lineS s l =
    if orderO l ≠ 0 then ordS s (orderO l) else if l = bShow then (s, showT s.car) else if isCall l = true then callS s (callOf l) else if l = bWait then (s, Lib.decDigits (totW s.cl).toNat) else
    if 5 < l.length ∧ l.take 5 = bPlan then planS s (l.drop 5) else if l = bStages then (s, fmtO s.st) else (s, bWhat) := by
  unfold lineS
  by_cases h0 : orderO l ≠ 0
  · rw [if_pos h0, if_pos h0]
  · rw [if_neg h0, if_neg h0]
    by_cases h1 : l = bShow
    · rw [if_pos h1, if_pos h1]
    · rw [if_neg h1, if_neg h1]
      by_cases hc : isCall l = true
      · have c1 : ¬ l = bWait := fun e => by rw [e] at hc; revert hc; decide
        have c2 : ¬ l = bStages := fun e => by rw [e] at hc; revert hc; decide
        rw [if_neg c1, if_neg c2, if_neg (fun x => call_pre hc x.1), if_pos hc, if_pos hc]
      · rw [if_neg hc, if_neg hc]
        by_cases h2 : l = bWait
        · rw [if_pos h2, if_pos h2]
        · rw [if_neg h2, if_neg h2]
          by_cases h3 : l = bStages
          · have : ¬ (5 < l.length ∧ l.take 5 = bPlan) := by rw [h3]; decide
            rw [if_pos h3, if_neg this, if_pos h3]
          · rw [if_neg h3]
            by_cases h4 : l.take 5 = bPlan ∧ 5 < l.length
            · rw [if_pos h4, if_pos ⟨h4.2, h4.1⟩]
            · rw [if_neg h4, if_neg (fun x => h4 ⟨x.2, x.1⟩), if_neg h3]

set_option maxRecDepth 100000 in
set_option maxHeartbeats 16000000 in
theorem desk_line (W : World) (B gs : Nat) (s : SesV) (h : Ses 57 B gs s W) (hB : B ≤ W.heap.size) (hok : sesOk s) (S : ByteArray) (l : List UInt8) (hS : Str8 S l) (hl : l.length ≤ 1000000000) :
    Calls Tryz.prog 24 #[.pointer (some ⟨gs, 0, none⟩), .string S] W (SRet 57 B gs (lineS s l) W) := by
  have HLS := Lib.hid (line_same s l)
  obtain ⟨R, hRR⟩ : ∃ R, R = lineS s l := ⟨_, rfl⟩
  rw [← hRR] at HLS ⊢
  clear hRR
  have HSPL := Lib.hid (spec_splitWords W S l hS hl)
  have HWL : Hid (∀ i, ((words l).getD i []).length ≤ 1000000000) := fun i => by have := words_at_len l i; omega
  have HH := Lib.hid h
  have HS := Lib.hid hS
  obtain ⟨r, hr⟩ : ∃ r, r = orderO l := ⟨_, rfl⟩
  have hr7 : r ≤ 7 := by rw [hr]; exact orderO_le l
  have HOO : Hid (∀ V, Calls Tryz.prog 41 #[.string S] V fun e w' => e = .returned (.int .i64 r) ∧ Below V.heap.size V w') := fun V => spec_orderOf V S l hS r hr
  have HORD : Hid (r ≠ 0 → ∀ V, Below W.heap.size W V → Calls Tryz.prog 42 #[.pointer (some ⟨gs, 0, none⟩), .int .i64 r] V (SRet 57 B gs (ordS s r) W)) := fun h0 V hb =>
    (desk_order V B gs s (h.below hb) (Nat.le_trans hB hb.size) hok.1 r (by omega)).mono fun e w' hh => hh.after hb hB
  have HSH : Hid (∀ V, Below W.heap.size W V → Calls Tryz.prog 43 #[.pointer (some ⟨gs, 0, none⟩)] V (SRet 57 B gs (s, showT s.car) W)) := fun V hb => by
    obtain ⟨vcl, vst, hh⟩ := h.below hb
    refine (desk_show V B gs s.car vcl vst s.cl s.st hh hok.1).mono ?_
    rintro e w' ⟨U, rfl, h1, h2⟩
    exact ⟨U, rfl, h1, (SesP.still (h.below hb) h2 (Nat.le_trans hB hb.size)).after hb hB⟩
  have HCA : Hid (∀ V f t m, callOf l = (f, t, m) → Below W.heap.size W V → Calls Tryz.prog 44 #[.pointer (some ⟨gs, 0, none⟩), .agg #[.int .i64 f, .int .i64 t, .int .i64 m]] V (fun e w' => SRet 57 B gs (callS s (callOf l)) W e w' ∧ Lib.OthersKept 73 (some gs) V w')) := fun V f t m e hb => by
    refine (desk_call V B gs s (h.below hb) (Nat.le_trans hB hb.size) hok.2.1.1 f t m).mono ?_
    intro e' w' hr
    rw [e]
    refine ⟨hr.after hb hB, ?_⟩
    obtain ⟨_, _, _, hp⟩ := hr
    exact hp.2.2
  have HPL : Hid (∀ V X, Str8 X (l.drop 5) → Below W.heap.size W V → Calls Tryz.prog 47 #[.pointer (some ⟨gs, 0, none⟩), .string X] V (SRet 57 B gs (planS s (l.drop 5)) W)) := fun V X hX hb =>
    (desk_plan V B gs s (h.below hb) (Nat.le_trans hB hb.size) X _ hX (by simp; omega)).mono fun e w' hh => hh.after hb hB
  have htb := totW_bd hok.2.1
  have HF : Hid (∀ W', Below W.heap.size W W' → SesP 57 B gs s W W') := fun W' hb => SesP.still h hb hB
  obtain ⟨vcl, vst, hu⟩ := h
  have HTW : Hid (∀ V, Below W.heap.size W V → Calls Tryz.prog 46 #[vcl, .int .i64 0] V fun e w' => e = .returned (.int .i64 (totW s.cl)) ∧ Below V.heap.size V w') := fun V hb => spec_totalWait V vcl s.cl ((cls_of_ownS (hu.below hb).cal).mono (Nat.zero_le _)) hok.2.1
  have HFS : Hid (∀ V, Below W.heap.size W V → Calls Tryz.prog 48 #[vst] V fun e w' => e = .returned (.string ⟨(fmtO s.st).toArray⟩) ∧ Below V.heap.size V w') := fun V hb => spec_format V B vst s.st (hu.below hb).stg.stg
  have HP : Hid (∀ V, Below W.heap.size W V → V.cell? ⟨gs, 4, none⟩ = some vcl ∧ V.cell? ⟨gs, 5, none⟩ = some vst) := fun V hb => ⟨(hu.below hb).at.2.2.2.2.2.2.1, (hu.below hb).at.2.2.2.2.2.2.2⟩
  have HTY : Hid (∀ V, Below W.heap.size W V → ∃ c fz, V.heap[gs]? = some (.cells c 57 fz)) := fun V hb => own_box_type (hu.below hb).box
  obtain ⟨ws, hws⟩ : ∃ ws, ws = words l := ⟨_, rfl⟩
  have hpos : 0 < ws.length := by
    rw [hws]; cases hh : words l with
    | nil => exact absurd hh (words_ne l)
    | cons _ _ => simp
  have hwl : ws.length ≤ 9000000000 := by
    have := split_words hS
    rw [hws, ← this, List.length_map]
    have h2 := Lib.splitB_length_le ⟨#[32]⟩ 0 (Lib.countB S ⟨#[32]⟩) S
    have h3 := Lib.count_le S.data.toList [32]
    have h4 : S.data.toList.length = l.length := by unfold Str8 at hS; rw [hS]
    have h5 : Lib.countB S ⟨#[32]⟩ = Lib.count S.data.toList [32] := rfl
    omega
  have HSPL2 : Hid (Calls Tryz.prog 39 #[.string S] W fun e w' => ∃ v, e = .returned v ∧ Own w' W.heap.size 9 1 v ws.length (ws.map strV) ∧ Below W.heap.size W w') := by rw [hws]; exact HSPL.out
  have HWL2 : Hid (∀ i, (ws.getD i []).length ≤ 1000000000) := by rw [hws]; exact HWL.out
  have HIC : Hid (isCall l = (decide (ws.length = 4) && decide (ws.getD 0 [] = bCall)) ∧ callOf l = (psn (ws.getD 1 []), psn (ws.getD 2 []), psn (ws.getD 3 []))) := by
    unfold Hid; rw [hws]; unfold isCall callOf; exact ⟨rfl, by rw [pn_psn, pn_psn, pn_psn]⟩
  clear HSPL HWL hu hS hws
  have HR := Lib.hid hr
  clear hr
  have HLS2 : Hid (R = if r ≠ 0 then ordS s r else if l = bShow then (s, showT s.car) else if isCall l = true then callS s (callOf l) else if l = bWait then (s, Lib.decDigits (totW s.cl).toNat) else if 5 < l.length ∧ l.take 5 = bPlan then planS s (l.drop 5) else if l = bStages then (s, fmtO s.st) else (s, bWhat)) := by unfold Hid; rw [HR.out]; exact HLS.out
  clear HLS
  go_enter Tryz.func24, Tryz.ntmps24
  go_wp2_with (go_at_call 39; refine HSPL2.out.mono ?_; rintro e' w1 ⟨v1, rfl, hO1, hB1⟩; obtain ⟨ao1, cap1, rfl, hc1, hm1⟩ := hO1.form; have HO1 := Lib.hid hO1; have HB1 := Lib.hid hB1; clear hO1 hB1)
  obtain ⟨n, hn⟩ : ∃ n, n = ws.length := ⟨_, rfl⟩
  rw [← hn] at HO1 hc1 hpos hwl ⊢
  have HN := Lib.hid hn
  clear hn
  have hE0 := Own.made w1 [] 3 w1.heap.size 1 0 rfl (Nat.le_refl _) (by decide)
  have hEB : Below w1.heap.size w1 (w1.alloc (.cells #[] 3)) := (Below.refl _ _).alloc (Nat.le_refl _) _
  go_loopw [6, 7] (fun nv iv V => ∃ k : Nat, k + 1 ≤ n ∧ iv = .int .i64 ((k + 1 : Nat) : Int) ∧ Own V w1.heap.size 3 1 nv k ((nums ws k).map (Value.int .i64)) ∧ Below w1.heap.size w1 V) (fun _ iv _ => n - (intOf iv).toNat)
  case atStart => exact ⟨0, by omega, rfl, hE0, hEB⟩
  case round =>
    clear hE0 hEB
    obtain ⟨k, hk, rfl, hO, hB2⟩ := hrel
    have hsz := hB2.size
    by_cases hlt : k + 1 < n
    · have hltz : ((k : Int) + 1) < (n : Int) := by omega
      obtain ⟨b1, o1, e1, _, hb1, hx1⟩ := (show Rd w1 W.heap.size (.slice ao1 n cap1) 1 ws.length (ws.map strV) by rw [← HN.out]; exact HO1.out.rd).spot [] (by have := HN.out; omega)
      subst e1
      have s1 := (hB2.cell (p := ⟨b1, o1 + (k + 1), none⟩) hb1).trans (hx1 (k + 1) (by have := HN.out; omega))
      obtain ⟨X, hX⟩ : ∃ X : ByteArray, X = ⟨(ws.getD (k + 1) []).toArray⟩ := ⟨_, rfl⟩
      have s1' : wr.cell? ⟨b1, o1 + (k + 1), none⟩ = some (.string X) := by rw [hX]; exact s1
      obtain ⟨p, hp⟩ : ∃ p, p = psn (ws.getD (k + 1) []) := ⟨_, rfl⟩
      have HPI : Hid (Calls Tryz.prog 40 #[.string X] wr fun e w' => e = .returned (.int .i64 p) ∧ Below wr.heap.size wr w') := by rw [hp]; exact spec_parseInt wr X _ hX (HWL2.out _)
      have HNS : Hid (nums ws (k + 1) = nums ws k ++ [p]) := by rw [hp]; exact nums_succ ws k
      have HO := Lib.hid hO
      have HB2 := Lib.hid hB2
      clear hx1 hX hp s1 hO hB2
      go_wp2_with (first
        | (go_at_call 40; refine HPI.out.mono ?_; rintro e' w3 ⟨rfl, hB3⟩; have hO3 := HO.out.below hB3 (Nat.le_refl _); have hB4 := HB2.out.trans (hB3.mono HB2.out.size); have hz3 := hB4.size; clear hB3)
        | (at_builtin; refine wpList_append_one _ rfl _ _ 27 rfl 3 (.int .i64 0) 8 Tryz.underlying27 info_intD rfl w1.heap.size _ k _ rfl hO3 _ _ rfl rfl (by omega) (by omega) hz3 ?_; intro v8 w8 hO8 hg8 _))
      have hB8 := hB4.trans (below_of_grownBy hg8 hz3 (fun q hq => (hO3.wblk hq).1))
      have hO9 : Own w8 w1.heap.size 3 1 v8 (k + 1) ((nums ws (k + 1)).map (Value.int .i64)) := by rw [HNS.out]; exact own_snocD hO8
      clear hO3 hB4 hO8 hg8
      go_roundw
      case rel => exact ⟨k + 1, by omega, by go_num, hO9, hB8⟩
      case measure => simp [intOf]; omega
    · have ek : k + 1 = n := by omega
      have hltz : ¬ ((k : Int) + 1) < (n : Int) := by omega
      have hBV : Below W.heap.size W wr := HB1.out.trans (hB2.mono HB1.out.size)
      obtain ⟨b1, o1, e1, _, hb1, hx1⟩ := (show Rd w1 W.heap.size (.slice ao1 n cap1) 1 ws.length (ws.map strV) by rw [← HN.out]; exact HO1.out.rd).spot [] (by have := HN.out; omega)
      subst e1
      obtain ⟨X0, hX0⟩ : ∃ X : ByteArray, X = ⟨(ws.getD 0 []).toArray⟩ := ⟨_, rfl⟩
      have hw0 : w1.cell? ⟨b1, o1 + 0, none⟩ = some (.string X0) := by rw [hX0]; exact hx1 0 (by have := HN.out; omega)
      have HW0 : Hid (∀ V, Below w1.heap.size w1 V → V.cell? ⟨b1, o1, none⟩ = some (.string X0)) := fun V hb => (hb.cell (p := ⟨b1, o1 + 0, none⟩) hb1).trans hw0
      obtain ⟨ao3, cap3, rfl, hc3, hm3⟩ := hO.form
      have HB2 := Lib.hid hB2
      have HO := Lib.hid hO
      have HBV := Lib.hid hBV
      have HX0 : Hid (Str8 X0 (ws.getD 0 [])) := hX0
      clear hx1 hX0 hw0 hB2 hO hBV
      have hsa : (S.size : Int) = (l.length : Int) := by rw [HS.out.size]
      have HTS : Hid (∀ c, (S.toList == c) = decide (l = c)) := fun c => by rw [str_list HS.out]; by_cases e : l = c <;> simp [e]
      by_cases h0 : r = 0
      · subst h0
        by_cases h1 : l = bShow
        · have t1 : (S.toList == [115, 104, 111, 119]) = true := by rw [HTS.out]; exact decide_eq_true h1
          have HE : Hid (R = (s, showT s.car)) := by unfold Hid; rw [HLS2.out, if_neg (by simp), if_pos h1]
          clear HORD HCA HPL HTW HFS HTS
          go_wp2_with (first
            | (go_at_call 41; refine (HOO.out wr).mono ?_; rintro e' w3 ⟨rfl, hb⟩; have H3 := Lib.hid (HBV.out.trans (hb.mono HBV.out.size)); have y0 := HW0.out _ (HB2.out.trans (hb.mono HB2.out.size)); have HO3 := Lib.hid (HO.out.below hb (Nat.le_refl _)); obtain ⟨y4, y5⟩ := HP.out _ H3.out; have hz3 := Lib.hid hb.size; clear hb)
            | (go_at_call 43; refine (HSH.out _ H3.out).mono ?_; intro e' w5 h5; obtain ⟨U, rfl, h6⟩ := h5.str; have H6 := Lib.hid h6; clear h5 h6))
          go_ret
          rw [HE.out]
          exact H6.out
        · have t1 : (S.toList == [115, 104, 111, 119]) = false := by rw [HTS.out]; exact decide_eq_false h1
          by_cases hc : isCall l = true
          · have HE : Hid (R = callS s (callOf l)) := by unfold Hid; rw [HLS2.out, if_neg (by simp), if_neg h1, if_pos hc]
            have hc2 := HIC.out.1
            rw [hc] at hc2
            have hcc := hc2.symm
            rw [Bool.and_eq_true, decide_eq_true_eq, decide_eq_true_eq] at hcc
            have ek3 : k = 3 := by have := HN.out; omega
            subst ek3
            have hX : X0 = ⟨#[99, 97, 108, 108]⟩ := by have := HX0.out; rw [hcc.2] at this; exact this
            subst hX
            obtain ⟨f, hf⟩ : ∃ f, f = psn (ws.getD 1 []) := ⟨_, rfl⟩
            obtain ⟨t, ht⟩ : ∃ t, t = psn (ws.getD 2 []) := ⟨_, rfl⟩
            obtain ⟨m, hm⟩ : ∃ m, m = psn (ws.getD 3 []) := ⟨_, rfl⟩
            have HCO : Hid (callOf l = (f, t, m)) := by unfold Hid; rw [HIC.out.2, hf, ht, hm]
            have HNM : Hid ((nums ws 3).map (Value.int .i64) = [.int .i64 f, .int .i64 t, .int .i64 m]) := by rw [hf, ht, hm]; rfl
            clear hf ht hm hc2 hcc HORD HSH HPL HTW HFS HTS hc h1
            go_wp2_with (first | (go_at_call 41; refine (HOO.out wr).mono ?_; rintro e' w3 ⟨rfl, hb⟩; have H3 := Lib.hid (HBV.out.trans (hb.mono HBV.out.size)); have y0 := HW0.out _ (HB2.out.trans (hb.mono HB2.out.size)); have HO3 := Lib.hid (HO.out.below hb (Nat.le_refl _)); obtain ⟨y4, y5⟩ := HP.out _ H3.out; have hz3 := Lib.hid hb.size; clear hb))
            have HCA2 : Hid (∀ V, Below w3.heap.size w3 V → Calls Tryz.prog 44 #[.pointer (some ⟨gs, 0, none⟩), .agg #[.int .i64 f, .int .i64 t, .int .i64 m]] V (fun e w' => SRet 57 B gs (callS s (callOf l)) W e w' ∧ Own w' w1.heap.size 3 1 (.slice ao3 3 cap3) 3 ((nums ws 3).map (Value.int .i64)))) := fun V hb => by
              have hbW := H3.out.trans (hb.mono H3.out.size)
              refine (HCA.out V f t m HCO.out hbW).mono ?_
              rintro e w' ⟨h1, h2⟩
              obtain ⟨c, fz, k1⟩ := HTY.out V hbW
              exact ⟨h1, own_kept (HO3.out.below hb (Nat.le_refl _)) h2 (by decide) ⟨c, _, fz, k1, by decide⟩⟩
            have HOC : Hid (∀ V, Own V w1.heap.size 3 1 (.slice ao3 3 cap3) 3 ((nums ws 3).map (Value.int .i64)) → ∃ g, ao3 = some ⟨g, 0, none⟩ ∧ V.cell? ⟨g, 0, none⟩ = some (.int .i64 f) ∧ V.cell? ⟨g, 1, none⟩ = some (.int .i64 t) ∧ V.cell? ⟨g, 2, none⟩ = some (.int .i64 m)) := fun V ho => by
              obtain ⟨g, e1, _, _, hcell, _, _⟩ := ho.parts (by omega)
              rw [HNM.out] at hcell
              exact ⟨g, e1, hcell 0 (by simp), hcell 1 (by simp), hcell 2 (by simp)⟩
            obtain ⟨g, rfl, c0, c1, c2⟩ := HOC.out _ HO3.out
            clear HCA HO HX0 HW0 HOO HWL2 HSPL2 t1
            go_region_held3 (fun V => V.cell? ⟨g, 0, none⟩ = some (.int .i64 f) ∧ V.cell? ⟨g, 1, none⟩ = some (.int .i64 t) ∧ V.cell? ⟨g, 2, none⟩ = some (.int .i64 m))
              (first | go_keep | exact hS9)
              ((go_at_call 44; refine (HCA2.out _ (by first | exact Below.refl _ _ | exact Below.drew (Below.refl _ _))).mono ?_; rintro e' w9 ⟨h3, h9⟩; have hS9 : w9.cell? ⟨g, 0, none⟩ = some (.int .i64 f) ∧ w9.cell? ⟨g, 1, none⟩ = some (.int .i64 t) ∧ w9.cell? ⟨g, 2, none⟩ = some (.int .i64 m) := (by obtain ⟨g', e1, x0, x1, x2⟩ := HOC.out _ h9; cases e1; exact ⟨x0, x1, x2⟩); obtain ⟨U, rfl, h4⟩ := h3.str; have H9 := Lib.hid h4; clear h3 h4 h9))
            go_wp2_with fail
            go_ret
            rw [HE.out]
            exact H9.out
          · have HNC : Hid (ws.length ≠ 4 ∨ ws.getD 0 [] ≠ bCall) := by
              unfold Hid
              have hc2 := HIC.out.1
              by_cases h4 : ws.length = 4
              · right; intro e; exact hc (by rw [hc2, h4, e]; rfl)
              · left; exact h4
            have hNC : (X0.toList == [99, 97, 108, 108]) = false ∨ (X0 = ⟨#[99, 97, 108, 108]⟩ ∧ ((k : Int) == 3) = false ∧ (k == 3) = false) := by
              by_cases e : ws.getD 0 [] = bCall
              · right
                rcases HNC.out with e4 | e4
                · have hk3 : k ≠ 3 := by have := HN.out; omega
                  exact ⟨by have := HX0.out; rw [e] at this; exact this, by simp; omega, by simp [hk3]⟩
                · exact absurd e e4
              · left; exact str_ne HX0.out e
            by_cases h2 : l = bWait
            · have t2 : (S.toList == [119, 97, 105, 116]) = true := by rw [HTS.out]; exact decide_eq_true h2
              have HE : Hid (R = (s, Lib.decDigits (totW s.cl).toNat)) := by unfold Hid; rw [HLS2.out, if_neg (by simp), if_neg h1, if_neg hc, if_pos h2]
              obtain ⟨N, hN⟩ : ∃ N : Nat, totW s.cl = N := ⟨(totW s.cl).toNat, by omega⟩
              obtain ⟨D, hD⟩ : ∃ D : ByteArray, D = ⟨(Lib.decDigits N).toArray⟩ := ⟨_, rfl⟩
              have HFI := Lib.hid (fun V => fmt_call N D V (by omega) hD)
              have HT2 : Hid (∀ V, Below W.heap.size W V → Calls Tryz.prog 46 #[vcl, .int .i64 0] V fun e w' => e = .returned (.int .i64 N) ∧ Below V.heap.size V w') := by rw [← hN]; exact HTW.out
              have HD : Hid (Str8 D (Lib.decDigits (totW s.cl).toNat)) := by rw [hN]; exact hD
              clear HORD HSH HCA HPL HTW HFS HTS hD hN h1 h2 hc htb
              rcases hNC with tc | ⟨hX, tk, tk2⟩
              all_goals
                first | subst hX | skip
                go_wp2_with (first
                  | (go_at_call 41; refine (HOO.out wr).mono ?_; rintro e' w3 ⟨rfl, hb⟩; have H3 := Lib.hid (HBV.out.trans (hb.mono HBV.out.size)); have y0 := HW0.out _ (HB2.out.trans (hb.mono HB2.out.size)); have HO3 := Lib.hid (HO.out.below hb (Nat.le_refl _)); obtain ⟨y4, y5⟩ := HP.out _ H3.out; have hz3 := Lib.hid hb.size; clear hb)
                  | (go_at_call 46; refine (HT2.out _ H3.out).mono ?_; rintro e' w4 ⟨rfl, hb⟩; have H4 := Lib.hid (H3.out.trans (hb.mono H3.out.size)); clear hb)
                  | (go_at_call 45; refine (HFI.out _).mono ?_; rintro e' w5 ⟨rfl, hb⟩; have H5 := Lib.hid (H4.out.trans (hb.mono H4.out.size)); clear hb))
                go_ret
                rw [HE.out]
                exact ⟨D, rfl, HD.out, HF.out _ H5.out⟩
            · have t2 : (S.toList == [119, 97, 105, 116]) = false := by rw [HTS.out]; exact decide_eq_false h2
              by_cases h5 : 5 < l.length
              · have d5 : (5 : Int) < (l.length : Int) := by omega
                obtain ⟨A, HA, ka0⟩ := sl_to HS.out (n := 5) (by omega)
                obtain ⟨Bs, HBs, kb0⟩ := sl_from HS.out (n := 5) (by omega)
                have ka : ∀ W, (Instr.slice 9 (.string S) none (some (.int .i64 5)) none).run Tryz.prog W = .ok (.string A) W := ka0
                have kb : ∀ W, (Instr.slice 9 (.string S) (some (.int .i64 5)) none none).run Tryz.prog W = .ok (.string Bs) W := kb0
                clear ka0 kb0
                by_cases h6 : l.take 5 = bPlan
                · have tA : (A.toList == [112, 108, 97, 110, 32]) = true := by rw [str_list HA.out, h6]; rfl
                  have HE : Hid (R = planS s (l.drop 5)) := by unfold Hid; rw [HLS2.out, if_neg (by simp), if_neg h1, if_neg hc, if_neg h2, if_pos ⟨h5, h6⟩]
                  clear HORD HSH HCA HTW HFS HTS h1 h2 hc h6
                  rcases hNC with tc | ⟨hX, tk, tk2⟩
                  all_goals
                    first | subst hX | skip
                    go_wp2_with (first
                      | (go_at_call 41; refine (HOO.out wr).mono ?_; rintro e' w3 ⟨rfl, hb⟩; have H3 := Lib.hid (HBV.out.trans (hb.mono HBV.out.size)); have y0 := HW0.out _ (HB2.out.trans (hb.mono HB2.out.size)); have HO3 := Lib.hid (HO.out.below hb (Nat.le_refl _)); obtain ⟨y4, y5⟩ := HP.out _ H3.out; have hz3 := Lib.hid hb.size; clear hb)
                      | (go_at_call 47; refine (HPL.out _ Bs HBs.out H3.out).mono ?_; intro e' w5 h5; obtain ⟨U, rfl, h6⟩ := h5.str; have H6 := Lib.hid h6; clear h5 h6))
                    go_ret
                    rw [HE.out]
                    exact H6.out
                · have tA : (A.toList == [112, 108, 97, 110, 32]) = false := by rw [str_list HA.out]; simp only [beq_eq_false_iff_ne]; exact h6
                  by_cases h7 : l = bStages
                  · have t3 : (S.toList == [115, 116, 97, 103, 101, 115]) = true := by rw [HTS.out]; exact decide_eq_true h7
                    have HE : Hid (R = (s, fmtO s.st)) := by unfold Hid; rw [HLS2.out, if_neg (by simp), if_neg h1, if_neg hc, if_neg h2, if_neg (fun x => h6 x.2), if_pos h7]
                    obtain ⟨D, hD⟩ : ∃ D : ByteArray, D = ⟨(fmtO s.st).toArray⟩ := ⟨_, rfl⟩
                    have HT2 : Hid (∀ V, Below W.heap.size W V → Calls Tryz.prog 48 #[vst] V fun e w' => e = .returned (.string D) ∧ Below V.heap.size V w') := by rw [hD]; exact HFS.out
                    have HD : Hid (Str8 D (fmtO s.st)) := hD
                    clear HORD HSH HCA HPL HTW HFS HTS hD h1 h2 hc h7
                    rcases hNC with tc | ⟨hX, tk, tk2⟩
                    all_goals
                      first | subst hX | skip
                      go_wp2_with (first
                        | (go_at_call 41; refine (HOO.out wr).mono ?_; rintro e' w3 ⟨rfl, hb⟩; have H3 := Lib.hid (HBV.out.trans (hb.mono HBV.out.size)); have y0 := HW0.out _ (HB2.out.trans (hb.mono HB2.out.size)); have HO3 := Lib.hid (HO.out.below hb (Nat.le_refl _)); obtain ⟨y4, y5⟩ := HP.out _ H3.out; have hz3 := Lib.hid hb.size; clear hb)
                        | (go_at_call 48; refine (HT2.out _ H3.out).mono ?_; rintro e' w4 ⟨rfl, hb⟩; have H4 := Lib.hid (H3.out.trans (hb.mono H3.out.size)); clear hb))
                      go_ret
                      rw [HE.out]
                      exact ⟨D, rfl, HD.out, HF.out _ H4.out⟩
                  · have t3 : (S.toList == [115, 116, 97, 103, 101, 115]) = false := by rw [HTS.out]; exact decide_eq_false h7
                    have HE : Hid (R = (s, bWhat)) := by unfold Hid; rw [HLS2.out, if_neg (by simp), if_neg h1, if_neg hc, if_neg h2, if_neg (fun x => h6 x.2), if_neg h7]
                    clear HORD HSH HCA HPL HTW HFS HTS h1 h2 hc h7
                    rcases hNC with tc | ⟨hX, tk, tk2⟩
                    all_goals
                      first | subst hX | skip
                      go_wp2_with (first | (go_at_call 41; refine (HOO.out wr).mono ?_; rintro e' w3 ⟨rfl, hb⟩; have H3 := Lib.hid (HBV.out.trans (hb.mono HBV.out.size)); have y0 := HW0.out _ (HB2.out.trans (hb.mono HB2.out.size)); have HO3 := Lib.hid (HO.out.below hb (Nat.le_refl _)); obtain ⟨y4, y5⟩ := HP.out _ H3.out; have hz3 := Lib.hid hb.size; clear hb))
                      go_ret
                      rw [HE.out]
                      exact ⟨sV bWhat, rfl, rfl, HF.out _ H3.out⟩
              · have d5 : ¬ (5 : Int) < (l.length : Int) := by omega
                have d5b : decide ((5 : Int) < (l.length : Int)) = false := decide_eq_false d5
                have d5c : decide (5 < l.length) = false := decide_eq_false h5
                by_cases h7 : l = bStages
                · have t3 : (S.toList == [115, 116, 97, 103, 101, 115]) = true := by rw [HTS.out]; exact decide_eq_true h7
                  have HE : Hid (R = (s, fmtO s.st)) := by unfold Hid; rw [HLS2.out, if_neg (by simp), if_neg h1, if_neg hc, if_neg h2, if_neg (fun x => h5 x.1), if_pos h7]
                  obtain ⟨D, hD⟩ : ∃ D : ByteArray, D = ⟨(fmtO s.st).toArray⟩ := ⟨_, rfl⟩
                  have HT2 : Hid (∀ V, Below W.heap.size W V → Calls Tryz.prog 48 #[vst] V fun e w' => e = .returned (.string D) ∧ Below V.heap.size V w') := by rw [hD]; exact HFS.out
                  have HD : Hid (Str8 D (fmtO s.st)) := hD
                  clear HORD HSH HCA HPL HTW HFS HTS hD h1 h2 hc h7
                  rcases hNC with tc | ⟨hX, tk, tk2⟩
                  all_goals
                    first | subst hX | skip
                    go_wp2_with (first
                      | (go_at_call 41; refine (HOO.out wr).mono ?_; rintro e' w3 ⟨rfl, hb⟩; have H3 := Lib.hid (HBV.out.trans (hb.mono HBV.out.size)); have y0 := HW0.out _ (HB2.out.trans (hb.mono HB2.out.size)); have HO3 := Lib.hid (HO.out.below hb (Nat.le_refl _)); obtain ⟨y4, y5⟩ := HP.out _ H3.out; have hz3 := Lib.hid hb.size; clear hb)
                      | (go_at_call 48; refine (HT2.out _ H3.out).mono ?_; rintro e' w4 ⟨rfl, hb⟩; have H4 := Lib.hid (H3.out.trans (hb.mono H3.out.size)); clear hb))
                    go_ret
                    rw [HE.out]
                    exact ⟨D, rfl, HD.out, HF.out _ H4.out⟩
                · have t3 : (S.toList == [115, 116, 97, 103, 101, 115]) = false := by rw [HTS.out]; exact decide_eq_false h7
                  have HE : Hid (R = (s, bWhat)) := by unfold Hid; rw [HLS2.out, if_neg (by simp), if_neg h1, if_neg hc, if_neg h2, if_neg (fun x => h5 x.1), if_neg h7]
                  clear HORD HSH HCA HPL HTW HFS HTS h1 h2 hc h7
                  rcases hNC with tc | ⟨hX, tk, tk2⟩
                  all_goals
                    first | subst hX | skip
                    go_wp2_with (first | (go_at_call 41; refine (HOO.out wr).mono ?_; rintro e' w3 ⟨rfl, hb⟩; have H3 := Lib.hid (HBV.out.trans (hb.mono HBV.out.size)); have y0 := HW0.out _ (HB2.out.trans (hb.mono HB2.out.size)); have HO3 := Lib.hid (HO.out.below hb (Nat.le_refl _)); obtain ⟨y4, y5⟩ := HP.out _ H3.out; have hz3 := Lib.hid hb.size; clear hb))
                    go_ret
                    rw [HE.out]
                    exact ⟨sV bWhat, rfl, rfl, HF.out _ H3.out⟩
      · have HE : Hid (R = ordS s r) := by unfold Hid; rw [HLS2.out, if_pos h0]
        have t0 : decide (0 < r) = true := by simp; omega
        have t0z : (0 : Int) < (r : Int) := by omega
        have HOD := Lib.hid (HORD.out h0)
        clear HORD HSH HCA HPL HTW HFS
        go_wp2_with (first
          | (go_at_call 41; refine (HOO.out wr).mono ?_; rintro e' w3 ⟨rfl, hb⟩; have H3 := Lib.hid (HBV.out.trans (hb.mono HBV.out.size)); clear hb)
          | (go_at_call 41; refine (HOO.out w3).mono ?_; rintro e' w4 ⟨rfl, hb⟩; have H4 := Lib.hid (H3.out.trans (hb.mono H3.out.size)); clear hb)
          | (go_at_call 42; refine (HOD.out _ H4.out).mono ?_; intro e' w5 h5; obtain ⟨U, rfl, h6⟩ := h5.str; have H6 := Lib.hid h6; clear h5 h6))
        go_ret
        rw [HE.out]
        exact H6.out
end

section
open Go.RowKit
set_option linter.unusedVariables false
set_option linter.unusedSimpArgs false

set_option maxRecDepth 100000 in
set_option maxHeartbeats 8000000 in
theorem run_call (W : World) (B gs : Nat) (s : SesV) (h : Ses 44 B gs s W) (hB : B ≤ W.heap.size) (hok : sesOk s) (S : ByteArray) (l : List UInt8) (hS : Str8 S l) (hl : l.length ≤ 1000000000) (hn : NotQ l) (hg : GW W) (hc : isCall l = true) :
    Calls Tryz.prog 21 #[.pointer (some ⟨gs, 0, none⟩), .string S] W (SRet 44 B gs (callS s (callOf l)) W) := by
  obtain ⟨n0, n1, n2, n3⟩ := hn
  have HO := Lib.hid (impl_orderOf W S l hS 0 n0.symm)
  have t1 : (S.toList == [115, 104, 111, 119]) = false := str_ne hS n1
  have t2 : (S.toList == [119, 97, 105, 116]) = false := str_ne hS n2
  have t3 : (S.toList == [115, 116, 97, 103, 101, 115]) = false := str_ne hS n3
  have hpre := call_pre hc
  have HC : Hid (∃ X, Calls Tryz.prog 34 #[.string S, .string ⟨#[112, 108, 97, 110, 32]⟩] W fun e w' => e = .returned (.tuple #[.string X, .bool false]) ∧ W = w') := by
    rcases cut_not W S l hS (fun x => hpre x.1) with h | h
    · exact h
    · refine ⟨⟨(Lib.trimPrefix S.data.toList [112, 108, 97, 110, 32]).toArray⟩, ?_⟩
      have hSl : S.data.toList = l := by unfold Str8 at hS; rw [hS]
      refine (Tryz.strings_CutPrefix S ⟨#[112, 108, 97, 110, 32]⟩ W).mono ?_
      rintro e w' ⟨rfl, rfl⟩
      refine ⟨?_, rfl⟩
      have e1 : Lib.hasPrefix S.data.toList [112, 108, 97, 110, 32] = false := by
        rw [hSl, ← Bool.not_eq_true]; exact fun x => hpre ((cut_pre l).1.1 x)
      rw [e1]
  have hc' := hc
  unfold isCall at hc'
  rw [Bool.and_eq_true, decide_eq_true_eq, decide_eq_true_eq] at hc'
  obtain ⟨hw4, hw0⟩ := hc'
  have HSP2 : Hid (Calls Tryz.prog 36 #[.string S, .string ⟨#[32]⟩] W fun e w' => ∃ g, e = .returned (.slice (some ⟨g, 0, none⟩) 4 4) ∧ w'.heap[g]? = some (.cells ((words l).map strV).toArray 9 (0, 0)) ∧ Below W.heap.size W w') := by
    refine (split_call W S l hS hl hg).mono ?_
    rintro e w' ⟨v, rfl, ⟨g, rfl, h1⟩, h2⟩
    rw [hw4]
    exact ⟨g, rfl, h1, h2⟩
  obtain ⟨W1, hW1⟩ : ∃ X : ByteArray, X = ⟨((words l).getD 1 []).toArray⟩ := ⟨_, rfl⟩
  obtain ⟨W2, hW2⟩ : ∃ X : ByteArray, X = ⟨((words l).getD 2 []).toArray⟩ := ⟨_, rfl⟩
  obtain ⟨W3, hW3⟩ : ∃ X : ByteArray, X = ⟨((words l).getD 3 []).toArray⟩ := ⟨_, rfl⟩
  obtain ⟨f, hf⟩ : ∃ f, f = pn ((words l).getD 1 []) := ⟨_, rfl⟩
  obtain ⟨t, ht⟩ : ∃ t, t = pn ((words l).getD 2 []) := ⟨_, rfl⟩
  obtain ⟨m, hm⟩ : ∃ m, m = pn ((words l).getD 3 []) := ⟨_, rfl⟩
  have L := fun i => words_at_len l i
  have HP1 : Hid (∀ V, Calls Tryz.prog 38 #[.string W1] V fun e w' => e = .returned (.int .i64 f) ∧ V = w') := fun V => by rw [hf]; exact impl_parseNumber V W1 _ hW1 (by have := L 1; omega)
  have HP2 : Hid (∀ V, Calls Tryz.prog 38 #[.string W2] V fun e w' => e = .returned (.int .i64 t) ∧ V = w') := fun V => by rw [ht]; exact impl_parseNumber V W2 _ hW2 (by have := L 2; omega)
  have HP3 : Hid (∀ V, Calls Tryz.prog 38 #[.string W3] V fun e w' => e = .returned (.int .i64 m) ∧ V = w') := fun V => by rw [hm]; exact impl_parseNumber V W3 _ hW3 (by have := L 3; omega)
  have HCO : Hid (callOf l = (f, t, m)) := by unfold Hid callOf; rw [hf, ht, hm]
  have HCA : Hid (∀ V, Below W.heap.size W V → Calls Tryz.prog 37 #[.pointer (some ⟨gs, 0, none⟩), .agg #[.int .i64 f, .int .i64 t, .int .i64 m]] V (fun e w' => SRet 44 B gs (callS s (callOf l)) W e w' ∧ Lib.OthersKept 73 (some gs) V w')) := fun V hb => by
    refine (ses_call V B gs s (h.below hb) (Nat.le_trans hB hb.size) hok.2.1.1 f t m).mono ?_
    intro e w' hr
    rw [HCO.out]
    refine ⟨hr.after hb hB, ?_⟩
    obtain ⟨_, _, _, hp⟩ := hr
    exact hp.2.2
  have HWD : Hid (∀ (g : Nat) (V : World), V.heap[g]? = some (.cells ((words l).map strV).toArray 9 (0, 0)) → V.cell? ⟨g, 0, none⟩ = some (.string ⟨#[99, 97, 108, 108]⟩) ∧ V.cell? ⟨g, 1, none⟩ = some (.string W1) ∧ V.cell? ⟨g, 2, none⟩ = some (.string W2) ∧ V.cell? ⟨g, 3, none⟩ = some (.string W3)) := fun g V hh => by
    refine ⟨?_, ?_, ?_, ?_⟩
    · rw [wds_cell hh (by omega), hw0]; rfl
    · rw [wds_cell hh (by omega), hW1]
    · rw [wds_cell hh (by omega), hW2]
    · rw [wds_cell hh (by omega), hW3]
  have HNE : Hid (∀ (g : Nat) (V : World), V.heap[g]? = some (.cells ((words l).map strV).toArray 9 (0, 0)) → Below W.heap.size W V → ∀ V', Lib.OthersKept 73 (some gs) V V' → V'.heap[g]? = some (.cells ((words l).map strV).toArray 9 (0, 0))) := fun g V hh hb V' hk => by
    refine hk g _ hh (fun e => ?_) (fun c fz e => by cases e)
    obtain ⟨_, _, hs⟩ := h
    obtain ⟨c, fz, k1⟩ := own_box_type (hs.below hb).box
    have e2 : g = gs := Option.some.inj e
    rw [e2, k1] at hh
    cases hh
  clear h hS n0 n1 n2 n3 hg hc hpre hw4 hw0 hW1 hW2 hW3 hf ht hm L hok
  obtain ⟨X, HC⟩ := HC.out
  have HC := Lib.hid HC
  go_enter Tryz.func21, Tryz.ntmps21
  go_wp2_with (first
    | (go_at_call 28; refine HO.out.mono ?_; rintro e' w2 ⟨rfl, rfl⟩)
    | (go_at_call 34; refine HC.out.mono ?_; rintro e' w2 ⟨rfl, rfl⟩)
    | (go_at_call 36; refine HSP2.out.mono ?_; rintro e' w3 ⟨g, rfl, hh, hb⟩; obtain ⟨c0, c1, c2, c3⟩ := HWD.out g _ hh; have HH := Lib.hid hh; have H4 := Lib.hid hb; clear hh hb))
  have HCA2 : Hid (∀ V, Below w3.heap.size w3 V → Calls Tryz.prog 37 #[.pointer (some ⟨gs, 0, none⟩), .agg #[.int .i64 f, .int .i64 t, .int .i64 m]] V (fun e w' => SRet 44 B gs (callS s (callOf l)) W e w' ∧ (w'.cell? ⟨g, 1, none⟩ = some (.string W1) ∧ w'.cell? ⟨g, 2, none⟩ = some (.string W2) ∧ w'.cell? ⟨g, 3, none⟩ = some (.string W3)))) := fun V hb => by
    refine (HCA.out V (H4.out.trans (hb.mono H4.out.size))).mono ?_
    rintro e w' ⟨h1, h2⟩
    have hh : V.heap[g]? = some (.cells ((words l).map strV).toArray 9 (0, 0)) := by rw [hb.block g (Array.getElem?_eq_some_iff.1 HH.out).1]; exact HH.out
    exact ⟨h1, (HWD.out g w' (HNE.out g V hh (H4.out.trans (hb.mono H4.out.size)) w' h2)).2⟩
  clear HCA HWD HNE HH HCO HO HC HSP2 t1 t2 t3 c0
  go_region_held3 (fun V => V.cell? ⟨g, 1, none⟩ = some (.string W1) ∧ V.cell? ⟨g, 2, none⟩ = some (.string W2) ∧ V.cell? ⟨g, 3, none⟩ = some (.string W3))
    (first | go_keep | exact hS9)
    ((first
      | (go_at_call 38; (first | with_reducible refine (HP1.out _).mono ?_ | with_reducible refine (HP2.out _).mono ?_ | with_reducible refine (HP3.out _).mono ?_); rintro e' w8 ⟨rfl, rfl⟩)
      | (go_at_call 37; refine (HCA2.out _ (by first | exact Below.refl _ _ | exact Below.drew (Below.refl _ _))).mono ?_; rintro e' w9 ⟨h3, hS9⟩; obtain ⟨U, rfl, h4⟩ := h3.str; have H9 := Lib.hid h4; clear h3 h4)))
  go_wp2_with fail
  go_ret
  exact H9.out

/-- A line, by the program. -/
theorem ses_run (W : World) (B gs : Nat) (s : SesV) (h : Ses 44 B gs s W) (hB : B ≤ W.heap.size) (hok : sesOk s) (S : ByteArray) (l : List UInt8) (hS : Str8 S l) (hl : l.length ≤ 1000000000) (hg : GW W) :
    Calls Tryz.prog 21 #[.pointer (some ⟨gs, 0, none⟩), .string S] W (SRet 44 B gs (lineS s l) W) := by
  unfold lineS
  by_cases h0 : orderO l = 0
  · rw [if_neg (by omega)]
    by_cases h1 : l = bShow
    · rw [if_pos h1]
      have e : S = ⟨#[115, 104, 111, 119]⟩ := by rw [h1] at hS; exact hS
      rw [e]; exact run_show W B gs s h hB hok
    · rw [if_neg h1]
      by_cases h2 : l = bWait
      · rw [if_pos h2]
        have e : S = ⟨#[119, 97, 105, 116]⟩ := by rw [h2] at hS; exact hS
        rw [e]; exact run_wait W B gs s h hB hok hg
      · rw [if_neg h2]
        by_cases h3 : l = bStages
        · rw [if_pos h3]
          have e : S = ⟨#[115, 116, 97, 103, 101, 115]⟩ := by rw [h3] at hS; exact hS
          rw [e]; exact run_stages W B gs s h hB hok
        · rw [if_neg h3]
          have hn : NotQ l := ⟨h0, h1, h2, h3⟩
          by_cases h4 : l.take 5 = bPlan ∧ 5 < l.length
          · rw [if_pos h4]; exact run_plan W B gs s h hB S l hS hl hn h4
          · rw [if_neg h4]
            cases h5 : isCall l
            · rw [if_neg (by simp)]; exact run_what W B gs s h hB S l hS hl hn h4 hg h5
            · rw [if_pos rfl]; exact run_call W B gs s h hB hok S l hS hl hn hg h5
  · rw [if_pos h0]; exact run_order W B gs s h hB hok S l hS h0
end

section
open Go.RowKit
set_option linter.unusedVariables false
set_option linter.unusedSimpArgs false

def LnsR (w : World) (lo : Nat) (v : Value) (ls : List (List UInt8)) : Prop := Rd w lo v 1 ls.length (ls.map strV)
theorem Bld.kept {B b gs : Nat} {l : List UInt8} {w w' : World} {e' : TypeId} (h : Bld B b l w) (hk : Lib.OthersKept e' (some gs) w w') (he : 5 ≠ e' ∧ 47 ≠ e') (hg : ∃ c T fz, w.heap[gs]? = some (.cells c T fz) ∧ T ≠ 5 ∧ T ≠ 47) : Bld B b l w' := by
  obtain ⟨c', T', fz', k1, k2, k3⟩ := hg
  have key : ∀ p bs, Lib.BuilderAt 47 5 B b p bs w → Lib.BuilderAt 47 5 B b p bs w' := by
    rintro p bs ⟨h1, v, h2, h3, h4⟩
    refine ⟨h1, v, hk b _ h2 (fun e => ?_) (fun c fz e => by cases e; exact he.2 rfl), ?_, h4⟩
    · have e2 : b = gs := Option.some.inj e
      rw [e2, k1] at h2
      cases h2
      exact k3 rfl
    · rcases h3.2 with ⟨e, h0⟩ | ⟨g, cap, cur, e, h6, h7, h8, h9, h10, h11⟩
      · exact ⟨h3.1, .inl ⟨e, h0⟩⟩
      · refine ⟨h3.1, .inr ⟨g, cap, cur, e, h6, ?_, h8, h9, h10, h11⟩⟩
        exact hk g _ h7 (fun x => by
          have e2 : g = gs := Option.some.inj x
          rw [e2, k1] at h7
          cases h7
          exact k2 rfl) (fun c fz x => by cases x; exact he.1 rfl)
  rcases h with h | h
  · exact .inl (key _ _ h)
  · exact .inr (key _ _ h)
theorem Bld.type {B b : Nat} {l : List UInt8} {w : World} (h : Bld B b l w) : ∃ c fz, w.heap[b]? = some (.cells c 47 fz) := by
  rcases h with ⟨_, v, h, _⟩ | ⟨_, v, h, _⟩
  · exact ⟨_, _, h⟩
  · exact ⟨_, _, h⟩
theorem Ses.keptB {B gs b : Nat} {s : SesV} {w w' : World} (h : Ses 44 B gs s w) (hk : Lib.OthersKept 5 (some b) w w') (hb : ∃ c fz, w.heap[b]? = some (.cells c 47 fz)) : Ses 44 B gs s w' := by
  obtain ⟨vcl, vst, h⟩ := h
  obtain ⟨c, fz, k⟩ := hb
  exact ⟨vcl, vst, h.kept ty_ses hk (by decide) ⟨c, _, fz, k, by decide⟩⟩
theorem Ses.type {T : TypeId} {B gs : Nat} {s : SesV} {w : World} (h : Ses T B gs s w) : gs < w.heap.size ∧ ∃ c fz, w.heap[gs]? = some (.cells c T fz) := by
  obtain ⟨vcl, vst, h⟩ := h
  exact ⟨h.at.1, own_box_type h.box⟩
theorem take_snoc (ls : List (List UInt8)) {k : Nat} (h : k < ls.length) : ls.take (k + 1) = ls.take k ++ [ls.getD k []] := by
  rw [List.take_succ_eq_append_getElem h, List.getD_eq_getElem?_getD, List.getElem?_eq_getElem h]; rfl
def RunRet (ls : List (List UInt8)) (W : World) (e : Ending) (w' : World) : Prop := ∃ S, e = .returned (.string S) ∧ Str8 S (sesO ls) ∧ Below W.heap.size W w'

set_option maxRecDepth 100000 in
set_option maxHeartbeats 8000000 in
theorem impl_runSession (W : World) (lo : Nat) (v : Value) (ls : List (List UInt8)) (hv : LnsR W lo v ls) (hl : ∀ x ∈ ls, x.length ≤ 1000000000) (hg : GW W) :
    Calls Tryz.prog 9 #[v] W (RunRet ls W) := by
  obtain ⟨ao, cap, rfl, hcap, hm⟩ := hv.form
  have HV := Lib.hid hv
  have HG := Lib.hid hg
  have HL := Lib.hid hl
  clear hv hg hl
  go_enter Tryz.func9, Tryz.ntmps9
  obtain ⟨m, em⟩ : ∃ m : Nat, min (ls.length : Int) 30 = (m : Int) := ⟨(min (ls.length : Int) 30).toNat, by omega⟩
  have hmn : m ≤ ls.length ∧ m ≤ 30 := by omega
  have HM : Hid (ls.take m = ls.take 30) := by
    unfold Hid
    by_cases h : ls.length ≤ 30
    · rw [List.take_of_length_le (show ls.length ≤ 30 from h), show m = ls.length by omega, List.take_length]
    · rw [show m = 30 by omega]
  have em2 : max (m : Int) 0 = (m : Int) := by omega
  have em3 : ((m : Int)).toNat = m := Int.toNat_natCast m
  have hSz : (W.alloc (.cells #[.int .i64 0, .int .i64 0, .int .i64 0, .bool false, .slice none 0 0, .slice none 0 0] 44)).heap.size = W.heap.size + 1 := by simp
  have hS0 : Ses 44 W.heap.size W.heap.size ses0 (W.alloc (.cells #[.int .i64 0, .int .i64 0, .int .i64 0, .bool false, .slice none 0 0, .slice none 0 0] 44)) :=
    ⟨.slice none 0 0, .slice none 0 0, Nat.le_refl _, Own.made W [.int .i64 0, .int .i64 0, .int .i64 0, .bool false, .slice none 0 0, .slice none 0 0] 44 W.heap.size 6 1 rfl (Nat.le_refl _) (by decide), Own.nil _ _ _ _, ⟨[], Own.nil _ _ _ _, RowsO.nil _ _ _, fun j hj => absurd hj (Nat.not_lt_zero _)⟩⟩
  have hB0 : Below W.heap.size W (W.alloc (.cells #[.int .i64 0, .int .i64 0, .int .i64 0, .bool false, .slice none 0 0, .slice none 0 0] 44)) := (Below.refl _ _).alloc (Nat.le_refl _) _
  obtain ⟨w1, hw1⟩ : ∃ w1, w1 = W.alloc (.cells #[.int .i64 0, .int .i64 0, .int .i64 0, .bool false, .slice none 0 0, .slice none 0 0] 44) := ⟨_, rfl⟩
  rw [← hw1] at hSz hS0 hB0
  have hb1 : Below w1.heap.size w1 (w1.alloc (.cells #[.pointer none, .slice none 0 0] 47)) := (Below.refl _ _).alloc (Nat.le_refl _) _
  have hS1 := hS0.below hb1
  have hD1 := Bld.fresh w1
  have hB1 := hB0.trans (hb1.mono hB0.size)
  rw [hSz] at hD1
  have HW1 := Lib.hid hw1
  clear hw1 hS0 hB0 hb1
  go_wp2_with fail
  rw [← HW1.out]
  obtain ⟨w2, hw2⟩ : ∃ w2, w2 = w1.alloc (.cells #[.pointer none, .slice none 0 0] 47) := ⟨_, rfl⟩
  rw [← hw2] at hS1 hD1 hB1 ⊢
  obtain ⟨gs, hgs⟩ : ∃ gs, gs = W.heap.size := ⟨_, rfl⟩
  rw [← hgs] at hS1 hD1 hB1 ⊢
  have HGS := Lib.hid hgs
  have hlen := hcap
  clear hw2 em em2 em3 HW1 hSz hgs
  go_loopw [13] (fun iv V => ∃ k : Nat, k ≤ m ∧ iv = .int .i64 k ∧ Ses 44 gs gs (runL ses0 (ls.take k)).1 V ∧ Bld (gs + 1) (gs + 1) (runL ses0 (ls.take k)).2 V ∧ Below gs W V) (fun iv _ => m - (intOf iv).toNat)
  case atStart => exact ⟨0, Nat.zero_le _, rfl, hS1, hD1, hB1⟩
  case round =>
    clear hS1 hD1 hB1
    obtain ⟨k, hk, rfl, hS, hD, hB⟩ := hrel
    have hsz := hB.size
    by_cases hlt : k < m
    · have hltz : (k : Int) < (m : Int) := by omega
      have hgW : Below W.heap.size W wr := by rw [← HGS.out]; exact hB
      obtain ⟨bb, off, rfl, _, hb2, hx⟩ := HV.out.spot [] (by omega)
      have s1 := (hgW.cell (p := ⟨bb, off + k, none⟩) hb2).trans (hx k (by omega))
      have hok := runL_ok (ls.take k) ses0_ok
      have hSt := take_snoc ls (k := k) (by omega)
      have hrs := runL_snoc (ls.take k) (ls.getD k []) ses0
      have hfl := runL_len (ls.take k) ses0_ok
      have hll := lineS_facts hok (ls.getD k [])
      have hxl : (ls.getD k []).length ≤ 1000000000 := HL.out _ (by rw [List.getD_eq_getElem?_getD, List.getElem?_eq_getElem (by omega)]; exact List.getElem_mem _)
      rw [← hSt] at hrs
      obtain ⟨x, hx0⟩ : ∃ x, x = ls.getD k [] := ⟨_, rfl⟩
      rw [← hx0] at s1 hrs hll hxl
      obtain ⟨X, hX⟩ : ∃ X : ByteArray, X = ⟨x.toArray⟩ := ⟨_, rfl⟩
      have hXs : Str8 X x := hX
      have s1' : wr.cell? ⟨bb, off + k, none⟩ = some (.string X) := by rw [hX]; exact s1
      obtain ⟨s, hs⟩ : ∃ s, s = (runL ses0 (ls.take k)).1 := ⟨_, rfl⟩
      obtain ⟨o, ho⟩ : ∃ o, o = (runL ses0 (ls.take k)).2 := ⟨_, rfl⟩
      rw [← hs] at hS hok hrs hll
      rw [← ho] at hD hrs hfl
      have hol : o.length ≤ 111 * 30 := by
        have : (ls.take k).length ≤ 30 := by rw [List.length_take]; omega
        omega
      have hgw : GW wr := HG.out.below hgW
      have HRN := Lib.hid (ses_run wr gs gs s hS (by have := HGS.out; omega) hok X x hXs hxl hgw)
      have HST := Lib.hid hS
      have HD := Lib.hid hD
      have HB := Lib.hid hB
      have HRS := Lib.hid hrs
      have HLL := Lib.hid hll
      clear hS hD hx hx0 hX hXs hs ho hok hSt hrs hfl hll hxl s1 hgw hgW
      go_wp2_with (first
        | (go_at_call 21; refine HRN.out.mono ?_; rintro e' w5 ⟨U, rfl, hU, hP⟩; have HU := Lib.hid hU; have HP := Lib.hid hP; have HS5 := Lib.hid hP.1; have HB5 := Lib.hid (HB.out.trans hP.2.1); have HD5 := Lib.hid (HD.out.kept hP.2.2 (by decide) (by obtain ⟨_, c, fz, k1⟩ := HST.out.type; exact ⟨c, _, fz, k1, by decide, by decide⟩)); clear hU hP)
        | (go_at_call 20; refine (bld_string (gs + 1) (gs + 1) o (lineS s x).2 U HU.out w5 HD5.out (by have := HLL.out.2; omega) (by have := HS5.out.type.1; omega)).mono ?_; rintro e' w6 ⟨rfl, hD6, hB6, hK6⟩; have HD6 := Lib.hid hD6; have HB6 := Lib.hid (HB5.out.trans (hB6.mono (Nat.le_succ gs))); have HS6 := Lib.hid (HS5.out.keptB hK6 HD5.out.type); clear hD6 hB6 hK6)
        | (go_at_call 22; refine (bld_byte (gs + 1) (gs + 1) (o ++ (lineS s x).2) 10 w6 HD6.out (by have := HLL.out.2; rw [List.length_append]; omega) (by have := HS6.out.type.1; omega) 10 rfl).mono ?_; rintro e' w7 ⟨rfl, hD7, hB7, hK7⟩; have HD7 := Lib.hid hD7; have HB7 := Lib.hid (HB6.out.trans (hB7.mono (Nat.le_succ gs))); have HS7 := Lib.hid (HS6.out.keptB hK7 HD6.out.type); clear hD7 hB7 hK7))
      go_roundw
      case rel => exact ⟨k + 1, by omega, by go_num, by rw [HRS.out]; exact HS7.out, by rw [HRS.out]; exact HD7.out, HB7.out⟩
      case measure => simp [intOf]; omega
    · have hltz : ¬ (k : Int) < (m : Int) := by omega
      obtain ⟨o, ho⟩ : ∃ o, o = (runL ses0 (ls.take k)).2 := ⟨_, rfl⟩
      have HE : Hid (o = sesO ls) := by unfold Hid sesO; rw [ho, ← HM.out, show k = m by omega]
      rw [← ho] at hD
      have HD := Lib.hid hD
      have HB := Lib.hid hB
      have HST := Lib.hid hS
      clear hS hD hB ho
      go_wp2_with (go_at_call 23; refine (Tryz.Builder_String_any (gs + 1) (gs + 1) o _ HD.out (by have := HST.out.type.1; omega)).mono ?_; rintro e' w4 ⟨rfl, hB4⟩; have HB4 := Lib.hid (HB.out.trans (hB4.mono (Nat.le_succ gs))); clear hB4)
      go_ret
      exact ⟨⟨o.toArray⟩, rfl, by rw [← HE.out]; rfl, by rw [← HGS.out]; exact HB4.out⟩
end

section
open Go.RowKit
set_option linter.unusedVariables false
set_option linter.unusedSimpArgs false

set_option maxRecDepth 100000 in
set_option maxHeartbeats 8000000 in
theorem spec_runSession (W : World) (lo : Nat) (v : Value) (ls : List (List UInt8)) (hv : LnsR W lo v ls) (hl : ∀ x ∈ ls, x.length ≤ 1000000000) :
    Calls Tryz.prog 10 #[v] W (RunRet ls W) := by
  obtain ⟨ao, cap, rfl, hcap, hm⟩ := hv.form
  have HV := Lib.hid hv
  have HL := Lib.hid hl
  clear hv hl
  have hS0 : Ses 57 W.heap.size W.heap.size ses0 (W.alloc (.cells #[.int .i64 0, .int .i64 0, .int .i64 0, .bool false, .slice none 0 0, .slice none 0 0] 57)) :=
    ⟨.slice none 0 0, .slice none 0 0, Nat.le_refl _, Own.made W [.int .i64 0, .int .i64 0, .int .i64 0, .bool false, .slice none 0 0, .slice none 0 0] 57 W.heap.size 6 1 rfl (Nat.le_refl _) (by decide), Own.nil _ _ _ _, ⟨[], Own.nil _ _ _ _, RowsO.nil _ _ _, fun j hj => absurd hj (Nat.not_lt_zero _)⟩⟩
  have hB0 : Below W.heap.size W (W.alloc (.cells #[.int .i64 0, .int .i64 0, .int .i64 0, .bool false, .slice none 0 0, .slice none 0 0] 57)) := (Below.refl _ _).alloc (Nat.le_refl _) _
  obtain ⟨w1, hw1⟩ : ∃ w1, w1 = W.alloc (.cells #[.int .i64 0, .int .i64 0, .int .i64 0, .bool false, .slice none 0 0, .slice none 0 0] 57) := ⟨_, rfl⟩
  rw [← hw1] at hS0 hB0
  have HW1 := Lib.hid hw1
  clear hw1
  go_enter Tryz.func10, Tryz.ntmps10
  go_wp2_with fail
  rw [← HW1.out]
  obtain ⟨gs, hgs⟩ : ∃ gs, gs = W.heap.size := ⟨_, rfl⟩
  rw [← hgs] at hS0 hB0 ⊢
  have HGS := Lib.hid hgs
  clear HW1 hgs
  go_loopw [4, 5] (fun ov iv V => ∃ (k : Nat) (O : ByteArray), k ≤ ls.length ∧ k ≤ 30 ∧ iv = .int .i64 k ∧ ov = .string O ∧ Hid (Str8 O (runL ses0 (ls.take k)).2) ∧ Ses 57 gs gs (runL ses0 (ls.take k)).1 V ∧ Below gs W V) (fun _ iv _ => 31 - (intOf iv).toNat)
  case atStart => exact ⟨0, ⟨#[]⟩, Nat.zero_le _, Nat.zero_le _, rfl, rfl, rfl, hS0, hB0⟩
  case round =>
    clear hS0 hB0
    obtain ⟨k, O, hk, hk30, rfl, rfl, HO, hS, hB⟩ := hrel
    have hsz := hB.size
    by_cases hlt : k < ls.length ∧ k < 30
    · have hltz : (k : Int) < (ls.length : Int) := by omega
      have hltz2 : (k : Int) < 30 := by omega
      have hgW : Below W.heap.size W wr := by rw [← HGS.out]; exact hB
      obtain ⟨bb, off, rfl, _, hb2, hx⟩ := HV.out.spot [] (by omega)
      have s1 := (hgW.cell (p := ⟨bb, off + k, none⟩) hb2).trans (hx k (by omega))
      have hok := runL_ok (ls.take k) ses0_ok
      have hSt := take_snoc ls (k := k) (by omega)
      have hrs := runL_snoc (ls.take k) (ls.getD k []) ses0
      have hfl := runL_len (ls.take k) ses0_ok
      have hll := lineS_facts hok (ls.getD k [])
      have hxl : (ls.getD k []).length ≤ 1000000000 := HL.out _ (by rw [List.getD_eq_getElem?_getD, List.getElem?_eq_getElem (by omega)]; exact List.getElem_mem _)
      rw [← hSt] at hrs
      obtain ⟨x, hx0⟩ : ∃ x, x = ls.getD k [] := ⟨_, rfl⟩
      rw [← hx0] at s1 hrs hll hxl
      obtain ⟨X, hX⟩ : ∃ X : ByteArray, X = ⟨x.toArray⟩ := ⟨_, rfl⟩
      have hXs : Str8 X x := hX
      have s1' : wr.cell? ⟨bb, off + k, none⟩ = some (.string X) := by rw [hX]; exact s1
      obtain ⟨s, hs⟩ : ∃ s, s = (runL ses0 (ls.take k)).1 := ⟨_, rfl⟩
      obtain ⟨o, ho⟩ : ∃ o, o = (runL ses0 (ls.take k)).2 := ⟨_, rfl⟩
      rw [← hs] at hS hok hrs hll
      rw [← ho] at HO hrs hfl
      have hol : o.length ≤ 111 * 30 := by
        have : (ls.take k).length ≤ 30 := by rw [List.length_take]; omega
        omega
      have HRN := Lib.hid (desk_line wr gs gs s hS (by have := HGS.out; omega) hok X x hXs hxl)
      have HST := Lib.hid hS
      have HB := Lib.hid hB
      have HRS := Lib.hid hrs
      have HLL := Lib.hid hll
      clear hS hx hx0 hX hXs hs ho hok hSt hrs hfl hll hxl s1 hgW hB
      go_wp2_with (go_at_call 24; refine HRN.out.mono ?_; rintro e' w5 ⟨U, rfl, hU, hP⟩; have HU := Lib.hid hU; have HS5 := Lib.hid hP.1; have HB5 := Lib.hid (HB.out.trans hP.2.1); obtain ⟨C, hC, kadd⟩ := addS O U (by rw [HO.out.size]; omega) (by rw [hU.size]; have := HLL.out.2; omega); have hCs := Str8.app HO.out hU hC; obtain ⟨C2, hC2, kadd2⟩ := addS C ⟨#[10]⟩ (by rw [hCs.size, List.length_append]; have := HLL.out.2; omega) (by decide); have HC2 := Lib.hid (Str8.app (B := ⟨#[10]⟩) (b := [10]) hCs rfl hC2); clear hU hP hC hCs hC2)
      go_roundw
      case rel => exact ⟨k + 1, C2, by omega, by omega, by go_num, rfl, by unfold Hid; rw [HRS.out]; exact HC2.out, by rw [HRS.out]; exact HS5.out, HB5.out⟩
      case measure => simp [intOf]; omega
    · have HE : Hid (Str8 O (sesO ls)) := by
        have e : ls.take k = ls.take 30 := by
          by_cases h : k < ls.length
          · rw [show k = 30 by omega]
          · rw [show k = ls.length by omega, List.take_length, List.take_of_length_le (by omega)]
        have := HO.out
        rw [e] at this
        exact this
      have HB : Hid (Below W.heap.size W wr) := by unfold Hid; rw [← HGS.out]; exact hB
      clear hS hB HO
      by_cases h1 : k < ls.length
      · have d1 : (k : Int) < (ls.length : Int) := by omega
        have d2 : ¬ (k : Int) < 30 := by omega
        have d3 : decide (k < 30) = false := by simp; omega
        go_wp2_with fail
        go_ret
        exact ⟨O, rfl, HE.out, HB.out⟩
      · have d1 : ¬ (k : Int) < (ls.length : Int) := by omega
        have d3 : decide (k < ls.length) = false := by simp; omega
        go_wp2_with fail
        go_ret
        exact ⟨O, rfl, HE.out, HB.out⟩
end
end Go.Proofs.YtpaioaknppgggaaGreatDoor
