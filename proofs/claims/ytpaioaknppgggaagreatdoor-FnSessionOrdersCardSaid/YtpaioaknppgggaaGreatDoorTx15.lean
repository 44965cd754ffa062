/- strings.SplitSeq at a space: the iterator's contract. -/
import Derived.Test.YtpaioaknppgggaaGreatDoorTx14
import Derived.Test.YtpaioaknppgggaaGreatDoorTx13
import Derived.Shelf.Abstract
import Derived.Shelf.RegionOpen
import Derived.WalkKit
import Derived.OwnWalkIn
import Derived.TacticsInMore
import Derived.LoopNIn
import Derived.LoopIn
namespace Go.Proofs.YtpaioaknppgggaaGreatDoor
open Go Go.RowKit Go.Shelf
set_option linter.unusedVariables false
set_option linter.unusedSimpArgs false
attribute [local go_sem] Oper.semAt_some

abbrev Wd := { l : List UInt8 // l.length ≤ 1000000000 }
def wdV (x : Wd) : Array Value := #[.string ⟨x.1.toArray⟩]
def KpB (b : Nat) (W W' : World) : Prop := ∀ k, (k = b ∨ k = b + 1 ∨ k = b + 2) → W'.heap[k]? = W.heap[k]?
def SeqS (l : List UInt8) (xs : List Wd) : Prop := xs.map (·.1) = words l
def SeqP (l : List UInt8) (xs : List Wd) : Prop := xs ≠ [] ∧ (xs.map (·.1)) <+: words l
def sLeft (W : World) (b : Nat) : Nat := match W.cell? ⟨b, 0, none⟩ with | some (.string s) => s.size | _ => 0
theorem box1 {W : World} {g : Nat} {x : Value} {T : TypeId} (h : W.heap[g]? = some (.cells #[x] T (0, 0))) : W.cell? ⟨g, 0, none⟩ = some x ∧ W.frozen? ⟨g, 0, none⟩ = false ∧ g < W.heap.size :=
  ⟨by rw [Lib.cell_of_heap h]; rfl, Lib.frozen_of_heap h 0, (Array.getElem?_eq_some_iff.1 h).1⟩
theorem box1_set {W : World} {g : Nat} {x : Value} {T : TypeId} (h : W.heap[g]? = some (.cells #[x] T (0, 0))) (y : Value) : (W.setCell ⟨g, 0, none⟩ y).heap[g]? = some (.cells #[y] T (0, 0)) := by
  simp [World.setCell, Array.getElem?_modify, h]
theorem box1_far {W : World} {g b : Nat} {o : Obj} (h : W.heap[g]? = some o) (hne : g ≠ b) (y : Value) : (W.setCell ⟨b, 0, none⟩ y).heap[g]? = some o := by
  rw [Below.heap_setCell _ _ _ _ hne]; exact h
theorem sLeft_eq {W : World} {b : Nat} {R : ByteArray} {T : TypeId} (h : W.heap[b]? = some (.cells #[.string R] T (0, 0))) : sLeft W b = R.size := by
  unfold sLeft; rw [(box1 h).1]
theorem no_tw (c : UInt8) (l : List UInt8) : ¬ c ∈ l.takeWhile fun b => b != c := by
  induction l with
  | nil => simp
  | cons x l ih =>
    by_cases hx : x = c
    · subst hx; simp
    · rw [List.takeWhile_cons, if_pos (by simpa using hx)]
      intro h
      rcases List.mem_cons.1 h with e | e
      · exact hx e.symm
      · exact ih e
theorem words_space {l : List UInt8} (h : (32 : UInt8) ∈ l) : words l = (l.takeWhile fun b => b != 32) :: words (l.dropWhile fun b => b != 32).tail := by
  have hp := (cut_parts h).1
  conv => lhs; rw [hp]
  exact words_app (no_tw 32 l) _

set_option maxRecDepth 100000 in
set_option maxHeartbeats 4000000 in
theorem seq_stops (n b : Nat) (l : List UInt8) (hl : l.length ≤ 1000000000) (hn : 1 ≤ n) (w : World) (S0 : ByteArray) (hS0 : Str8 S0 l)
    (h1 : w.heap[b]? = some (.cells #[.string S0] 9 (0, 0))) (h2 : w.heap[b + 1]? = some (.cells #[.string ⟨#[32]⟩] 9 (0, 0))) (h3 : w.heap[b + 2]? = some (.cells #[.int .i64 0] 3 (0, 0))) :
    SeqX Fence.wide n Tryz.prog 122 #[.pointer (some ⟨b + 1, 0, none⟩), .pointer (some ⟨b, 0, none⟩), .pointer (some ⟨b + 2, 0, none⟩)] wdV (KpB b) (SeqS l) (SeqP l) (words l).length b w := by
  intro lp J Jx W hW hJ hJx hY h0
  have g1 : W.heap[b]? = some (.cells #[.string S0] 9 (0, 0)) := by rw [hW.block b (box1 h1).2.2]; exact h1
  have g2 : W.heap[b + 1]? = some (.cells #[.string ⟨#[32]⟩] 9 (0, 0)) := by rw [hW.block (b + 1) (box1 h2).2.2]; exact h2
  have g3 : W.heap[b + 2]? = some (.cells #[.int .i64 0] 3 (0, 0)) := by rw [hW.block (b + 2) (box1 h3).2.2]; exact h3
  obtain ⟨c1, f1, _⟩ := box1 g1
  obtain ⟨c2, f2, _⟩ := box1 g2
  obtain ⟨c3, f3, _⟩ := box1 g3
  have hs1 : ((⟨#[32]⟩ : ByteArray).size : Int) = 1 := rfl
  have HJ := Lib.hid hJ
  have HJx := Lib.hid hJx
  have HY := Lib.hid hY
  have HG := Lib.hid (And.intro g1 (And.intro g2 g3))
  clear hJ hJx hY h1 h2 h3 hW g1 g2 g3
  refine callsIn_of_wp Tryz.func122 rfl trivial ?_ rfl
  simp only [Tryz.ntmps122, List.size_toArray, List.length_cons, List.length_nil, Nat.reduceAdd, Nat.reduceSub, Array.replicate_succ, Array.replicate_zero, List.push_toArray, List.append_toArray, List.nil_append, List.cons_append]
  gi_wp2
  gi_loopw [] (fun wr => ∃ (pre : List Wd) (r : List UInt8) (R : ByteArray), Hid (Str8 R r ∧ words l = pre.map (·.1) ++ words r ∧ r.length ≤ 1000000000) ∧ Hid (J pre wr) ∧
      Hid (wr.heap[b]? = some (.cells #[.string R] 9 (0, 0)) ∧ wr.heap[b + 1]? = some (.cells #[.string ⟨#[32]⟩] 9 (0, 0)) ∧ wr.heap[b + 2]? = some (.cells #[.int .i64 0] 3 (0, 0))) ∧ Below W.heap.size W W)
    (fun wr => sLeft wr b)
  case atStart => exact ⟨[], l, S0, ⟨hS0, rfl, hl⟩, h0, HG.out, Below.refl _ _⟩
  case round =>
    clear c1 f1 c2 f2 c3 f3 h0 HG
    obtain ⟨pre, r, R, HR, HJp, HG, _⟩ := hrel
    obtain ⟨g1, g2, g3⟩ := HG.out
    obtain ⟨c1, f1, _⟩ := box1 g1
    obtain ⟨c2, f2, _⟩ := box1 g2
    obtain ⟨c3, f3, _⟩ := box1 g3
    obtain ⟨hR, hw, hrl⟩ := HR.out
    have hsz : (R.size : Int) = (r.length : Int) := by rw [hR.size]
    have hdr : R.data.toList = r := by rw [hR]
    have hix := indexByte_eq 32 r
    have HDR := Lib.hid hdr
    have HGG := Lib.hid (And.intro g1 (And.intro g2 g3))
    clear g1 g2 g3 hdr
    by_cases hm : (32 : UInt8) ∈ r
    · rw [if_pos hm] at hix
      have hws := words_space hm
      obtain ⟨hp, hlt⟩ := cut_parts hm
      obtain ⟨tw, htw⟩ : ∃ tw, tw = r.takeWhile fun b => b != 32 := ⟨_, rfl⟩
      obtain ⟨r', hr'⟩ : ∃ r', r' = (r.dropWhile fun b => b != 32).tail := ⟨_, rfl⟩
      rw [← htw] at hix hlt hws hp
      rw [← hr'] at hws hp
      obtain ⟨A, HA, ka⟩ := sl_to hR (n := tw.length) (by omega)
      have hA2 : Str8 A tw := by
        have : r.take tw.length = tw := by conv => lhs; rw [hp]
                                           simp
        rw [← this]; exact HA.out
      have HB2 : Hid (Str8 (R.extract (tw.length + 1) R.size) r') := by
        have h9 : Str8 (R.extract (tw.length + 1) R.size) (r.drop (tw.length + 1)) := by
          have := str_ext hR (tw.length + 1) R.size; rw [hR.size, List.take_length] at this; rw [hR.size]; exact this
        have : r.drop (tw.length + 1) = r' := by
          conv => lhs; rw [hp]
          rw [List.drop_append, List.drop_eq_nil_of_le (by omega)]; simp
        rw [← this]; exact h9
      have htl : tw.length ≤ 1000000000 := by omega
      obtain ⟨fn, tmps, assign, body, hy, hRd⟩ := HY.out pre ⟨tw, htl⟩ wr HJp.out (by rw [hw, hws]; simp)
      unfold wdV at hy
      simp only at hy
      rw [show (⟨tw.toArray⟩ : ByteArray) = A from hA2.symm] at hy
      obtain ⟨q, hq⟩ : ∃ q, q = tw.length := ⟨_, rfl⟩
      rw [← hq] at hix hlt ka
      have HIX := Lib.hid hix
      have hql : r.length = q + 1 + r'.length := by
        have := congrArg List.length hp
        simp only [List.length_append, List.length_cons] at this
        omega
      have wr0 : IntKind.i64.wrap (q : Int) = (q : Int) := IntWalk.i64_in _ (by omega)
      have wr1 : IntKind.i64.wrap ((q : Int) + 1) = (q : Int) + 1 := IntWalk.i64_in _ (by omega)
      have hq0 : (0 : Int) ≤ (q : Int) := by omega
      have HW := Lib.hid hw
      have HWS := Lib.hid hws
      have HQ := Lib.hid hq
      have HRd := Lib.hid hRd
      have hqr : (q : Int) ≤ (r.length : Int) := by omega
      have hqr1 : (q : Int) + 1 ≤ (r.length : Int) := by omega
      clear hix hws hp htw hr' HA hA2 hm hw hR hq hRd
      gi_wp2_with (refine ⟨trivial, ?_⟩; gi_at_call 85; refine (callsIn_wide.2 (Tryz.strings_Index_one R 32 _)).mono ?_; rintro e w2 ⟨rfl, rfl⟩; rw [HDR.out, HIX.out])
      refine HRd.out.mono ?_
      rintro e W3 (⟨rfl, hJ3, hk3⟩ | ⟨rfl, hJx3⟩)
      · obtain ⟨g1, g2, g3⟩ := HGG.out
        have e1 := (hk3 b (.inl rfl)).trans g1
        have e2 := (hk3 (b + 1) (.inr (.inl rfl))).trans g2
        have e3 := (hk3 (b + 2) (.inr (.inr rfl))).trans g3
        obtain ⟨c1, f1, _⟩ := box1 e1
        obtain ⟨c2, f2, _⟩ := box1 e2
        obtain ⟨c3, f3, _⟩ := box1 e3
        have HL : Hid (sLeft w2 b = R.size) := sLeft_eq g1
        have hj4 := HJ.out (pre ++ [⟨tw, htl⟩]) W3 (W3.setCell ⟨b, 0, none⟩ (.string (R.extract (q + 1) R.size))) (some b) hJ3 (cell_grown (b' := b) _ 0) (fun r e => by cases e; exact .inl rfl)
        have HJ4 := Lib.hid hj4
        have HG4 : Hid ((W3.setCell ⟨b, 0, none⟩ (.string (R.extract (q + 1) R.size))).heap[b]? = some (.cells #[.string (R.extract (q + 1) R.size)] 9 (0, 0)) ∧ (W3.setCell ⟨b, 0, none⟩ (.string (R.extract (q + 1) R.size))).heap[b + 1]? = some (.cells #[.string ⟨#[32]⟩] 9 (0, 0)) ∧ (W3.setCell ⟨b, 0, none⟩ (.string (R.extract (q + 1) R.size))).heap[b + 2]? = some (.cells #[.int .i64 0] 3 (0, 0))) :=
          ⟨box1_set e1 _, box1_far e2 (by omega) _, box1_far e3 (by omega) _⟩
        have HBX : Hid (Str8 (R.extract (q + 1) R.size) r') := by rw [HQ.out]; exact HB2
        clear g1 g2 g3 e1 e2 e3 hj4 hJ3 hk3 hy HB2
        gi_wp2
        go_roundw
        case rel => exact ⟨pre ++ [⟨tw, htl⟩], r', R.extract (q + 1) R.size, ⟨HBX.out, by rw [HW.out, HWS.out]; simp, by omega⟩, HJ4, HG4, Below.refl _ _⟩
        case measure =>
          rw [HL.out, sLeft_eq HG4.out.1, HBX.out.size]
          have := HR.out.1.size
          omega
      · clear hy
        gi_wp2
        refine bodyPost_ret (results_none rfl _ _ _) rfl ?_
        exact ⟨⟨_, rfl⟩, .inr ⟨pre ++ [⟨tw, htl⟩], ⟨by simp, by rw [HW.out, HWS.out]; simp⟩, hJx3⟩⟩
    · rw [if_neg hm] at hix
      have hws := words_one hm
      obtain ⟨fn, tmps, assign, body, hy, hRd⟩ := HY.out pre ⟨r, hrl⟩ wr HJp.out (by rw [hw, hws]; simp)
      unfold wdV at hy
      simp only at hy
      rw [show (⟨r.toArray⟩ : ByteArray) = R from hR.symm] at hy
      have HIX := Lib.hid hix
      have HRd := Lib.hid hRd
      have HW := Lib.hid hw
      have HWS := Lib.hid hws
      clear hix hm hw hws hR hRd
      gi_wp2_with (refine ⟨trivial, ?_⟩; gi_at_call 85; refine (callsIn_wide.2 (Tryz.strings_Index_one R 32 _)).mono ?_; rintro e w2 ⟨rfl, rfl⟩; rw [HDR.out, HIX.out])
      refine HRd.out.mono ?_
      rintro e W3 (⟨rfl, hJ3, hk3⟩ | ⟨rfl, hJx3⟩)
      all_goals clear hy
      · gi_wp2
        go_end0
        exact ⟨⟨_, rfl⟩, .inl ⟨pre ++ [⟨r, hrl⟩], by unfold SeqS; rw [HW.out, HWS.out]; simp, hJ3⟩⟩
      · gi_wp2
        go_end0
        exact ⟨⟨_, rfl⟩, .inr ⟨pre ++ [⟨r, hrl⟩], ⟨by simp, by rw [HW.out, HWS.out]; simp⟩, hJx3⟩⟩
end Go.Proofs.YtpaioaknppgggaaGreatDoor
