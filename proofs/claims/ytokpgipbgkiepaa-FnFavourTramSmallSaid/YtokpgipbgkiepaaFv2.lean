/- shifts: the reference's. -/
import Derived.Test.YtokpgipbgkiepaaCp3
import Derived.Test.YtokpgipbgkiepaaGr2
import Derived.Test.YtokpgipbgkiepaaFv1
namespace Go.Proofs.Ytokpgipbgkiepaa
open Go.RowKit
set_option linter.unusedVariables false
set_option linter.unusedSimpArgs false

theorem l3_len (p : Pln) (n : Int) (a : Nat) : ∀ b, (l3 p n a b).length ≤ b := by
  intro b
  induction b with
  | zero => simp [l3]
  | succ b ih => simp only [l3, List.length_append]; split <;> simp <;> omega
theorem l2_len (p : Pln) (n : Int) (h5 : p.st.length ≤ 5) : ∀ a, (l2 p n a).length ≤ 5 * a := by
  intro a
  induction a with
  | zero => simp [l2]
  | succ a ih => simp only [l2, List.length_append]; have := l3_len p n a p.st.length; omega
theorem l1_len (p : Pln) (h5 : p.st.length ≤ 5) : ∀ n, (l1 p n).length ≤ 25 * n := by
  intro n
  induction n with
  | zero => simp [l1]
  | succ n ih => simp only [l1, List.length_append]; have := l2_len p (n + 1 : Nat) h5 p.st.length; omega

def pcs (vc : Value) (hs : List Value) : List Value := hs.flatMap fun h => [vc, h]
theorem pcs_snoc (vc : Value) (hs : List Value) (u : Value) : pcs vc (hs ++ [u]) = pcs vc hs ++ [vc, u] := by simp [pcs]
theorem pcs_get (vc : Value) : ∀ (hs : List Value) (i : Nat), i < hs.length → (pcs vc hs)[i * 2]? = some vc ∧ (pcs vc hs)[i * 2 + 1]? = some (hs.getD i .nilFunc) := by
  intro hs
  induction hs with
  | nil => intro i h; simp at h
  | cons x r ih =>
    intro i h
    have e : pcs vc (x :: r) = vc :: x :: pcs vc r := rfl
    rw [e]
    cases i with
    | zero => simp
    | succ i =>
      have := ih i (by simpa using h)
      have e2 : (i + 1) * 2 = i * 2 + 1 + 1 := by omega
      rw [e2]
      simpa using this
theorem pcs_len (vc : Value) (hs : List Value) : (pcs vc hs).length = hs.length * 2 := by
  induction hs with
  | nil => rfl
  | cons x r ih => show (vc :: x :: pcs vc r).length = _; simp [ih]; omega

/-- The plans collected so far: p with the greens gl, of which the first are p's own. -/
structure ShI (W : World) (B : Nat) (vc vs : Value) (p : Pln) (v : Value) (hs : List Value) (gl : List (List Int)) : Prop where
  len : hs.length = gl.length
  own : Own W B 26 2 v gl.length (pcs vc hs)
  z : hs.getD 0 .nilFunc = vs
  e : ∀ i, 1 ≤ i → i < gl.length → ∃ lo hi hh, B ≤ lo ∧ StgY W lo hi (hs.getD i .nilFunc) hh (wgs p (gl.getD i [])).st ∧ (∀ k, wblk v = some k → k < lo ∨ hi ≤ k) ∧ hi ≤ W.heap.size
theorem ShI.below {W W' : World} {B : Nat} {vc vs : Value} {p : Pln} {v : Value} {hs : List Value} {gl : List (List Int)} (h : ShI W B vc vs p v hs gl) (hb : Below W.heap.size W W') : ShI W' B vc vs p v hs gl :=
  ⟨h.len, h.own.below hb (Nat.le_refl _), h.z, fun i h1 h2 => by
    obtain ⟨lo, hi, hh, d, a, b, c⟩ := h.e i h1 h2
    exact ⟨lo, hi, hh, d, a.below hb (Nat.le_refl _), b, Nat.le_trans c hb.size⟩⟩
theorem ShI.snoc {W w1 w' : World} {B : Nat} {vc vs : Value} {p : Pln} {v v' u : Value} {hs : List Value} {gl : List (List Int)} {gs : List Int} (h : ShI W B vc vs p v hs gl) (h0 : 1 ≤ gl.length) (hBW : B ≤ W.heap.size) (hb : Below W.heap.size W w1)
    (hu : OwnStg w1 W.heap.size u (wgs p gs).st) (hO : Own w' B 26 2 v' (gl.length + 1) (pcs vc hs ++ [vc, u])) (hg : w1.grownBy w' (wblk v)) (hk : ∀ k, wblk v' = some k → wblk v = some k ∨ w1.heap.size ≤ k) :
    ShI w' B vc vs p v' (hs ++ [u]) (gl ++ [gs]) := by
  have hc : Chg (fun k => wblk v = some k) w1 w' := chg_of_grownBy hg (fun k hk => .inl hk)
  refine ⟨by simp [h.len], by rw [pcs_snoc]; simpa using hO, ?_, fun i h1 h2 => ?_⟩
  · rw [getD_snoc_lt (by rw [h.len]; omega)]; exact h.z
  · by_cases hi : i < gl.length
    · obtain ⟨lo, hi', hh, d, a, b, c⟩ := h.e i h1 hi
      have e1 : (hs ++ [u]).getD i .nilFunc = hs.getD i .nilFunc := getD_snoc_lt (by rw [h.len]; exact hi)
      have e2 : (gl ++ [gs]).getD i [] = gl.getD i [] := by simp [List.getD_eq_getElem?_getD, List.getElem?_append_left hi]
      rw [e1, e2]
      refine ⟨lo, hi', hh, d, (a.below hb (Nat.le_refl _)).chg hc (fun k hk => b k hk), fun k hk' => ?_, Nat.le_trans c (Nat.le_trans hb.size hg.size)⟩
      rcases hk k hk' with h' | h'
      · exact b k h'
      · right; have := hb.size; omega
    · have hil : i = gl.length := by simp at h2; omega
      subst hil
      have e1 : (hs ++ [u]).getD gl.length .nilFunc = u := by rw [← h.len]; exact getD_snoc_eq hs u
      have e2 : (gl ++ [gs]).getD gl.length [] = gs := by simp [List.getD_eq_getElem?_getD]
      rw [e1, e2]
      obtain ⟨hh, hy⟩ := hu.up
      refine ⟨W.heap.size, w1.heap.size, hh, hBW, hy.chg hc (fun k hk => .inl (h.own.wblk hk).2), fun k hk' => ?_, hg.size⟩
      rcases hk k hk' with h' | h'
      · left; exact (h.own.wblk h').2
      · exact .inr h'

theorem info_plan : (Try.prog.info? 26).map (fun i => (i.zero, i.size, i.bytes)) = some (some (.agg #[.slice none 0 0, .slice none 0 0]), 2, 48) := by kernel_rfl

theorem wpList_append_plan {P : Program} (w : World) {ops : Array Oper} {rest : List Oper} {o : Oper} {a : Act} {Q : Exit → Act → World → Prop} (hgd : o.guard = none) (s x : Operand) (t : TypeId)
    (ho : o.op = .call { callee := .builtin .append, args := #[s, x], argTypes := #[t, t] })
    (e : TypeId) (ht : P.underlying t = some (.slice e)) (hi : (P.info? e).map (fun i => (i.zero, i.size, i.bytes)) = some (some (.agg #[.slice none 0 0, .slice none 0 0]), 2, 48))
    (lo : Nat) (v : Value) (n : Nat) (cs : List Value) (hs : a.eval s = v) (hown : Own w lo e 2 v n cs)
    (u g : Value) (t' : TypeId) (H : Nat) (hxe : a.eval x = .slice (some ⟨H, 0, none⟩) 1 1) (hH : w.heap.size = H) (h1 : u.oneCell' = true) (h2 : g.oneCell' = true)
    (h63 : n + 1 ≤ 9223372036854775807) (hbytes : (n + 1) * 48 ≤ 140737488355328) (hbase : lo ≤ w.heap.size)
    (h : ∀ v' w', Own w' lo e 2 v' (n + 1) (cs ++ [u, g]) → w.grownBy w' (wblk v) → (∀ k, wblk v' = some k → wblk v = some k ∨ w.heap.size ≤ k) → wpList P ops Q rest (a.put o.dst v') w') :
    wpList P ops Q (o :: rest) a (w.alloc (.cells #[u, g] t')) := by
  subst hH
  refine wpList_append_Own _ hgd s x t ho e _ 2 48 ht hi rfl (by omega) lo v n cs hs (hown.alloc _) _ 0 1 [u, g] hxe (Rd.made w [u, g] t' 0 2 1 rfl (Nat.zero_le _) (by decide)) (by intro q hq; simp at hq; rcases hq with rfl | rfl <;> assumption) (by unfold maxLen; omega) hbytes (by simp; omega) ?_
  intro v' w' ho' hg hk
  have hga := World.grownBy_alloc w (.cells #[u, g] t') none
  refine h v' w' ho' ?_ ?_
  · exact grownBy_trans (row := wblk v) ⟨hga.os, hga.tape, hga.output, hga.size, fun k hk _ => hga.block k hk (fun e => by cases e)⟩ hg (fun x hx => .inl hx)
  · intro k hk'
    rcases hk k hk' with h | h
    · exact .inl h
    · right; simp at h; omega

/-- A list of plans: p with the greens gl; the first has p's own stages. -/
def PlsR (W : World) (lo : Nat) (v : Value) (p : Pln) (vc vs : Value) (gl : List (List Int)) : Prop :=
  ∃ hs : List Value, Rd W lo v 2 gl.length (pcs vc hs) ∧ hs.length = gl.length ∧ hs.getD 0 .nilFunc = vs ∧ ∀ i, 1 ≤ i → i < gl.length → StgS W lo (hs.getD i .nilFunc) (wgs p (gl.getD i [])).st
theorem ShI.plsR {W : World} {B : Nat} {vc vs : Value} {p : Pln} {v : Value} {hs : List Value} {gl : List (List Int)} (h : ShI W B vc vs p v hs gl) : PlsR W B v p vc vs gl := by
  refine ⟨hs, h.own.rd, h.len, h.z, fun i h1 hi => ?_⟩
  obtain ⟨lo, hi', hh, d, a, _, _⟩ := h.e i h1 hi
  exact a.own.stg.mono d
theorem l1_pred (p : Pln) {n : Nat} (h : 1 ≤ n) : l1 p (n + 1 - 1) = l1 p (n - 1) ++ l2 p n p.st.length := by
  obtain ⟨m, rfl⟩ : ∃ m, n = m + 1 := ⟨n - 1, by omega⟩
  rfl
def shL (p : Pln) : List (List Int) := grs p :: l1 p 6
def ShRet (w : World) (p : Pln) (vc vs : Value) (e : Ending) (w' : World) : Prop := ∃ v', e = .returned v' ∧ PlsR w' (w.heap.size + 1) v' p vc vs (shL p) ∧ Below w.heap.size w w'

set_option maxHeartbeats 16000000 in
set_option maxRecDepth 100000 in
theorem spec_shifts (w : World) (lo : Nat) (vc vs : Value) (p : Pln) (hp : PlanR w lo (.agg #[vc, vs]) p) (hval : validP p = true) :
    Calls Try.prog 80 #[.agg #[vc, vs]] w (ShRet w p vc vs) := by
  have hp0 := hp
  obtain ⟨_, _, e, hc, hs⟩ := hp
  cases e
  obtain ⟨ao, cap, rfl, hcap, hm⟩ := hs.form
  obtain ⟨aoc, capc, rfl, hcapc, hmc⟩ := hc.form
  have hp5 := (validP_iff.1 hval).2.2.1
  have hp1 := (validP_iff.1 hval).2.1
  obtain ⟨w0, hw0, hB0, x0, x1, hz0⟩ := plan_box w (.slice aoc p.cl.length capc) (.slice ao p.st.length cap)
  have hO0 := Own.made w0 [.slice aoc p.cl.length capc, .slice ao p.st.length cap] 26 w0.heap.size 2 1 rfl (Nat.le_refl _) (by decide)
  obtain ⟨w1, hw1⟩ : ∃ x, x = w0.alloc (.cells #[.slice aoc p.cl.length capc, .slice ao p.st.length cap] 26) := ⟨_, rfl⟩
  rw [show (w0.alloc (Obj.cells [Value.slice aoc p.cl.length capc, Value.slice ao p.st.length cap].toArray 26)) = w1 from hw1.symm] at hO0
  have hs0 : w0.heap.size = w.heap.size + 1 := by rw [hw0]; simp
  have hB1 : Below w0.heap.size w0 w1 := by rw [hw1]; exact (Below.refl _ _).alloc (Nat.le_refl _) _
  have hI0 : ShI w1 w0.heap.size (.slice aoc p.cl.length capc) (.slice ao p.st.length cap) p (.slice (some ⟨w0.heap.size, 0, none⟩) 1 1) [.slice ao p.st.length cap] [grs p] :=
    ⟨rfl, hO0, rfl, fun i h1 h2 => by simp at h2; omega⟩
  rw [hs0] at hI0
  have HI0 := Lib.hid hI0
  have hz1 : w.heap.size + 1 ≤ w0.heap.size := by omega
  have hz2 : w0.heap.size ≤ w.heap.size + 1 := by omega
  have HP0 := Lib.hid (hp0.below hB0 (Nat.le_refl _))
  have HB0 := Lib.hid hB0
  have HB1 := Lib.hid hB1
  have HV := Lib.hid hval
  have KC : Hid (∀ W, Below w0.heap.size w0 W → W.cell? ⟨w.heap.size, 0, none⟩ = some (.slice aoc p.cl.length capc) ∧ W.cell? ⟨w.heap.size, 1, none⟩ = some (.slice ao p.st.length cap)) := fun W h => ⟨(h.cell (p := ⟨w.heap.size, 0, none⟩) hz0).trans x0, (h.cell (p := ⟨w.heap.size, 1, none⟩) hz0).trans x1⟩
  clear hp0 hc hs hB0 hB1 hO0 hI0 x0 x1 hval hs0
  go_enter Try.func80, Try.ntmps80
  go_wp2_with fail
  rw [← hw0, ← hw1]
  clear hw0 hw1
  go_loopw [3, 4] (fun v i W => ∃ n : Nat, ∃ gl hs, 1 ≤ n ∧ n ≤ 7 ∧ i = .int .i64 n ∧ Hid (gl = grs p :: l1 p (n - 1)) ∧ Hid (gl.length ≤ 1 + 25 * (n - 1)) ∧ Hid (ShI W (w.heap.size + 1) (.slice aoc p.cl.length capc) (.slice ao p.st.length cap) p v hs gl) ∧ Hid (Below w0.heap.size w0 W)) (fun _ i _ => 7 - (intOf i).toNat)
  case atStart => exact ⟨1, _, _, by omega, by omega, rfl, (rfl : [grs p] = grs p :: l1 p (1 - 1)), by unfold Hid; simp, HI0, HB1⟩
  case round =>
    clear HI0 HB1
    obtain ⟨n, gl, hs, hn1, hn, rfl, HG, HL, HI, HB⟩ := hrel
    by_cases h6 : n < 7
    · have t1 : decide ((n : Int) ≤ 6) = true := decide_eq_true (by omega)
      have t1' : decide (n ≤ 6) = true := decide_eq_true (by omega)
      go_wp2_with fail
      go_loopw [3, 5] (fun v i W => ∃ a : Nat, ∃ gl hs, a ≤ p.st.length ∧ i = .int .i64 a ∧ Hid (gl = (grs p :: l1 p (n - 1)) ++ l2 p n a) ∧ Hid (gl.length ≤ 1 + 25 * (n - 1) + 5 * a) ∧ Hid (ShI W (w.heap.size + 1) (.slice aoc p.cl.length capc) (.slice ao p.st.length cap) p v hs gl) ∧ Hid (Below w0.heap.size w0 W)) (fun _ i _ => p.st.length - (intOf i).toNat)
      case atStart => exact ⟨0, _, _, by omega, rfl, by rw [HG.out]; unfold Hid; simp [l2], by have := HL.out; unfold Hid; omega, HI, HB⟩
      case round =>
        clear HG HL HI HB
        obtain ⟨a, gl, hs, ha, rfl, HG, HL, HI, HB⟩ := hrel
        obtain ⟨u0, u1⟩ := KC.out _ HB.out
        by_cases hla : a < p.st.length
        · go_wp2_with fail
          go_loopw [3, 6] (fun v i W => ∃ b : Nat, ∃ gl hs, b ≤ p.st.length ∧ i = .int .i64 b ∧ Hid (gl = ((grs p :: l1 p (n - 1)) ++ l2 p n a) ++ l3 p n a b) ∧ Hid (gl.length ≤ 1 + 25 * (n - 1) + 5 * a + b) ∧ Hid (ShI W (w.heap.size + 1) (.slice aoc p.cl.length capc) (.slice ao p.st.length cap) p v hs gl) ∧ Hid (Below w0.heap.size w0 W)) (fun _ i _ => p.st.length - (intOf i).toNat)
          case atStart => exact ⟨0, _, _, by omega, rfl, by rw [HG.out]; unfold Hid; simp [l3], by have := HL.out; unfold Hid; omega, HI, HB⟩
          case round =>
            clear HG HL HI HB u0 u1
            obtain ⟨b, gl, hs, hb, rfl, HG, HL, HI, HB⟩ := hrel
            obtain ⟨u0, u1⟩ := KC.out _ HB.out
            by_cases hlb : b < p.st.length
            · go_wp2_with fail
              refine (spec_greensOf _ 0 _ p ((HP0.out.below HB.out (Nat.le_refl _)).mono (Nat.zero_le _)) hp5).mono ?_; rintro e w2 ⟨v2, rfl, hO2, hB2⟩
              have hgl := grs_len p
              obtain ⟨a2, k2, rfl, hk2, hm2⟩ := hO2.form
              obtain ⟨g, rfl, hg1, hg2, hcell, hfr, _⟩ := hO2.parts (by omega)
              rw [hgl] at hO2 hk2 ⊢
              have hcl : ((grs p).map (Value.int .i64)).length = p.st.length := by rw [List.length_map, hgl]
              have ya := hcell a (by omega)
              have yb := hcell b (by omega)
              have fa := hfr a
              have fb := hfr b
              simp only [List.getElem_map] at ya yb
              have ga : 5 ≤ (grs p).getD a 0 ∧ (grs p).getD a 0 ≤ 40 := (okG_iff.1 (grs_ok HV.out)).2 a hla
              have gb : 5 ≤ (grs p).getD b 0 ∧ (grs p).getD b 0 ≤ 40 := (okG_iff.1 (grs_ok HV.out)).2 b hlb
              have hga : (grs p)[a]'(by rw [hgl]; exact hla) = (grs p).getD a 0 := by simp [List.getD_eq_getElem?_getD, show a < (grs p).length by rw [hgl]; exact hla]
              have hgb : (grs p)[b]'(by rw [hgl]; exact hlb) = (grs p).getD b 0 := by simp [List.getD_eq_getElem?_getD, show b < (grs p).length by rw [hgl]; exact hlb]
              rw [hga] at ya
              rw [hgb] at yb
              obtain ⟨x, hx⟩ : ∃ x, x = (grs p).getD a 0 := ⟨_, rfl⟩
              obtain ⟨y, hy⟩ : ∃ x, x = (grs p).getD b 0 := ⟨_, rfl⟩
              rw [← hx] at ya ga
              rw [← hy] at yb gb
              have HX := Lib.hid hx
              have HY := Lib.hid hy
              have HGL := Lib.hid hgl
              have HI2 := Lib.hid (HI.out.below hB2)
              have HB2 := Lib.hid (HB.out.trans (hB2.mono HB.out.size))
              have HBr := Lib.hid hB2
              have HO2 := Lib.hid hO2
              have e1 : (0 : Int) ≤ (a : Int) := by omega
              have e2 : (a : Int) < (p.st.length : Int) := by omega
              have e3 : (0 : Int) ≤ (b : Int) := by omega
              have e4 : (b : Int) < (p.st.length : Int) := by omega
              have HT : Hid (okT (grs p) n a b = true ↔ a ≠ b ∧ 5 ≤ x - n ∧ y + n ≤ 40) := by unfold Hid; rw [HX.out, HY.out]; exact okT_iff
              have hwr := HB.out.size
              clear hcell hfr hcl hga hgb hx hy hgl hB2 hO2 u0 u1
              by_cases hab : a = b
              · subst hab
                have t2 : ((a : Int) != (a : Int)) = false := by simp
                have t3 : (!((a : Int) == (a : Int))) = false := by simp
                have hno : okT (grs p) n a a = false := by
                  cases h : okT (grs p) n a a
                  · rfl
                  · exact absurd rfl (HT.out.1 h).1
                have HNO := Lib.hid hno
                have HB3 : Hid (Below w0.heap.size w0 ((w2.setCell ⟨g, a, none⟩ (.int .i64 (x - n))).setCell ⟨g, a, none⟩ (.int .i64 x))) := (HB2.out.setCell (p := ⟨g, a, none⟩) (Nat.le_trans hwr hg1) _).setCell (p := ⟨g, a, none⟩) (Nat.le_trans hwr hg1) _
                have HI3 : Hid (ShI ((w2.setCell ⟨g, a, none⟩ (.int .i64 (x - n))).setCell ⟨g, a, none⟩ (.int .i64 x)) (w.heap.size + 1) (.slice aoc p.cl.length capc) (.slice ao p.st.length cap) p u3 hs gl) :=
                  HI.out.below ((HBr.out.setCell (p := ⟨g, a, none⟩) hg1 _).setCell (p := ⟨g, a, none⟩) hg1 _)
                clear hno
                go_wp2_with fail
                go_roundw
                case rel => exact ⟨a + 1, gl, hs, by omega, by go_num, by rw [HG.out]; unfold Hid; simp [l3, HNO.out], by have := HL.out; unfold Hid; omega, HI3, HB3⟩
                case measure => simp [intOf]; omega
              · have t2 : ((a : Int) != (b : Int)) = true := by simp; omega
                have t3 : (!((a : Int) == (b : Int))) = true := by simp; omega
                have t4 : (!(a == b)) = true := by simp [hab]
                have hne : (⟨g, a, none⟩ : Addr) ≠ ⟨g, b, none⟩ := by intro h; injection h with _ h _; exact hab h
                obtain ⟨hO3, hg3⟩ := HO2.out.store (by omega) a (.int .i64 (x - n))
                obtain ⟨hO4, hg4⟩ := hO3.store (by omega) b (.int .i64 (y + n))
                rw [shf_set HX.out HY.out] at hO4
                have hB4 : Below wr.heap.size wr ((w2.setCell ⟨g, a, none⟩ (.int .i64 (x - n))).setCell ⟨g, b, none⟩ (.int .i64 (y + n))) := (HBr.out.setCell (p := ⟨g, a, none⟩) hg1 _).setCell (p := ⟨g, b, none⟩) hg1 _
                obtain ⟨w4, hw4⟩ : ∃ w4, w4 = (w2.setCell ⟨g, a, none⟩ (.int .i64 (x - n))).setCell ⟨g, b, none⟩ (.int .i64 (y + n)) := ⟨_, rfl⟩
                rw [← hw4] at hO4 hB4
                have HI4 := Lib.hid (HI.out.below hB4)
                have HB4 := Lib.hid (HB.out.trans (hB4.mono HB.out.size))
                have HO4 := Lib.hid hO4
                have HW4 := Lib.hid hw4
                have hsl : (shf (grs p) n a b).length = p.st.length := by rw [shf_len, HGL.out]
                obtain ⟨_, e1', _, _, hcell, _, _⟩ := hO4.parts (by omega)
                cases e1'
                have za := hcell a (by rw [List.length_map, hsl]; exact hla)
                have zb := hcell b (by rw [List.length_map, hsl]; exact hlb)
                simp only [List.getElem_map] at za zb
                have hza : (shf (grs p) n a b)[a]'(by rw [hsl]; exact hla) = x - n := by
                  have := shf_get (g := grs p) (n := n) (a := a) (b := b) (i := a) (by rw [HGL.out]; exact hla) (by rw [HGL.out]; exact hlb)
                  rw [if_neg hab, if_pos rfl, ← HX.out] at this
                  rw [← this]; simp [List.getD_eq_getElem?_getD, show a < (shf (grs p) n a b).length by rw [hsl]; exact hla]
                have hzb : (shf (grs p) n a b)[b]'(by rw [hsl]; exact hlb) = y + n := by
                  have := shf_get (g := grs p) (n := n) (a := a) (b := b) (i := b) (by rw [HGL.out]; exact hla) (by rw [HGL.out]; exact hlb)
                  rw [if_pos rfl, ← HY.out] at this
                  rw [← this]; simp [List.getD_eq_getElem?_getD, show b < (shf (grs p) n a b).length by rw [hsl]; exact hlb]
                rw [hza] at za
                rw [hzb] at zb
                have HSL := Lib.hid hsl
                obtain ⟨u0, u1⟩ := KC.out _ HB4.out
                clear hO3 hg3 hO4 hg4 hB4 hw4 hcell hza hzb hsl HI2 HB2 HBr HO2
                go_wp2_with fail
                rw [← HW4.out]
                clear HW4
                by_cases hx5 : 5 ≤ x - (n : Int)
                · refine (inRange_dec (x - n) 5 40 true _ (by simp; omega)).mono ?_; rintro e _ ⟨rfl, rfl⟩
                  go_wp2_with fail
                  by_cases hy4 : y + (n : Int) ≤ 40
                  · refine (inRange_dec (y + n) 5 40 true _ (by simp; omega)).mono ?_; rintro e _ ⟨rfl, rfl⟩
                    have HYES := Lib.hid (HT.out.2 ⟨hab, hx5, hy4⟩)
                    have hIs : Ints w4 0 (.slice (some ⟨g, 0, none⟩) p.st.length k2) (shf (grs p) n a b) := by unfold Ints; rw [HSL.out]; have := HO4.out.rd.mono (Nat.zero_le wr.heap.size); exact this.mono (Nat.zero_le _)
                    have HIS := Lib.hid hIs
                    have hb4 := HL.out
                    have hnl := HI4.out.own
                    clear hIs
                    go_wp2_with fail
                    refine (spec_withGreens _ 0 0 _ _ _ p (shf (grs p) n a b) ((HP0.out.below HB4.out (Nat.le_refl _)).mono (Nat.zero_le _)) HIS.out HV.out HSL.out).mono ?_; rintro e w5 ⟨vs5, rfl, hS5, hB5⟩
                    obtain ⟨a5, k5, rfl, _, _⟩ := hS5.stg.form
                    have hO5 := hnl.below hB5 (Nat.le_refl _)
                    have hsz5 : w.heap.size + 1 ≤ w5.heap.size := by have := hB5.size; have := HB4.out.size; omega
                    have HS5 := Lib.hid hS5
                    have HB5 := Lib.hid hB5
                    have HBT5 := Lib.hid (HB4.out.trans (hB5.mono HB4.out.size))
                    clear hnl hS5 hB5
                    go_wp2_with (at_builtin; refine wpList_append_plan _ rfl _ _ 89 rfl 26 Try.underlying89 info_plan (w.heap.size + 1) _ _ _ rfl hO5 _ _ _ w5.heap.size rfl rfl rfl rfl (by omega) (by omega) hsz5 ?_; intro v6 w6 hO6 hg6 hk6)
                    have HI6 := Lib.hid (HI4.out.snoc (by rw [HG.out]; simp) (by have := HB4.out.size; omega) HB5.out HS5.out hO6 hg6 hk6)
                    have HB6 := Lib.hid (HBT5.out.trans (below_of_grownBy hg6 (B := w0.heap.size) HBT5.out.size (fun k hk => by have := (hO5.wblk hk).1; omega)))
                    clear hO6 hg6 hk6 hO5
                    go_wp2_with fail
                    go_roundw
                    case rel => exact ⟨b + 1, _, _, by omega, by go_num, by rw [HG.out]; unfold Hid; simp [l3, HYES.out], by have := HL.out; unfold Hid; simp; omega, HI6, HB6⟩
                    case measure => simp [intOf]; omega
                  · refine (inRange_dec (y + n) 5 40 false _ (by simp; omega)).mono ?_; rintro e _ ⟨rfl, rfl⟩
                    have HNO : Hid (¬ okT (grs p) n a b = true) := fun h => hy4 (HT.out.1 h).2.2
                    go_wp2_with fail
                    go_roundw
                    case rel => exact ⟨b + 1, gl, hs, by omega, by go_num, by rw [HG.out]; unfold Hid; simp [l3, HNO.out], by have := HL.out; unfold Hid; omega, HI4, HB4⟩
                    case measure => simp [intOf]; omega
                · refine (inRange_dec (x - n) 5 40 false _ (by simp; omega)).mono ?_; rintro e _ ⟨rfl, rfl⟩
                  have HNO : Hid (¬ okT (grs p) n a b = true) := fun h => hx5 (HT.out.1 h).2.1
                  go_wp2_with fail
                  go_roundw
                  case rel => exact ⟨b + 1, gl, hs, by omega, by go_num, by rw [HG.out]; unfold Hid; simp [l3, HNO.out], by have := HL.out; unfold Hid; omega, HI4, HB4⟩
                  case measure => simp [intOf]; omega
            · obtain rfl : b = p.st.length := by omega
              go_wp2_with fail
              go_roundw
              case rel => exact ⟨a + 1, gl, hs, by omega, by go_num, by rw [HG.out]; unfold Hid; simp [l2], by have := HL.out; unfold Hid; omega, HI, HB⟩
              case measure => simp [intOf]; omega
        · obtain rfl : a = p.st.length := by omega
          go_wp2_with fail
          go_roundw
          case rel => exact ⟨n + 1, gl, hs, by omega, by omega, by go_num, by rw [HG.out]; unfold Hid; rw [l1_pred p hn1]; simp, by have := HL.out; unfold Hid; omega, HI, HB⟩
          case measure => simp [intOf]; omega
    · obtain rfl : n = 7 := by omega
      have HF : Hid (PlsR wr (w.heap.size + 1) u3 p (.slice aoc p.cl.length capc) (.slice ao p.st.length cap) (shL p)) := by
        have h := HI.out
        rw [HG.out] at h
        exact h.plsR
      go_wp2_with fail
      go_ret
      exact ⟨_, rfl, HF.out, HB0.out.trans (HB.out.mono HB0.out.size)⟩
end Go.Proofs.Ytokpgipbgkiepaa
