/- (Plan).phases: the program's. -/
import Derived.Test.YtokpgipbgkiepaaPlK
namespace Go.Proofs.Ytokpgipbgkiepaa
open Go.RowKit
set_option linter.unusedVariables false
set_option linter.unusedSimpArgs false

theorem info_intsl : (Try.prog.info? 27).map (fun i => (i.zero, i.size, i.bytes)) = some (some (.slice none 0 0), 1, 24) := by kernel_rfl

/-- append of one value, at a world whose size has a name. -/
theorem wpList_append_oneH {P : Program} (w : World) {ops : Array Oper} {rest : List Oper} {o : Oper} {a : Act} {Q : Exit → Act → World → Prop} (hgd : o.guard = none) (s x : Operand) (t : TypeId)
    (ho : o.op = .call { callee := .builtin .append, args := #[s, x], argTypes := #[t, t] })
    (e : TypeId) (z : Value) (bytes : Nat) (ht : P.underlying t = some (.slice e)) (hi : (P.info? e).map (fun i => (i.zero, i.size, i.bytes)) = some (some z, 1, bytes))
    (hzs : z.cells.size = 1)
    (lo : Nat) (v : Value) (n : Nat) (cs : List Value) (hs : a.eval s = v) (hown : Own w lo e 1 v n cs)
    (u : Value) (t' : TypeId) (H : Nat) (hxe : a.eval x = .slice (some ⟨H, 0, none⟩) 1 1) (hH : w.heap.size = H) (h1 : u.oneCell' = true)
    (h63 : n + 1 ≤ 9223372036854775807) (hbytes : (n + 1) * bytes ≤ 140737488355328) (hbase : lo ≤ w.heap.size)
    (h : ∀ v' w', Own w' lo e 1 v' (n + 1) (cs ++ [u]) → w.grownBy w' (wblk v) → (∀ k, wblk v' = some k → wblk v = some k ∨ w.heap.size ≤ k) → wpList P ops Q rest (a.put o.dst v') w') :
    wpList P ops Q (o :: rest) a (w.alloc (.cells #[u] t')) :=
  wpList_append_one w hgd s x t ho e z bytes ht hi hzs lo v n cs hs hown u t' (by rw [hxe, hH]) h1 h63 hbytes hbase h

/-- The phases of a plan. -/
def phL (p : Pln) : List (List Int) := p.st.map Stg.ph
theorem phL_get (p : Pln) {i : Nat} (hi : i < p.st.length) : (phL p).getD i [] = (p.st.getD i s0).ph := by simp [phL, hi]

def PhLoop (w wo : World) (lo l0 : Nat) (v : Value) (p : Pln) (k : Nat) : Prop :=
  ∃ hs : List Value, Own wo l0 27 1 v k hs ∧ (∀ j, j < k → ∃ a c, hs[j]? = some (.slice a (p.st.getD j s0).ph.length c) ∧ Ints w lo (.slice a (p.st.getD j s0).ph.length c) (p.st.getD j s0).ph)
def PhRet (w : World) (p : Pln) (e : Ending) (w' : World) : Prop := ∃ v', e = .returned v' ∧ IntSS w' 0 v' (phL p) ∧ Below w.heap.size w w'

set_option maxHeartbeats 4000000 in
theorem plan_phases (w : World) (lo : Nat) (vp : Value) (p : Pln) (hp : PlanR w lo vp p) (h1 : 1 ≤ p.st.length) (h5 : p.st.length ≤ 5) :
    Calls Try.prog 65 #[vp] w (PhRet w p) := by
  obtain ⟨vc, vs, rfl, hc, hs⟩ := hp
  obtain ⟨ao, cap, rfl, hcap, hm⟩ := hs.form
  obtain ⟨b, off, rfl, _, hb, hx⟩ := hs.spot (by omega)
  obtain ⟨aoc, capc, rfl, hcapc, hmc⟩ := hc.form
  have HX := Lib.hid hx
  have hB0 : Below w.heap.size w (w.alloc (.cells #[.slice aoc p.cl.length capc, .slice (some ⟨b, off, none⟩) p.st.length cap] 26)) := (Below.refl _ _).alloc (Nat.le_refl _) _
  have x1 : (w.alloc (.cells #[.slice aoc p.cl.length capc, .slice (some ⟨b, off, none⟩) p.st.length cap] 26)).cell? ⟨w.heap.size, 1, none⟩ = some (.slice (some ⟨b, off, none⟩) p.st.length cap) := by rw [cell_of_row _ w.heap.size 1 #[.slice aoc p.cl.length capc, .slice (some ⟨b, off, none⟩) p.st.length cap] 26 (0, 0) (heap_alloc_new w _)]; simp
  have hz0 : w.heap.size < (w.alloc (.cells #[.slice aoc p.cl.length capc, .slice (some ⟨b, off, none⟩) p.st.length cap] 26)).heap.size := by simp
  clear hx hc hs
  go_enter Try.func65, Try.ntmps65
  obtain ⟨w0, hw0⟩ : ∃ w0, w0 = w.alloc (.cells #[.slice aoc p.cl.length capc, .slice (some ⟨b, off, none⟩) p.st.length cap] 26) := ⟨_, rfl⟩
  go_wp2_with fail
  rw [← hw0] at hB0 x1 hz0
  go_loopw [3, 9] (fun sv i wo => ∃ j : Nat, j ≤ p.st.length ∧ i = .int .i64 j ∧ PhLoop w wo lo w0.heap.size sv p j ∧ Below w0.heap.size w0 wo) (fun _ i _ => p.st.length - (intOf i).toNat)
  case atStart => exact ⟨0, Nat.zero_le _, rfl, ⟨[], Own.nil _ _ _ _, fun j hj => absurd hj (Nat.not_lt_zero _)⟩, by rw [hw0]; exact Below.refl _ _⟩
  case round =>
    obtain ⟨j, hj, rfl, ⟨hs, hO, hI⟩, hB⟩ := hrel
    have hT := hB0.trans (hB.mono hB0.size)
    have HI := Lib.hid hI
    clear hI
    by_cases hlt : j < p.st.length
    · obtain ⟨g1, ai, ci, g0, hIj⟩ := HX.out j (by omega)
      have c0 := (hT.cell (p := ⟨b, off + j * 2, none⟩) hb).trans g0
      have c1 := (hT.cell (p := ⟨b, off + j * 2 + 1, none⟩) hb).trans g1
      have HIJ : Hid (∃ a c, (Value.slice ai (p.st.getD j s0).ph.length ci) = .slice a (p.st.getD j s0).ph.length c ∧ Ints w lo (.slice a (p.st.getD j s0).ph.length c) (p.st.getD j s0).ph) := ⟨_, _, rfl, hIj⟩
      obtain ⟨n, hn⟩ : ∃ n, n = (p.st.getD j s0).ph.length := ⟨_, rfl⟩
      obtain ⟨gr, hgr⟩ : ∃ gr, gr = (p.st.getD j s0).gr := ⟨_, rfl⟩
      rw [← hn] at c0 
      rw [← hgr] at c1
      have HN := Lib.hid hn
      have hsz := hB.size
      have hol := hO.len
      have HOL := Lib.hid hol
      clear g0 g1 hIj hn hgr hol
      go_wp2_with (at_builtin; refine wpList_append_oneH _ rfl _ _ 23 rfl 27 (.slice none 0 0) 24 Try.underlying23 info_intsl rfl w0.heap.size _ _ _ rfl (hO.alloc _) _ _ (wr.heap.size + 1) rfl (by simp) rfl (by omega) (by omega) (by simp; omega) ?_; intro v' w3 hO3 hg3 _)
      have hB3 : Below w0.heap.size w0 w3 := (hB.alloc hsz _).grown hg3 (by simp; omega) (fun k hk => (hO.wblk hk).1)
      have HF : Hid (PhLoop w w3 lo w0.heap.size v' p (j + 1)) := ⟨_, hO3, fun i hi => by
        by_cases h : i = j
        · subst h
          obtain ⟨a, c, e1, e2⟩ := HIJ.out
          refine ⟨a, c, ?_, e2⟩
          rw [← e1, ← HN.out, List.getElem?_append_right (by rw [HOL.out]; omega), HOL.out]
          simp
        · obtain ⟨a, c, e1, e2⟩ := HI.out i (by omega)
          exact ⟨a, c, by rw [List.getElem?_append_left (by rw [HOL.out]; omega)]; exact e1, e2⟩⟩
      clear hO3 hg3 hB hO
      go_wp2
      go_roundw
      case rel => exact ⟨j + 1, by omega, by go_num, HF.out, hB3⟩
      case measure => simp [intOf]; omega
    · have hjk : j = p.st.length := by omega
      subst hjk
      go_wp2_with fail
      go_ret
      refine ⟨_, rfl, ⟨hs, ?_, fun i hi => ?_⟩, hT⟩
      · have := hO.rd.mono (Nat.zero_le _)
        simpa [phL] using this
      · have hi' : i < p.st.length := by simpa [phL] using hi
        obtain ⟨a, c, e1, e2⟩ := HI.out i hi'
        rw [phL_get p hi', List.getD_eq_getElem?_getD, e1]
        exact Rd.below (e2.mono (Nat.zero_le _)) hT (Nat.le_refl _) (by decide)
end Go.Proofs.Ytokpgipbgkiepaa
