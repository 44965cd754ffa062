/- slices.Clone at entries. -/
import Derived.Test.YtfdnkfhldgcnmaaLogD
import Derived.Test.YtfdnkfhldgcnmaaLog4
import Derived.ProofKit
import Derived.Deep.RegionHeld3
import Derived.Deep.AppendLies
namespace Go.Proofs.Ytfdnkfhldgcnmaa
open Go.RowKit

theorem cells_one (es : List Ent) : ∀ u ∈ es.flatMap entCells, u.oneCell' = true := by
  intro u hu
  obtain ⟨e, _, h⟩ := List.mem_flatMap.1 hu
  simp [entCells] at h
  rcases h with rfl | rfl | rfl <;> rfl

set_option maxHeartbeats 1000000 in
theorem clone_any (w : World) (lo : Nat) (v : Value) (es : List Ent) (hv : Ents w lo v es) (hn : es.length ≤ 1048576) :
    Calls Try.prog 36 #[v] w fun e w' => ∃ v', e = .returned v' ∧ Own w' w.heap.size 34 3 v' es.length (es.flatMap entCells) ∧ Below w.heap.size w w' := by
  obtain ⟨ao, cap, rfl, hcap, hm⟩ := hv.form
  have hB1 : Below w.heap.size w (w.alloc (.cells #[] 34)) := (Below.refl _ _).alloc (Nat.le_refl _) _
  have hO : Own (w.alloc (.cells #[] 34)) w.heap.size 34 3 (.slice (some ⟨w.heap.size, 0, none⟩) 0 0) 0 [] := Own.made w [] _ w.heap.size 3 0 rfl (Nat.le_refl _) (by decide)
  have hv1 := Rd.below hv hB1 (Nat.le_refl _) (by decide)
  have q22 : ∀ (w : World) (a : Option Addr) (n c n' c' : Nat), (binOp .eql 25 (.slice a n c) (.slice none n' c')).run Try.prog w = .ok (.bool a.isNone) w := fun w a n c n' c' => Lib.run_eql_slice_nil w _ _ a n c n' c' Try.underlying25
  cases ao with
  | none =>
    have h0 : es = [] := by
      obtain ⟨_, ao', cap', h2, _, _, h5, h6⟩ := hv
      cases h2
      cases es with
      | nil => rfl
      | cons x r => obtain ⟨b, off, h, _⟩ := h6 (by simp); cases h
    subst h0
    have hc0 : cap = 0 := by
      obtain ⟨_, ao', cap', h2, _, _, h5, h6⟩ := hv
      cases h2
      first | exact h5 rfl | (have := h5 rfl; omega)
    subst hc0
    go_enter Try.func36, Try.ntmps36
    go_wp2
    go_ret
    exact ⟨_, rfl, Own.nil _ _ _ _, Below.refl _ _⟩
  | some a =>
    go_enter Try.func36, Try.ntmps36
    go_wp2_with (at_builtin; refine wpList_append_Own _ rfl _ _ 25 rfl 34 (.agg #[.int .i64 0, .int .i64 0, .bool false]) 3 24 Try.underlying25 info_entry rfl (by omega) w.heap.size _ 0 [] rfl hO _ 0 es.length _ rfl (Rd.mono hv1 (Nat.zero_le _)) (cells_one es) (by unfold maxLen; omega) (by omega) (by simp) ?_; intro v' w5 hO5 hg5 _)
    go_ret
    exact ⟨_, rfl, by simpa using hO5, hB1.trans (below_of_grownBy hg5 (by simp) (fun k hk => (hO.wblk hk).1))⟩
section
variable {P : Program} {w : World}
theorem step_append_Own {ops : Array Oper} {o : Oper} {a : Act} {K : Act → World → Prop} {Q : Exit → Act → World → Prop} {E : Prop} (hgd : o.guard = none) (s x : Operand) (t : TypeId)
    (ho : o.op = .call { callee := .builtin .append, args := #[s, x], argTypes := #[t, t] })
    (e : TypeId) (z : Value) (sz bytes : Nat) (ht : P.underlying t = some (.slice e)) (hi : (P.info? e).map (fun i => (i.zero, i.size, i.bytes)) = some (some z, sz, bytes))
    (hzs : z.cells.size = sz) (hsz : 0 < sz)
    (lo : Nat) (v : Value) (n : Nat) (cs : List Value) (hs : a.eval s = v) (hown : Own w lo e sz v n cs)
    (xv : Value) (lo' m : Nat) (news : List Value) (hxe : a.eval x = xv) (hx : Rd w lo' xv sz m news) (h1 : ∀ u ∈ news, u.oneCell' = true)
    (h63 : n + m ≤ maxLen) (hbytes : (n + m) * bytes ≤ 140737488355328) (hbase : lo ≤ w.heap.size)
    (h : ∀ v' w', Own w' lo e sz v' (n + m) (cs ++ news) → w.grownBy w' (wblk v) → (∀ k, wblk v' = some k → wblk v = some k ∨ w.heap.size ≤ k) → K (a.put o.dst v') w') :
    if Region.wanted o (yielded ops a.tmps) = true then Oper.wp P o a w K Q else E := by
  have hw : Region.wanted o (yielded ops a.tmps) = true := by simp [Region.wanted, hgd]
  rw [if_pos hw]
  obtain ⟨i, hi1, hz, hsize, hby⟩ := info_parts hi
  obtain ⟨v', w', hr, h2, h3, h4⟩ := run_append_Own (P := P) w lo t o.type e i z sz bytes ht hi1 hz hsize hby hzs hsz v n cs hown xv lo' m news hx h1 h63 hbytes hbase
  unfold Oper.wp execOp
  simp only [ho, resolve, invoke, builtin, Sem.run_bind, Sem.run_pure, Result.andThen_ok, List.map_toArray, List.map_cons, List.map_nil, hs, hxe, hr]
  exact h v' w' h2 h3 h4
end
end Go.Proofs.Ytfdnkfhldgcnmaa
