/- Predicates on slices that read as lists, slices that the call owns, and the append law for these; nothing of the program is used. -/
import Derived.WalkKit
import Derived.Lib.Hide
import Derived.Deep.QuietTactic
import Derived.WalkSpells
import Derived.ArgAppend
import Derived.WalkLawsBesides
namespace Go.Proofs.YtpaioaknppgggaaGreatDoor
open Go.RowKit

/-- An int fits its kind. -/
def in64 (x : Int) : Prop := -9223372036854775808 ≤ x ∧ x ≤ 9223372036854775807

/-- v is a slice of n elements of sz cells; its cells read cs; they lie in a block from lo on. -/
def Rd (w : World) (lo : Nat) (v : Value) (sz n : Nat) (cs : List Value) : Prop :=
  cs.length = n * sz ∧ ∃ ao cap, v = .slice ao n cap ∧ n ≤ cap ∧ cap ≤ maxLen ∧ (ao = none → cap = 0) ∧
    (0 < n → ∃ b off, ao = some ⟨b, off, none⟩ ∧ lo ≤ b ∧ ∀ i (h : i < cs.length), w.cell? ⟨b, off + i, none⟩ = some cs[i])

def Bools (w : World) (lo : Nat) (v : Value) (xs : List Bool) : Prop := Rd w lo v 1 xs.length (xs.map .bool)
def Ints (w : World) (lo : Nat) (v : Value) (xs : List Int) : Prop := Rd w lo v 1 xs.length (xs.map (.int .i64))

theorem Rd.mono {w : World} {lo lo' : Nat} {v : Value} {sz n : Nat} {cs : List Value} (h : Rd w lo v sz n cs) (hl : lo' ≤ lo) : Rd w lo' v sz n cs := by
  obtain ⟨h1, ao, cap, h2, h3, h4, h5, h6⟩ := h
  refine ⟨h1, ao, cap, h2, h3, h4, h5, fun hn => ?_⟩
  obtain ⟨b, off, e, hb, hc⟩ := h6 hn
  exact ⟨b, off, e, by omega, hc⟩

theorem Rd.nil (w : World) (lo sz : Nat) : Rd w lo (.slice none 0 0) sz 0 [] :=
  ⟨by simp, none, 0, rfl, Nat.le_refl _, Nat.zero_le _, fun _ => rfl, fun h => absurd h (by omega)⟩

theorem Rd.empty (w : World) (lo sz : Nat) (ao : Option Addr) : Rd w lo (.slice ao 0 0) sz 0 [] :=
  ⟨by simp, ao, 0, rfl, Nat.le_refl _, Nat.zero_le _, fun _ => rfl, fun h => absurd h (by omega)⟩

/-- A reading is kept where no block that existed has turned, save one below lo. -/
theorem Rd.grown {w w' : World} {lo : Nat} {v : Value} {sz n : Nat} {cs : List Value} {row : Option Nat} (h : Rd w lo v sz n cs) (hg : w.grownBy w' row)
    (hr : ∀ k, row = some k → k < lo ∨ v.ownBlock ≠ some k) (hsz : 0 < sz) : Rd w' lo v sz n cs := by
  obtain ⟨h1, ao, cap, rfl, h3, h4, h5, h6⟩ := h
  refine ⟨h1, ao, cap, rfl, h3, h4, h5, fun hn => ?_⟩
  obtain ⟨b, off, rfl, hb, hc⟩ := h6 hn
  refine ⟨b, off, rfl, hb, fun i hi => ?_⟩
  have h0 : 0 < cs.length := by rw [h1]; exact Nat.mul_pos hn hsz
  have hlt : b < w.heap.size := World.block_lt_of_cell? (w := w) (a := ⟨b, off + i, none⟩) (hc i hi)
  rw [← hc i hi]
  refine World.cell?_of_block (hg.block b hlt fun e => ?_)
  rcases hr b e.symm with h | h
  · omega
  · exact h rfl

theorem Rd.below {w w' : World} {lo B : Nat} {v : Value} {sz n : Nat} {cs : List Value} (h : Rd w lo v sz n cs) (hb : Below B w w') (hB : w.heap.size ≤ B) (hsz : 0 < sz) : Rd w' lo v sz n cs :=
  h.grown (row := none) ⟨hb.os, hb.tape, hb.output, hb.size, fun k hk _ => hb.block k (by omega)⟩ (fun _ e => by cases e) hsz

/-- A value that the call owns, or an empty one without room. -/
def Own (w : World) (lo : Nat) (e : TypeId) (sz : Nat) (v : Value) (n : Nat) (cs : List Value) : Prop :=
  w.ownsRow lo e sz v n cs ∨ (n = 0 ∧ cs = [] ∧ ∃ ao, v = .slice ao 0 0)

/-- The block that a write through v may hit. -/
def wblk : Value → Option Nat
  | .slice (some a) _ cap => if cap = 0 then none else some a.block
  | _ => none

theorem Own.nil (w : World) (lo : Nat) (e : TypeId) (sz : Nat) : Own w lo e sz (.slice none 0 0) 0 [] := .inl (World.ownsRow_nil w lo e sz)
theorem Own.len {w : World} {lo : Nat} {e : TypeId} {sz : Nat} {v : Value} {n : Nat} {cs : List Value} (h : Own w lo e sz v n cs) : cs.length = n * sz := by
  rcases h with h | ⟨rfl, rfl, _⟩
  · exact h.1
  · simp

theorem Own.wblk {w : World} {lo : Nat} {e : TypeId} {sz : Nat} {v : Value} {n : Nat} {cs : List Value} (h : Own w lo e sz v n cs) {k : Nat} (hk : wblk v = some k) : lo ≤ k ∧ k < w.heap.size := by
  rcases h with h | ⟨rfl, rfl, ao, rfl⟩
  · refine h.lt k ?_
    rcases h.2 with ⟨rfl, _⟩ | ⟨g, cap, cur, rfl, _⟩
    · simp [YtpaioaknppgggaaGreatDoor.wblk] at hk
    · simp only [YtpaioaknppgggaaGreatDoor.wblk] at hk
      split at hk
      · cases hk
      · exact hk
  · cases ao <;> simp [YtpaioaknppgggaaGreatDoor.wblk] at hk

theorem Own.rd {w : World} {lo : Nat} {e : TypeId} {sz : Nat} {v : Value} {n : Nat} {cs : List Value} (h : Own w lo e sz v n cs) : Rd w lo v sz n cs := by
  rcases h with h | ⟨rfl, rfl, ao, rfl⟩
  · have hcells := fun g => h.cells (g := g)
    rcases h.2 with ⟨rfl, rfl⟩ | ⟨g, cap, cur, rfl, hb, hg, hn, hm, _⟩
    · have : cs = [] := List.eq_nil_of_length_eq_zero (by simpa using h.1)
      subst this
      exact Rd.nil _ _ _
    · refine ⟨h.1, _, cap, rfl, hn, hm, fun e => (by cases e), fun _ => ⟨g, 0, rfl, hb, fun i hi => ?_⟩⟩
      have := hcells g rfl i cs[i] (by simp [hi])
      have hadd : (⟨g, 0, none⟩ : Addr).add i = ⟨g, 0 + i, none⟩ := by unfold Addr.add; split <;> simp_all
      rwa [hadd] at this
  · exact Rd.empty _ _ _ _

theorem Own.grown {w w' : World} {lo : Nat} {e : TypeId} {sz : Nat} {v : Value} {n : Nat} {cs : List Value} {row : Option Nat} (h : Own w lo e sz v n cs) (hg : w.grownBy w' row)
    (hr : ∀ k, row = some k → k < lo ∨ v.ownBlock ≠ some k) : Own w' lo e sz v n cs := by
  rcases h with h | ⟨rfl, rfl, ao, rfl⟩
  · left
    refine h.kept hg ?_
    cases hv : v.ownBlock with
    | none => exact .inl rfl
    | some b =>
      right
      intro e
      have hl := h.lt b hv
      rcases hr b e.symm with h' | h'
      · omega
      · exact h' hv
  · exact .inr ⟨rfl, rfl, ao, rfl⟩

theorem Own.mono {w : World} {lo lo' : Nat} {e : TypeId} {sz : Nat} {v : Value} {n : Nat} {cs : List Value} (h : Own w lo e sz v n cs) (hl : lo' ≤ lo) : Own w lo' e sz v n cs := by
  rcases h with ⟨h1, h | ⟨g, cap, cur, h2, h3, h4⟩⟩ | h
  · exact .inl ⟨h1, .inl h⟩
  · exact .inl ⟨h1, .inr ⟨g, cap, cur, h2, by omega, h4⟩⟩
  · exact .inr h

theorem Own.alloc {w : World} {lo : Nat} {e : TypeId} {sz : Nat} {v : Value} {n : Nat} {cs : List Value} (h : Own w lo e sz v n cs) (o : Obj) : Own (w.alloc o) lo e sz v n cs :=
  h.grown (World.grownBy_alloc w o none) (fun _ e => by cases e)

theorem Own.below {w w' : World} {lo B : Nat} {e : TypeId} {sz : Nat} {v : Value} {n : Nat} {cs : List Value} (h : Own w lo e sz v n cs) (hb : Below B w w') (hB : w.heap.size ≤ B) : Own w' lo e sz v n cs :=
  h.grown (row := none) ⟨hb.os, hb.tape, hb.output, hb.size, fun k hk _ => hb.block k (by omega)⟩ (fun _ e => by cases e)

theorem below_drewN {B : Nat} {a w : World} (h : Below B a w) (n : Nat) : Below B a (w.drewN n) := ⟨h.os, h.tape, h.output, h.size, h.block⟩

theorem grownBy_refl (w : World) (row : Option Nat) : w.grownBy w row := ⟨rfl, rfl, rfl, Nat.le_refl _, fun _ _ _ => rfl⟩
theorem grownBy_trans {a b c : World} {row row' : Option Nat} (h : a.grownBy b row) (k : b.grownBy c row') (hr : ∀ x, row' = some x → row = some x ∨ a.heap.size ≤ x) : a.grownBy c row :=
  ⟨k.os.trans h.os, k.tape.trans h.tape, k.output.trans h.output, Nat.le_trans h.size k.size, fun i hi hne =>
    (k.block i (Nat.lt_of_lt_of_le hi h.size) (fun e => by
      rcases hr i e.symm with h' | h'
      · exact hne h'.symm
      · omega)).trans (h.block i hi hne)⟩
theorem grownBy_of_below {B : Nat} {w w' : World} (h : Below B w w') (hB : w.heap.size ≤ B) (row : Option Nat) : w.grownBy w' row :=
  ⟨h.os, h.tape, h.output, h.size, fun k hk _ => h.block k (by omega)⟩
theorem below_of_grownBy {w w' : World} {row : Option Nat} (h : w.grownBy w' row) {B : Nat} (hB : B ≤ w.heap.size) (hr : ∀ k, row = some k → B ≤ k) : Below B w w' :=
  (Below.refl B w).grown h hB hr

section
variable {P : Program} (w : World)

theorem run_append_Own (lo : Nat) (t ty e : TypeId) (i : TypeInfo) (z : Value) (sz bytes : Nat) (ht : P.underlying t = some (.slice e)) (hi : P.info? e = some i) (hz : i.zero = some z)
    (hsize : i.size = sz) (hby : i.bytes = bytes) (hzs : z.cells.size = sz) (hsz : 0 < sz)
    (v : Value) (n : Nat) (cs : List Value) (hown : Own w lo e sz v n cs)
    (x : Value) (lo' m : Nat) (news : List Value) (hx : Rd w lo' x sz m news) (h1 : ∀ u ∈ news, u.oneCell' = true)
    (h63 : n + m ≤ maxLen) (hbytes : (n + m) * bytes ≤ 140737488355328) (hbase : lo ≤ w.heap.size) :
    ∃ v' w', (Builtin.append_ #[t, t] ty #[v, x]).run P w = .ok v' w' ∧ Own w' lo e sz v' (n + m) (cs ++ news) ∧ w.grownBy w' (wblk v) ∧
      (∀ k, wblk v' = some k → wblk v = some k ∨ w.heap.size ≤ k) := by
  subst hsize hby
  have hsmall : n + m ≤ 9223372036854775807 := by simp only [maxLen] at h63; omega
  obtain ⟨hl, ax, cx, rfl, hcx, hmx, hnx, hcells⟩ := hx
  by_cases hm0 : m = 0
  · subst hm0
    have : news = [] := List.eq_nil_of_length_eq_zero (by simpa using hl)
    subst this
    have hlen := hown.len
    have hrun : ∀ ao n cap, n ≤ cap → (Builtin.append_ #[t, t] ty #[.slice ao n cap, .slice ax 0 cx]).run P w = .ok (.slice ao n cap) w := by
      intro ao n cap hle
      cases ao <;> cases ax <;> simp [Builtin.append_, run_underlying ht, sizeOf, typeInfo, hi, Builtin.lenOf, hle, Builtin.firstCells, loadCells, loadCellsFrom, storeCells]
    obtain ⟨ao, cap, rfl, hle⟩ : ∃ ao cap, v = .slice ao n cap ∧ n ≤ cap := by
      obtain ⟨_, ao, cap, rfl, hle, _⟩ := hown.rd
      exact ⟨ao, cap, rfl, hle⟩
    exact ⟨_, w, hrun ao n cap hle, by simpa using hown, grownBy_refl w _, fun k hk => .inl hk⟩
  · obtain ⟨b, off, rfl, hb, hc⟩ := hcells (by omega)
    have hnews : ∀ j u, news[j]? = some u → w.cell? ((⟨b, off, none⟩ : Addr).add j) = some u := by
      intro j u hu
      have hj : j < news.length := by
        rcases Nat.lt_or_ge j news.length with h | h
        · exact h
        · rw [List.getElem?_eq_none h] at hu; cases hu
      have hadd : (⟨b, off, none⟩ : Addr).add j = ⟨b, off + j, none⟩ := by unfold Addr.add; split <;> simp_all
      rw [hadd, hc j hj]
      simpa [hj] using hu
    have up : ∀ {v' : Value} {w' : World} {cs' : List Value}, w'.ownsRow w.heap.size e i.size v' (n + m) cs' → w.grownBy w' none →
        Own w' lo e i.size v' (n + m) cs' ∧ w.grownBy w' (wblk v) ∧ (∀ k, wblk v' = some k → wblk v = some k ∨ w.heap.size ≤ k) := by
      intro v' w' cs' ho hg
      have ho' : Own w' w.heap.size e i.size v' (n + m) cs' := .inl ho
      exact ⟨ho'.mono hbase, ⟨hg.os, hg.tape, hg.output, hg.size, fun k hk _ => hg.block k hk (fun e => by cases e)⟩, fun k hk => .inr (ho'.wblk hk).1⟩
    rcases hown with hown | ⟨rfl, rfl, ao, rfl⟩
    · have hcl := fun g => hown.cells (g := g)
      rcases hown.2 with ⟨rfl, rfl⟩ | ⟨g, cap, cur, rfl, hbg, hg, hnc, hcm, hcs, htake⟩
      · have hcs : cs = [] := List.eq_nil_of_length_eq_zero (by simpa using hown.1)
        subst hcs
        obtain ⟨v', w', hr, ho, hg', _⟩ := run_append_own (P := P) w w.heap.size t ty e i z i.size i.bytes ht hi hz rfl rfl hzs hsz (.slice none 0 0) 0 [] (World.ownsRow_nil _ _ _ _) ⟨b, off, none⟩ m cx news hl hnews h1 h63 hbytes (Nat.le_refl _)
        exact ⟨v', w', hr, up ho (by simpa [Value.ownBlock] using hg')⟩
      · by_cases hroom : n + m ≤ cap
        · have hcap : cap ≠ 0 := by omega
          have hfit : n * i.size + news.length ≤ cur.size := by rw [hl, hcs, ← Nat.add_mul]; exact Nat.mul_le_mul_right _ hroom
          have hr := run_append_room (P := P) w t ty e i ht hi g n cap cur hg ⟨b, off, none⟩ m cx news hl hnews h1 hroom hfit
          have hlen : (cs ++ news).length = (n + m) * i.size := by rw [List.length_append, hown.1, hl, Nat.add_mul]
          refine ⟨_, _, hr, .inl ⟨hlen, .inr ⟨g, cap, _, rfl, hbg, setRow_heap w g cur _ e _ hg, hroom, hcm, ?_, ?_⟩⟩, ⟨rfl, rfl, rfl, by simp, fun k _ hk => setRow_other w g k _ (fun e => hk (by simp [wblk, hcap, e]))⟩, ?_⟩
          · simp only [List.size_toArray, List.length_append, List.length_take, List.length_drop, Array.length_toList]
            omega
          · rw [htake, ← hlen]
            exact List.take_left
          · intro k hk
            left
            simpa [wblk] using hk
        · obtain ⟨v', w', hr, ho, hg'⟩ := run_append_arg_grows (P := P) w t ty e i z i.size i.bytes ht hi hz rfl rfl hzs hsz ⟨g, 0, none⟩ n cap cs hown.1 (hcl g rfl) ⟨b, off, none⟩ m cx news hl hnews (by omega) h63 hbytes
          exact ⟨v', w', hr, up ho hg'⟩
    · cases ao with
      | none =>
        obtain ⟨v', w', hr, ho, hg', _⟩ := run_append_own (P := P) w w.heap.size t ty e i z i.size i.bytes ht hi hz rfl rfl hzs hsz (.slice none 0 0) 0 [] (World.ownsRow_nil _ _ _ _) ⟨b, off, none⟩ m cx news hl hnews h1 h63 hbytes (Nat.le_refl _)
        exact ⟨v', w', hr, up ho (by simpa [Value.ownBlock] using hg')⟩
      | some a =>
        obtain ⟨v', w', hr, ho, hg'⟩ := run_append_arg_grows (P := P) w t ty e i z i.size i.bytes ht hi hz rfl rfl hzs hsz a 0 0 [] (by simp) (fun j u hu => by simp at hu) ⟨b, off, none⟩ m cx news hl hnews (by omega) h63 hbytes
        exact ⟨v', w', hr, up ho hg'⟩

theorem wpList_append_Own {ops : Array Oper} {rest : List Oper} {o : Oper} {a : Act} {Q : Exit → Act → World → Prop} (hgd : o.guard = none) (s x : Operand) (t : TypeId)
    (ho : o.op = .call { callee := .builtin .append, args := #[s, x], argTypes := #[t, t] })
    (e : TypeId) (z : Value) (sz bytes : Nat) (ht : P.underlying t = some (.slice e)) (hi : (P.info? e).map (fun i => (i.zero, i.size, i.bytes)) = some (some z, sz, bytes))
    (hzs : z.cells.size = sz) (hsz : 0 < sz)
    (lo : Nat) (v : Value) (n : Nat) (cs : List Value) (hs : a.eval s = v) (hown : Own w lo e sz v n cs)
    (xv : Value) (lo' m : Nat) (news : List Value) (hxe : a.eval x = xv) (hx : Rd w lo' xv sz m news) (h1 : ∀ u ∈ news, u.oneCell' = true)
    (h63 : n + m ≤ maxLen) (hbytes : (n + m) * bytes ≤ 140737488355328) (hbase : lo ≤ w.heap.size)
    (h : ∀ v' w', Own w' lo e sz v' (n + m) (cs ++ news) → w.grownBy w' (wblk v) → (∀ k, wblk v' = some k → wblk v = some k ∨ w.heap.size ≤ k) → wpList P ops Q rest (a.put o.dst v') w') : wpList P ops Q (o :: rest) a w := by
  refine wpList_plain hgd fun K hK => ?_
  obtain ⟨i, hi1, hz, hsize, hby⟩ := info_parts hi
  obtain ⟨v', w', hr, h2, h3, h4⟩ := run_append_Own (P := P) w lo t o.type e i z sz bytes ht hi1 hz hsize hby hzs hsz v n cs hown xv lo' m news hx h1 h63 hbytes hbase
  unfold Oper.wp execOp
  simp only [ho, resolve, invoke, builtin, Sem.run_bind, Sem.run_pure, Result.andThen_ok, List.map_toArray, List.map_cons, List.map_nil, hs, hxe, hr]
  exact hK _ _ (h v' w' h2 h3 h4)
end

/-- A slice written out in the program's text: a new block, read at its whole length. -/
theorem Rd.made (w : World) (cs : List Value) (t : TypeId) (lo sz n : Nat) (hl : cs.length = n * sz) (hlo : lo ≤ w.heap.size) (hm : n ≤ maxLen) :
    Rd (w.alloc (.cells cs.toArray t)) lo (.slice (some ⟨w.heap.size, 0, none⟩) n n) sz n cs :=
  ⟨hl, _, n, rfl, Nat.le_refl _, hm, fun e => (by cases e), fun _ => ⟨w.heap.size, 0, rfl, hlo, fun i hi => by
    rw [cell_of_row _ w.heap.size (0 + i) cs.toArray t (0, 0) (heap_alloc_new w _)]; simp [hi]⟩⟩

theorem Own.made (w : World) (cs : List Value) (t : TypeId) (lo sz n : Nat) (hl : cs.length = n * sz) (hlo : lo ≤ w.heap.size) (hm : n ≤ maxLen) :
    Own (w.alloc (.cells cs.toArray t)) lo t sz (.slice (some ⟨w.heap.size, 0, none⟩) n n) n cs :=
  .inl ⟨hl, .inr ⟨w.heap.size, n, cs.toArray, rfl, hlo, heap_alloc_new w _, Nat.le_refl _, hm, by simp [hl], by simp [← hl]⟩⟩

/-- An element's cell, where elements are one cell. -/
theorem Rd.cell {w : World} {lo : Nat} {n : Nat} {cs : List Value} {ao : Option Addr} {len cap : Nat} (h : Rd w lo (.slice ao len cap) 1 n cs) :
    len = n ∧ cs.length = n ∧ n ≤ cap ∧ cap ≤ 9223372036854775807 ∧ (0 < n → ∃ b off, ao = some ⟨b, off, none⟩ ∧ lo ≤ b ∧ b < w.heap.size ∧ ∀ i (h : i < cs.length), w.cell? ⟨b, off + i, none⟩ = some cs[i]) := by
  obtain ⟨h1, ao', cap', h2, h3, h4, h5, h6⟩ := h
  cases h2
  unfold maxLen at h4
  refine ⟨rfl, by omega, h3, by omega, fun hn => ?_⟩
  obtain ⟨b, off, e, hb, hc⟩ := h6 hn
  exact ⟨b, off, e, hb, World.block_lt_of_cell? w ⟨b, off + 0, none⟩ (hc 0 (by omega)), hc⟩

theorem Rd.form {w : World} {lo : Nat} {v : Value} {sz n : Nat} {cs : List Value} (h : Rd w lo v sz n cs) : ∃ ao cap, v = .slice ao n cap ∧ n ≤ cap ∧ cap ≤ 9223372036854775807 := by
  obtain ⟨h1, ao', cap', h2, h3, h4, h5, h6⟩ := h
  unfold maxLen at h4
  exact ⟨ao', cap', h2, h3, by omega⟩

/-- append of one value, which lies in the block made just before. -/
theorem wpList_append_one {P : Program} (w : World) {ops : Array Oper} {rest : List Oper} {o : Oper} {a : Act} {Q : Exit → Act → World → Prop} (hgd : o.guard = none) (s x : Operand) (t : TypeId)
    (ho : o.op = .call { callee := .builtin .append, args := #[s, x], argTypes := #[t, t] })
    (e : TypeId) (z : Value) (bytes : Nat) (ht : P.underlying t = some (.slice e)) (hi : (P.info? e).map (fun i => (i.zero, i.size, i.bytes)) = some (some z, 1, bytes))
    (hzs : z.cells.size = 1)
    (lo : Nat) (v : Value) (n : Nat) (cs : List Value) (hs : a.eval s = v) (hown : Own w lo e 1 v n cs)
    (u : Value) (t' : TypeId) (hxe : a.eval x = .slice (some ⟨w.heap.size, 0, none⟩) 1 1) (h1 : u.oneCell' = true)
    (h63 : n + 1 ≤ 9223372036854775807) (hbytes : (n + 1) * bytes ≤ 140737488355328) (hbase : lo ≤ w.heap.size)
    (h : ∀ v' w', Own w' lo e 1 v' (n + 1) (cs ++ [u]) → w.grownBy w' (wblk v) → (∀ k, wblk v' = some k → wblk v = some k ∨ w.heap.size ≤ k) → wpList P ops Q rest (a.put o.dst v') w') :
    wpList P ops Q (o :: rest) a (w.alloc (.cells #[u] t')) := by
  refine wpList_append_Own _ hgd s x t ho e z 1 bytes ht hi hzs (by omega) lo v n cs hs (hown.alloc _) _ 0 1 [u] hxe (Rd.made w [u] t' 0 1 1 rfl (Nat.zero_le _) (by decide)) (by simpa using h1) (by unfold maxLen; omega) hbytes (by simp; omega) ?_
  intro v' w' ho' hg hk
  have hga := World.grownBy_alloc w (.cells #[u] t') none
  refine h v' w' ho' ?_ ?_
  · exact grownBy_trans (row := wblk v) ⟨hga.os, hga.tape, hga.output, hga.size, fun k hk _ => hga.block k hk (fun e => by cases e)⟩ hg (fun x hx => .inl hx)
  · intro k hk'
    rcases hk k hk' with h | h
    · exact .inl h
    · right; simp at h; omega

/-- What the walk needs of an owned slice that is not empty: its cells, that they may be written, and what a store leaves. -/
theorem Own.parts {w : World} {lo : Nat} {e : TypeId} {sz n : Nat} {cs : List Value} {ao : Option Addr} {len cap : Nat} (h : Own w lo e sz (.slice ao len cap) n cs) (hn : 0 < n) :
    ∃ g, ao = some ⟨g, 0, none⟩ ∧ lo ≤ g ∧ g < w.heap.size ∧ (∀ i (h : i < cs.length), w.cell? ⟨g, i, none⟩ = some cs[i]) ∧ (∀ i, w.frozen? ⟨g, i, none⟩ = false) ∧
      ∀ i u, Own (w.setCell ⟨g, i, none⟩ u) lo e sz (.slice ao len cap) n (cs.set i u) ∧ w.grownBy (w.setCell ⟨g, i, none⟩ u) (some g) := by
  rcases h with h | ⟨h0, _⟩
  · have hl := h.1
    obtain ⟨g, cap', cur, hv, hb, hg, hnc, hcm, hcs, htake⟩ : ∃ g cap' cur, Value.slice ao len cap = .slice (some ⟨g, 0, none⟩) n cap' ∧ lo ≤ g ∧ w.heap[g]? = some (.cells cur e (0, 0)) ∧ n ≤ cap' ∧ cap' ≤ maxLen ∧ cur.size = cap' * sz ∧ cur.toList.take (n * sz) = cs := by
      rcases h.2 with ⟨_, h0⟩ | h
      · omega
      · exact h
    cases hv
    refine ⟨g, rfl, hb, (Array.getElem?_eq_some_iff.1 hg).1, fun i hi => ?_, fun i => h.frozenAt i, fun i u => ⟨.inl (h.stored i u).1, (h.stored i u).2⟩⟩
    rw [h.cellAt i (by omega)]
    simp [hi]
  · omega

theorem Own.form {w : World} {lo : Nat} {e : TypeId} {sz n : Nat} {v : Value} {cs : List Value} (h : Own w lo e sz v n cs) : ∃ ao cap, v = .slice ao n cap ∧ n ≤ cap ∧ cap ≤ 9223372036854775807 := h.rd.form

theorem list_eq_of {α : Type} {cs ds : List α} {n : Nat} (h1 : cs.length = n) (h2 : ds.length = n) (h : ∀ i, i < n → cs[i]? = ds[i]?) : cs = ds := by
  apply List.ext_getElem? 
  intro i
  by_cases hi : i < n
  · exact h i hi
  · rw [List.getElem?_eq_none (by omega), List.getElem?_eq_none (by omega)]

theorem Rd.cellMap {α : Type} {f : α → Value} (d : α) {w : World} {lo : Nat} {xs : List α} {ao : Option Addr} {len cap : Nat} (h : Rd w lo (.slice ao len cap) 1 xs.length (xs.map f)) :
    len = xs.length ∧ xs.length ≤ cap ∧ cap ≤ 9223372036854775807 ∧ (0 < xs.length → ∃ b off, ao = some ⟨b, off, none⟩ ∧ lo ≤ b ∧ b < w.heap.size ∧ ∀ i, i < xs.length → w.cell? ⟨b, off + i, none⟩ = some (f (xs.getD i d))) := by
  obtain ⟨h1, h2, h3, h4, h5⟩ := h.cell
  refine ⟨h1, h3, h4, fun hn => ?_⟩
  obtain ⟨b, off, e, hb, hb2, hc⟩ := h5 hn
  refine ⟨b, off, e, hb, hb2, fun i hi => ?_⟩
  rw [hc i (by simpa using hi)]
  simp [hi]

theorem ret_int {k : IntKind} {a b : Int} (h : a = b) : Ending.returned (.int k a) = .returned (.int k b) := by rw [h]
theorem ret_bool {a b : Bool} (h : a = b) : Ending.returned (.bool a) = .returned (.bool b) := by rw [h]

/-- Where an element is known to be: the address, and each element's cell. -/
theorem Rd.spot {α : Type} {f : α → Value} (d : α) {w : World} {lo : Nat} {xs : List α} {ao : Option Addr} {len cap : Nat} (h : Rd w lo (.slice ao len cap) 1 xs.length (xs.map f)) (hn : 0 < xs.length) :
    ∃ b off, ao = some ⟨b, off, none⟩ ∧ lo ≤ b ∧ b < w.heap.size ∧ ∀ i, i < xs.length → w.cell? ⟨b, off + i, none⟩ = some (f (xs.getD i d)) := (h.cellMap d).2.2.2 hn

theorem Own.bools {w : World} {lo e : Nat} {v : Value} {n : Nat} {xs : List Bool} (h : Own w lo e 1 v n (xs.map .bool)) (hn : xs.length = n) : Bools w 0 v xs := by
  unfold Bools; rw [hn]; exact h.rd.mono (Nat.zero_le _)
theorem Own.ints {w : World} {lo e : Nat} {v : Value} {n : Nat} {xs : List Int} (h : Own w lo e 1 v n (xs.map (.int .i64))) (hn : xs.length = n) : Ints w 0 v xs := by
  unfold Ints; rw [hn]; exact h.rd.mono (Nat.zero_le _)

/-- What lies behind the first k elements: a slice expression's value. -/
theorem Rd.drop {w : World} {lo b off n cap k : Nat} {cs : List Value} (h : Rd w lo (.slice (some ⟨b, off, none⟩) n cap) 1 n cs) (hk : k ≤ n) {a : Option Addr} (ha : k < n → a = some ⟨b, off + k, none⟩) (hn : a ≠ none) :
    Rd w lo (.slice a (n - k) (cap - k)) 1 (n - k) (cs.drop k) := by
  obtain ⟨h1, ao', cap', h2, h3, h4, h5, h6⟩ := h
  cases h2
  refine ⟨by simp; omega, a, cap - k, rfl, by omega, by omega, fun e => absurd e hn, fun h0 => ?_⟩
  obtain ⟨b', off', e, hb, hc⟩ := h6 (by omega)
  cases e
  refine ⟨b, off + k, ha (by omega), hb, fun i hi => ?_⟩
  have := hc (k + i) (by simp at hi; omega)
  rw [Nat.add_assoc, this]
  simp

/-- The first k elements. -/
theorem Rd.take {w : World} {lo : Nat} {ao : Option Addr} {n cap k : Nat} {cs : List Value} (h : Rd w lo (.slice ao n cap) 1 n cs) (hk : k ≤ n) : Rd w lo (.slice ao k cap) 1 k (cs.take k) := by
  obtain ⟨h1, ao', cap', h2, h3, h4, h5, h6⟩ := h
  cases h2
  refine ⟨by simp; omega, ao, cap, rfl, by omega, h4, h5, fun h0 => ?_⟩
  obtain ⟨b', off', e, hb, hc⟩ := h6 (by omega)
  refine ⟨b', off', e, hb, fun i hi => ?_⟩
  rw [hc i (by simp at hi; omega)]
  simp

def b2i (b : Bool) : Int := if b then 1 else 0
theorem b2i_bd (b : Bool) : 0 ≤ b2i b ∧ b2i b ≤ 1 := by cases b <;> simp [b2i]

/-- Blocks outside S that existed are as they were. -/
structure Chg (S : Nat → Prop) (w w' : World) : Prop where
  os : w'.os = w.os
  tape : w'.tape = w.tape
  output : w'.output = w.output
  size : w.heap.size ≤ w'.heap.size
  block : ∀ k, k < w.heap.size → ¬ S k → w'.heap[k]? = w.heap[k]?

theorem Chg.refl (S : Nat → Prop) (w : World) : Chg S w w := ⟨rfl, rfl, rfl, Nat.le_refl _, fun _ _ _ => rfl⟩
theorem Chg.trans {S : Nat → Prop} {a b c : World} (h : Chg S a b) (k : Chg S b c) : Chg S a c :=
  ⟨k.os.trans h.os, k.tape.trans h.tape, k.output.trans h.output, Nat.le_trans h.size k.size, fun i hi hn => (k.block i (Nat.lt_of_lt_of_le hi h.size) hn).trans (h.block i hi hn)⟩
theorem Chg.mono {S S' : Nat → Prop} {w w' : World} (h : Chg S w w') (hs : ∀ k, k < w.heap.size → S k → S' k) : Chg S' w w' :=
  ⟨h.os, h.tape, h.output, h.size, fun k hk hn => h.block k hk (fun e => hn (hs k hk e))⟩
theorem Chg.setCell {S : Nat → Prop} {a w : World} (h : Chg S a w) (p : Addr) (hp : S p.block) (u : Value) : Chg S a (w.setCell p u) :=
  h.trans ⟨rfl, rfl, rfl, by simp [World.setCell], fun k _ hn => Below.heap_setCell _ _ _ _ (fun e => hn (e ▸ hp))⟩
theorem chg_of_grownBy {w w' : World} {row : Option Nat} (h : w.grownBy w' row) {S : Nat → Prop} (hr : ∀ k, row = some k → S k ∨ w.heap.size ≤ k) : Chg S w w' :=
  ⟨h.os, h.tape, h.output, h.size, fun k hk hn => h.block k hk (fun e => by rcases hr k e.symm with h' | h'; exact hn h'; omega)⟩
theorem below_of_chg {S : Nat → Prop} {B : Nat} {w w' : World} (h : Chg S w w') (hB : B ≤ w.heap.size) (hs : ∀ k, S k → B ≤ k) : Below B w w' :=
  ⟨h.os, h.tape, h.output, h.size, fun k hk => h.block k (by omega) (fun e => by have := hs k e; omega)⟩

theorem Own.chg {w w' : World} {lo : Nat} {e : TypeId} {sz : Nat} {v : Value} {n : Nat} {cs : List Value} {S : Nat → Prop} (h : Own w lo e sz v n cs) (hc : Chg S w w')
    (hs : ∀ k, S k → k < lo ∨ v.ownBlock ≠ some k) : Own w' lo e sz v n cs := by
  by_cases hv : ∃ b, v.ownBlock = some b ∧ ¬ S b
  · obtain ⟨b, hb, hn⟩ := hv
    rcases h with h | ⟨rfl, rfl, ao, rfl⟩
    · have hl := h.lt b hb
      rcases h.2 with ⟨rfl, _⟩ | ⟨g, cap, cur, rfl, h1, h2, h3⟩
      · simp [Value.ownBlock] at hb
      · have e : g = b := by simpa [Value.ownBlock] using hb
        subst e
        exact .inl ⟨h.1, .inr ⟨g, cap, cur, rfl, h1, by rw [hc.block g hl.2 hn]; exact h2, h3⟩⟩
    · exact .inr ⟨rfl, rfl, ao, rfl⟩
  · rcases h with h | ⟨rfl, rfl, ao, rfl⟩
    · rcases h.2 with ⟨rfl, h0⟩ | ⟨g, cap, cur, rfl, h1, h2, h3⟩
      · exact .inl ⟨h.1, .inl ⟨rfl, h0⟩⟩
      · exfalso
        have hg : (Value.slice (some ⟨g, 0, none⟩) n cap).ownBlock = some g := rfl
        by_cases hS : S g
        · rcases hs g hS with h' | h'
          · omega
          · exact h' hg
        · exact hv ⟨g, hg, hS⟩
    · exact .inr ⟨rfl, rfl, ao, rfl⟩

theorem Rd.drewN {w : World} {lo : Nat} {v : Value} {sz n : Nat} {cs : List Value} (h : Rd w lo v sz n cs) (m : Nat) : Rd (w.drewN m) lo v sz n cs := h

/-- For calls inside a region that draws its order. -/
theorem quiet_eq {P : Program} {f : FuncId} {args : Array Value} {w : World} {n : Nat} {v : Value} (h : Calls P f args (w.drewN n) fun e w' => e = .returned v ∧ w.drewN n = w') :
    Calls P f args (w.drewN n) fun e w'' => e = .returned v ∧ ∃ m, w'' = w.drewN m := h.mono fun _ _ hh => ⟨hh.1, n, hh.2.symm⟩

end Go.Proofs.YtpaioaknppgggaaGreatDoor
