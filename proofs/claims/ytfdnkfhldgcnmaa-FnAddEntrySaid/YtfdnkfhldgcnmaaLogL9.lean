/- FnAddEntry: the walk. -/
import Derived.Test.YtfdnkfhldgcnmaaLogE
import Derived.Test.YtfdnkfhldgcnmaaLog9
import Derived.Test.YtfdnkfhldgcnmaaLog3
import Derived.ProofKit
import Derived.Deep.RegionHeld3
namespace Go.Proofs.Ytfdnkfhldgcnmaa
open Go.RowKit
set_option linter.unusedVariables false
set_option linter.unusedSimpArgs false

section
variable {P : Program} {w : World}
theorem step_append_OwnG {ops : Array Oper} {o : Oper} {a : Act} {K : Act → World → Prop} {Q : Exit → Act → World → Prop} {E : Prop} (hw : Region.wanted o (yielded ops a.tmps) = true) (s x : Operand) (t : TypeId)
    (ho : o.op = .call { callee := .builtin .append, args := #[s, x], argTypes := #[t, t] })
    (e : TypeId) (z : Value) (sz bytes : Nat) (ht : P.underlying t = some (.slice e)) (hi : (P.info? e).map (fun i => (i.zero, i.size, i.bytes)) = some (some z, sz, bytes))
    (hzs : z.cells.size = sz) (hsz : 0 < sz)
    (lo : Nat) (v : Value) (n : Nat) (cs : List Value) (hs : a.eval s = v) (hown : Own w lo e sz v n cs)
    (xv : Value) (lo' m : Nat) (news : List Value) (hxe : a.eval x = xv) (hx : Rd w lo' xv sz m news) (h1 : ∀ u ∈ news, u.oneCell' = true)
    (h63 : n + m ≤ maxLen) (hbytes : (n + m) * bytes ≤ 140737488355328) (hbase : lo ≤ w.heap.size)
    (h : ∀ v' w', Own w' lo e sz v' (n + m) (cs ++ news) → w.grownBy w' (wblk v) → (∀ k, wblk v' = some k → wblk v = some k ∨ w.heap.size ≤ k) → K (a.put o.dst v') w') :
    if Region.wanted o (yielded ops a.tmps) = true then Oper.wp P o a w K Q else E := by
  rw [if_pos hw]
  obtain ⟨i, hi1, hz, hsize, hby⟩ := info_parts hi
  obtain ⟨v', w', hr, h2, h3, h4⟩ := run_append_Own (P := P) w lo t o.type e i z sz bytes ht hi1 hz hsize hby hzs hsz v n cs hown xv lo' m news hx h1 h63 hbytes hbase
  unfold Oper.wp execOp
  simp only [ho, resolve, invoke, builtin, Sem.run_bind, Sem.run_pure, Result.andThen_ok, List.map_toArray, List.map_cons, List.map_nil, hs, hxe, hr]
  exact h v' w' h2 h3 h4

end
theorem step_append_fromG {P : Program} {w1 W : World} {b0 : Nat} {ops : Array Oper} {o : Oper} {a : Act} {K : Act → World → Prop} {Q : Exit → Act → World → Prop} {E : Prop} (hw : Region.wanted o (yielded ops a.tmps) = true) (s x : Operand) (t : TypeId)
    (ho : o.op = .call { callee := .builtin .append, args := #[s, x], argTypes := #[t, t] })
    (e : TypeId) (z : Value) (sz bytes : Nat) (ht : P.underlying t = some (.slice e)) (hi : (P.info? e).map (fun i => (i.zero, i.size, i.bytes)) = some (some z, sz, bytes))
    (hzs : z.cells.size = sz) (hsz : 0 < sz) (hs : a.eval s = .slice (some ⟨b0, 0, none⟩) 0 0)
    (xv : Value) (lo' m : Nat) (news : List Value) (hxe : a.eval x = xv) (hx : Rd w1 lo' xv sz m news) (h1 : ∀ u ∈ news, u.oneCell' = true)
    (h63 : m ≤ maxLen) (hbytes : m * bytes ≤ 140737488355328) (hb : Below w1.heap.size w1 W)
    (h : ∀ v' w', Own w' w1.heap.size e sz v' m news → W.grownBy w' none → Below w1.heap.size w1 w' → K (a.put o.dst v') w') :
    if Region.wanted o (yielded ops a.tmps) = true then Oper.wp P o a W K Q else E := by
  refine step_append_OwnG hw s x t ho e z sz bytes ht hi hzs hsz w1.heap.size _ 0 [] hs (.inr ⟨rfl, rfl, _, rfl⟩) xv lo' m news hxe (Rd.below hx hb (Nat.le_refl _) hsz) h1 (by omega) (by simpa using hbytes) hb.size ?_
  intro v' w' hO hg _
  have hg' : W.grownBy w' none := by
    refine grownBy_trans (grownBy_refl _ _) hg (fun k hk => .inl ?_)
    simp [wblk] at hk
  refine h v' w' (by simpa using hO) hg' (hb.trans (below_of_grownBy hg' hb.size (fun k hk => by cases hk)))


theorem bD (w : World) (o o' : Obj) : Below w.heap.size w ((w.alloc o).alloc o') := (((Below.refl _ _).alloc (Nat.le_refl _) _).alloc ((Below.refl w.heap.size w).alloc (Nat.le_refl _) o).size _)
theorem made2n (w1 : World) (o : Obj) (a b : Int) (c : Bool) (t : TypeId) : Rd ((w1.alloc o).alloc (.cells #[.int .i64 a, .int .i64 b, .bool c] t)) (w1.heap.size + 1) (.slice (some ⟨w1.heap.size + 1, 0, none⟩) 1 1) 3 1 [.int .i64 a, .int .i64 b, .bool c] := by
  have h := Rd.made (w1.alloc o) [.int .i64 a, .int .i64 b, .bool c] t (w1.heap.size + 1) 3 1 rfl (by simp) (by decide)
  simp only [World.size_alloc] at h
  exact h
theorem made3n (w1 : World) (o : Obj) (a b : Int) (c : Bool) (t : TypeId) : Rd ((w1.alloc (.cells #[.int .i64 a, .int .i64 b, .bool c] t)).alloc o) 0 (.slice (some ⟨w1.heap.size, 0, none⟩) 1 1) 3 1 [.int .i64 a, .int .i64 b, .bool c] := by
  have h := Rd.made w1 [.int .i64 a, .int .i64 b, .bool c] t 0 3 1 rfl (Nat.zero_le _) (by decide)
  exact Rd.below h ((Below.refl _ _).alloc (Nat.le_refl _) _) (Nat.le_refl _) (by decide)

set_option maxHeartbeats 2000000 in
theorem fnAddEntry_walk (w : World) (v : Value) (bs : List UInt8) (hv : Bytes w 0 v bs) :
    Calls Try.prog 6 #[v] w fun e w' => e = .returned (.bool true) ∧ Below w.heap.size w w' := by
  obtain ⟨ao, cap, rfl, hcap, hm⟩ := hv.form
  by_cases hlen : bs.length ≤ 1048576
  · go_enter Try.func6, Try.ntmps6
    go_wp2_with fail
    go_at_call 24
    refine (drawAddEntry _ _ bs hv).mono ?_; rintro e w1 ⟨v1, es, x, rfl, hr, hl31, hB⟩
    clear hv
    obtain ⟨ao1, cap1, rfl, hcap1, hm1⟩ := hr.form
    have hBx : Below w1.heap.size w1 (w1.alloc (.cells #[.int .i64 x.t, .int .i64 x.u, .bool x.s] 34)) := (Below.refl _ _).alloc (Nat.le_refl _) _
    have hX0 := Own.made w1 [.int .i64 x.t, .int .i64 x.u, .bool x.s] 34 w1.heap.size 3 1 rfl (Nat.le_refl _) (by decide)
    have hr0 : Ents _ 0 _ es := Rd.below hr hBx (Nat.le_refl _) (by decide)
    have hB0 := hB.trans (hBx.mono hB.size)
    clear hr hBx
    obtain ⟨bx, hbx⟩ : ∃ bx, bx = w1.heap.size := ⟨_, rfl⟩
    rw [← hbx] at hX0
    go_wp2_with fail
    obtain ⟨w2, hw2⟩ : ∃ w2, w2 = w1.alloc (.cells #[.int .i64 x.t, .int .i64 x.u, .bool x.s] 34) := ⟨_, rfl⟩
    rw [← hw2] at hX0 hr0 hB0
    have hwb := hB.size
    rw [← hbx] at hwb
    clear hB
    first | (rw [← hw2, ← hbx]; clear hw2 hbx) | skip
    have cells : ∀ W, Own W bx 34 3 (.slice (some ⟨bx, 0, none⟩) 1 1) 1 [.int .i64 x.t, .int .i64 x.u, .bool x.s] → (W.cell? ⟨bx, 0, none⟩ = some (.int .i64 x.t) ∧ W.cell? ⟨bx, 1, none⟩ = some (.int .i64 x.u) ∧ W.cell? ⟨bx, 2, none⟩ = some (.bool x.s)) ∧ bx < W.heap.size := by
      intro W h
      obtain ⟨g, e1, _, g2, hc, _, _⟩ := h.parts (by omega)
      cases e1
      exact ⟨⟨hc 0 (by simp), hc 1 (by simp), hc 2 (by simp)⟩, g2⟩
    have CL := Lib.hid cells
    clear cells
    obtain ⟨⟨c0, c1, c2⟩, _⟩ := CL.out _ hX0
    go_wp2_with fail
    go_at_call 18
    refine (impl_addEntry _ _ _ es x hr0).mono ?_; rintro e w3 ⟨v3, rfl, hO3, hB3⟩
    have hr3 : Ents w3 0 _ es := Rd.below hr0 hB3 (Nat.le_refl _) (by decide)
    have hX3 := hX0.below hB3 (Nat.le_refl _)
    have hT3 := hB0.trans (hB3.mono hB0.size)
    obtain ⟨⟨d0, d1, d2⟩, _⟩ := CL.out _ hX3
    clear hr0 hX0 hB0 hB3 c0 c1 c2
    go_wp2_with fail
    go_at_call 20
    refine (spec_addEntry _ _ _ es x hr3).mono ?_; rintro e w4 ⟨v4, rfl, hO4, hB4⟩
    have hr4 : Ents w4 0 _ es := Rd.below hr3 hB4 (Nat.le_refl _) (by decide)
    have hX4 := hX3.below hB4 (Nat.le_refl _)
    have hO34 := hO3.below hB4 (Nat.le_refl _)
    have hT4 := hT3.trans (hB4.mono hT3.size)
    clear hr3 hX3 hT3 hB4 hO3 d0 d1 d2
    have hE4 : Ents w4 0 v3 (addE es x) := hO34.rd.mono (Nat.zero_le _)
    have hF4 : Ents w4 0 v4 (addE es x) := hO4.rd.mono (Nat.zero_le _)
    go_wp2_with fail
    go_at_call 19
    refine (equalEntries_same _ _ _ (addE es x) hE4 hF4).mono ?_; rintro e w5 ⟨rfl, hB5⟩
    have hr5 : Ents w5 0 _ es := Rd.below hr4 hB5 (Nat.le_refl _) (by decide)
    have hX5 := hX4.below hB5 (Nat.le_refl _)
    have hE5 : Ents w5 0 v3 (addE es x) := Rd.below hE4 hB5 (Nat.le_refl _) (by decide)
    have hF5 : Ents w5 0 v4 (addE es x) := Rd.below hF4 hB5 (Nat.le_refl _) (by decide)
    have hT5 := hT4.trans (hB5.mono hT4.size)
    clear hr4 hX4 hT4 hB5 hE4 hF4 hO34 hO4
    by_cases hva : validL es = true
    · go_wp2_with fail
      go_at_call 15
      refine (impl_validLog _ _ _ es hr5).mono ?_; rintro e w6 ⟨rfl, hB6⟩
      rw [hva]
      have hr6 : Ents w6 0 _ es := Rd.below hr5 hB6 (Nat.le_refl _) (by decide)
      have hX6 := hX5.below hB6 (Nat.le_refl _)
      have hE6 : Ents w6 0 v3 (addE es x) := Rd.below hE5 hB6 (Nat.le_refl _) (by decide)
      have hT6 := hT5.trans (hB6.mono hT5.size)
      clear hr5 hX5 hT5 hB6 hE5 hF5
      have h30 := (validL_iff.1 hva).1
      by_cases hvb : validL (es ++ [x]) = true
      · have hok : addOk es x = true := by unfold addOk; rw [hva, hvb]; rfl
        have hae : addE es x = es ++ [x] := by unfold addE; rw [if_pos hva, if_pos hvb]
        rw [hok]
        rw [hae] at hE6
        have HVB := Lib.hid hvb
        clear hok hae hva hvb
        obtain ⟨⟨c0, c1, c2⟩, hbl⟩ := CL.out _ hX6
        have hsz6 := hT6.size
        have keepB : ∀ W, Below w6.heap.size w6 W → (W.cell? ⟨bx, 0, none⟩ = some (.int .i64 x.t) ∧ W.cell? ⟨bx, 1, none⟩ = some (.int .i64 x.u) ∧ W.cell? ⟨bx, 2, none⟩ = some (.bool x.s)) := fun W h => ⟨(h.cell (p := ⟨bx, 0, none⟩) hbl).trans c0, (h.cell (p := ⟨bx, 1, none⟩) hbl).trans c1, (h.cell (p := ⟨bx, 2, none⟩) hbl).trans c2⟩
        have KB := Lib.hid keepB
        clear keepB
        go_wp2_with fail
        go_region_held3 (fun w' => w'.cell? ⟨bx, 0, none⟩ = some (.int .i64 x.t) ∧ w'.cell? ⟨bx, 1, none⟩ = some (.int .i64 x.u) ∧ w'.cell? ⟨bx, 2, none⟩ = some (.bool x.s))
          (first | go_keep | exact KB.out _ hB17 | exact KB.out _ (hB7.trans (hB16.mono hB7.size)) | exact KB.out _ (hB7.trans (hB15.mono hB7.size)) | exact KB.out _ hB7)
          ((first
            | (go_at_call 15; refine (impl_validLog _ 0 _ (es ++ [x]) (Rd.below hE6 (B := w6.heap.size) (Below.drew (Below.refl _ _)) (Nat.le_refl _) (by decide))).mono ?_; rintro e w7 ⟨rfl, hB7'⟩; have hB7 : Below w6.heap.size w6 w7 := (Below.drew (Below.refl _ _)).trans hB7'; rw [HVB.out]; have hr7 : Ents w7 0 _ es := Rd.below hr6 hB7 (Nat.le_refl _) (by decide))
            | (refine step_append_fromG (w1 := w7) (by rfl) _ _ _ (by rfl) 34 (.agg #[.int .i64 0, .int .i64 0, .bool false]) 3 24 Try.underlying25 info_entry rfl (by omega) (by rfl) _ 0 es.length (es.flatMap entCells) (by rfl) hr7 (cells_one es) (by unfold maxLen; omega) (by omega) ((Below.refl _ _).alloc (Nat.le_refl _) _) ?_
               intro v15 w15 hO15 hg15 hB15
               have hsz15 := hB15.size)
            | (refine step_append_fromG (w1 := w7) (by rfl) _ _ _ (by rfl) 34 (.agg #[.int .i64 0, .int .i64 0, .bool false]) 3 24 Try.underlying25 info_entry rfl (by omega) (by rfl) _ 0 es.length (es.flatMap entCells) (by rfl) hr7 (cells_one es) (by unfold maxLen; omega) (by omega) (bA w7 _) ?_
               intro v15 w15 hO15 hg15 hB15
               have hsz15 := hB15.size)
            | (refine step_append_fromG (w1 := w7) (by rfl) _ _ _ (by rfl) 34 (.agg #[.int .i64 0, .int .i64 0, .bool false]) 3 24 Try.underlying25 info_entry rfl (by omega) (by rfl) _ 0 es.length (es.flatMap entCells) (by rfl) hr7 (cells_one es) (by unfold maxLen; omega) (by omega) (bB w7 _ _) ?_
               intro v15 w15 hO15 hg15 hB15
               have hsz15 := hB15.size)
            | (refine step_append_fromG (w1 := w7) (by rfl) _ _ _ (by rfl) 34 (.agg #[.int .i64 0, .int .i64 0, .bool false]) 3 24 Try.underlying25 info_entry rfl (by omega) (by rfl) _ 0 es.length (es.flatMap entCells) (by rfl) hr7 (cells_one es) (by unfold maxLen; omega) (by omega) (bC w7 _ _) ?_
               intro v15 w15 hO15 hg15 hB15
               have hsz15 := hB15.size)
            | (refine step_append_fromG (w1 := w7) (by rfl) _ _ _ (by rfl) 34 (.agg #[.int .i64 0, .int .i64 0, .bool false]) 3 24 Try.underlying25 info_entry rfl (by omega) (by rfl) _ 0 es.length (es.flatMap entCells) (by rfl) hr7 (cells_one es) (by unfold maxLen; omega) (by omega) (bD w7 _ _) ?_
               intro v15 w15 hO15 hg15 hB15
               have hsz15 := hB15.size)
            | (refine step_append_OwnG (by rfl) _ _ _ (by rfl) 34 (.agg #[.int .i64 0, .int .i64 0, .bool false]) 3 24 Try.underlying25 info_entry rfl (by omega) w7.heap.size v15 es.length _ (by rfl) (hO15.alloc _) _ 0 1 [.int .i64 x.t, .int .i64 x.u, .bool x.s] (by rfl) (Rd.made w15 [.int .i64 x.t, .int .i64 x.u, .bool x.s] _ 0 3 1 rfl (Nat.zero_le _) (by decide)) (by intro u hu; simp at hu; rcases hu with rfl | rfl | rfl <;> rfl) (by unfold maxLen; omega) (by omega) (by simp; omega) ?_
               intro v16 w16 hO16 hg16 hk16
               have hB16 : Below w7.heap.size w7 w16 := hB15.trans (Below.trans ((Below.refl _ _).alloc hsz15 _) (below_of_grownBy hg16 (by simp; omega) (fun k hk => (hO15.wblk hk).1))))
            | (refine step_append_OwnG (by rfl) _ _ _ (by rfl) 34 (.agg #[.int .i64 0, .int .i64 0, .bool false]) 3 24 Try.underlying25 info_entry rfl (by omega) w7.heap.size v15 es.length _ (by rfl) (hO15.alloc _) _ 0 1 [.int .i64 x.t, .int .i64 x.u, .bool x.s] (by rfl) (Rd.made w15 [.int .i64 x.t, .int .i64 x.u, .bool x.s] _ 0 3 1 rfl (Nat.zero_le _) (by decide)) (by intro u hu; simp at hu; rcases hu with rfl | rfl | rfl <;> rfl) (by unfold maxLen; omega) (by omega) (by show _ ≤ (w15.alloc _).heap.size; simp; omega) ?_
               intro v16 w16 hO16 hg16 hk16
               have hB16 : Below w7.heap.size w7 w16 := hB15.trans (Below.trans (((Below.refl _ _).alloc hsz15 _).drew) (below_of_grownBy hg16 (by show _ ≤ (w15.alloc _).heap.size; simp; omega) (fun k hk => (hO15.wblk hk).1))))
            | (refine step_append_OwnG (by rfl) _ _ _ (by rfl) 34 (.agg #[.int .i64 0, .int .i64 0, .bool false]) 3 24 Try.underlying25 info_entry rfl (by omega) w7.heap.size v15 es.length _ (by rfl) hO15 _ 0 1 [.int .i64 x.t, .int .i64 x.u, .bool x.s] (by rfl) ((Rd.grown (made2 w7 _ x.t x.u x.s _) hg15 (fun k hk => by cases hk) (by decide)).mono (Nat.zero_le _)) (by intro u hu; simp at hu; rcases hu with rfl | rfl | rfl <;> rfl) (by unfold maxLen; omega) (by omega) (by omega) ?_
               intro v16 w16 hO16 hg16 hk16
               have hB16 : Below w7.heap.size w7 w16 := hB15.trans (below_of_grownBy hg16 (by omega) (fun k hk => (hO15.wblk hk).1)))
            | (refine step_append_OwnG (by rfl) _ _ _ (by rfl) 34 (.agg #[.int .i64 0, .int .i64 0, .bool false]) 3 24 Try.underlying25 info_entry rfl (by omega) w7.heap.size v15 es.length _ (by rfl) hO15 _ 0 1 [.int .i64 x.t, .int .i64 x.u, .bool x.s] (by rfl) ((Rd.grown (made2n w7 _ x.t x.u x.s _) hg15 (fun k hk => by cases hk) (by decide)).mono (Nat.zero_le _)) (by intro u hu; simp at hu; rcases hu with rfl | rfl | rfl <;> rfl) (by unfold maxLen; omega) (by omega) (by omega) ?_
               intro v16 w16 hO16 hg16 hk16
               have hB16 : Below w7.heap.size w7 w16 := hB15.trans (below_of_grownBy hg16 (by omega) (fun k hk => (hO15.wblk hk).1)))
            | (refine step_append_OwnG (by rfl) _ _ _ (by rfl) 34 (.agg #[.int .i64 0, .int .i64 0, .bool false]) 3 24 Try.underlying25 info_entry rfl (by omega) w7.heap.size v15 es.length _ (by rfl) hO15 _ 0 1 [.int .i64 x.t, .int .i64 x.u, .bool x.s] (by rfl) (Rd.grown (made3 w7 _ x.t x.u x.s _) hg15 (fun k hk => by cases hk) (by decide)) (by intro u hu; simp at hu; rcases hu with rfl | rfl | rfl <;> rfl) (by unfold maxLen; omega) (by omega) (by omega) ?_
               intro v16 w16 hO16 hg16 hk16
               have hB16 : Below w7.heap.size w7 w16 := hB15.trans (below_of_grownBy hg16 (by omega) (fun k hk => (hO15.wblk hk).1)))
            | (refine step_append_OwnG (by rfl) _ _ _ (by rfl) 34 (.agg #[.int .i64 0, .int .i64 0, .bool false]) 3 24 Try.underlying25 info_entry rfl (by omega) w7.heap.size v15 es.length _ (by rfl) hO15 _ 0 1 [.int .i64 x.t, .int .i64 x.u, .bool x.s] (by rfl) (Rd.grown (made3n w7 _ x.t x.u x.s _) hg15 (fun k hk => by cases hk) (by decide)) (by intro u hu; simp at hu; rcases hu with rfl | rfl | rfl <;> rfl) (by unfold maxLen; omega) (by omega) (by omega) ?_
               intro v16 w16 hO16 hg16 hk16
               have hB16 : Below w7.heap.size w7 w16 := hB15.trans (below_of_grownBy hg16 (by omega) (fun k hk => (hO15.wblk hk).1)))
            | (go_at_call 19; refine (equalEntries_same _ _ _ (es ++ [x]) (Rd.below hE6 (B := w6.heap.size) (hB7.trans (hB16.mono hB7.size)) (Nat.le_refl _) (by decide)) (by have := hO16.rd.mono (Nat.zero_le _); simpa [Ents, entCells] using this)).mono ?_; rintro e w17 ⟨rfl, hB17'⟩; have hB17 : Below w6.heap.size w6 w17 := (hB7.trans (hB16.mono hB7.size)).trans (hB17'.mono (hB7.trans (hB16.mono hB7.size)).size))
            | (go_at_call 19; refine (equalEntries_same _ _ _ (es ++ [x]) (Rd.below hE6 (B := w6.heap.size) (Below.drew (hB7.trans (hB16.mono hB7.size))) (Nat.le_refl _) (by decide)) (by have := Rd.below (hO16.rd.mono (Nat.zero_le _)) (Below.drew (Below.refl w16.heap.size w16)) (Nat.le_refl _) (by decide); simpa [Ents, entCells] using this)).mono ?_; rintro e w17 ⟨rfl, hB17'⟩; have hB17 : Below w6.heap.size w6 w17 := (Below.drew (hB7.trans (hB16.mono hB7.size))).trans (hB17'.mono (hB7.trans (hB16.mono hB7.size)).size))))
        all_goals
          clear hr7
          go_wp2
          go_ret
          exact ⟨rfl, hT6.trans (hB17.mono hT6.size)⟩
      · have hvb' : validL (es ++ [x]) = false := by simpa using hvb
        have hok : addOk es x = false := by unfold addOk; rw [hva, hvb']; rfl
        have hae : addE es x = es := by unfold addE; rw [if_pos hva, if_neg hvb]
        rw [hok]
        rw [hae] at hE6
        clear hok hae hva hvb hvb'
        go_wp2_with fail
        go_at_call 19
        refine (equalEntries_same _ _ _ es hE6 hr6).mono ?_; rintro e w7 ⟨rfl, hB7⟩
        go_wp2
        go_ret
        exact ⟨rfl, hT6.trans (hB7.mono hT6.size)⟩
    · have hva : validL es = false := by simpa using hva
      have hok : addOk es x = false := by unfold addOk; rw [hva]; rfl
      rw [hok]
      go_wp2_with fail
      go_at_call 15
      refine (impl_validLog _ _ _ es hr5).mono ?_; rintro e w6 ⟨rfl, hB6⟩
      rw [hva]
      have hE6 : Ents w6 0 v3 (addE es x) := Rd.below hE5 hB6 (Nat.le_refl _) (by decide)
      have hF6 : Ents w6 0 v4 (addE es x) := Rd.below hF5 hB6 (Nat.le_refl _) (by decide)
      have hT6 := hT5.trans (hB6.mono hT5.size)
      clear hr5 hX5 hT5 hB6 hE5 hF5 hok hva
      go_wp2_with fail
      go_at_call 19
      refine (equalEntries_same _ _ _ (addE es x) hE6 hF6).mono ?_; rintro e w7 ⟨rfl, hB7⟩
      go_wp2
      go_ret
      exact ⟨rfl, hT6.trans (hB7.mono hT6.size)⟩
  · go_enter Try.func6, Try.ntmps6
    go_wp2
    go_ret
    exact ⟨rfl, Below.refl _ _⟩
end Go.Proofs.Ytfdnkfhldgcnmaa
