/- FnExactAddEntry: the walk. -/
import Derived.Test.YtfdnkfhldgcnmaaLog9
import Derived.Test.YtfdnkfhldgcnmaaLog3
import Derived.Deep.RegionHeld3
namespace Go.Proofs.Ytfdnkfhldgcnmaa
open Go.RowKit

theorem addE_len (es : List Ent) (x : Ent) : (addE es x).length ≤ es.length + 1 := by
  unfold addE; split
  · split
    · simp
    · omega
  · simp

set_option maxHeartbeats 1000000 in
theorem fnExactAddEntry_walk (w : World) (v : Value) (xs : List Ent) (x : Ent) (hv : Ents w 0 v xs) (_ : ∀ e ∈ xs, EntOk e) (_ : EntOk x) :
    Calls Try.prog 5 #[v, .agg #[.int .i64 x.t, .int .i64 x.u, .bool x.s]] w fun e w' => e = .returned (.bool true) ∧ Below w.heap.size w w' := by
  obtain ⟨ao, cap, rfl, hcap, hm⟩ := hv.form
  by_cases hlen : xs.length ≤ 1048576
  · have hBx : Below w.heap.size w (w.alloc (.cells #[.int .i64 x.t, .int .i64 x.u, .bool x.s] 36)) := (Below.refl _ _).alloc (Nat.le_refl _) _
    have hv : Ents (w.alloc (.cells #[.int .i64 x.t, .int .i64 x.u, .bool x.s] 36)) 0 _ xs := Rd.below hv hBx (Nat.le_refl _) (by decide)
    have c0 : (w.alloc (.cells #[.int .i64 x.t, .int .i64 x.u, .bool x.s] 36)).cell? ⟨w.heap.size, 0, none⟩ = some (.int .i64 x.t) := by rw [cell_of_row _ w.heap.size 0 #[.int .i64 x.t, .int .i64 x.u, .bool x.s] 36 (0, 0) (heap_alloc_new w _)]; simp
    have c1 : (w.alloc (.cells #[.int .i64 x.t, .int .i64 x.u, .bool x.s] 36)).cell? ⟨w.heap.size, 1, none⟩ = some (.int .i64 x.u) := by rw [cell_of_row _ w.heap.size 1 #[.int .i64 x.t, .int .i64 x.u, .bool x.s] 36 (0, 0) (heap_alloc_new w _)]; simp
    have c2 : (w.alloc (.cells #[.int .i64 x.t, .int .i64 x.u, .bool x.s] 36)).cell? ⟨w.heap.size, 2, none⟩ = some (.bool x.s) := by rw [cell_of_row _ w.heap.size 2 #[.int .i64 x.t, .int .i64 x.u, .bool x.s] 36 (0, 0) (heap_alloc_new w _)]; simp
    have hltx : w.heap.size < (w.alloc (.cells #[.int .i64 x.t, .int .i64 x.u, .bool x.s] 36)).heap.size := by simp
    go_enter Try.func5, Try.ntmps5
    go_wp2_with fail
    obtain ⟨w0, hw0⟩ : ∃ w0, w0 = w.alloc (.cells #[.int .i64 x.t, .int .i64 x.u, .bool x.s] 36) := ⟨_, rfl⟩
    rw [← hw0] at hv hBx c0 c1 c2 hltx ⊢
    clear hw0
    go_at_call 12
    refine (szEntryS_any _ _ _ xs hv).mono ?_; rintro e w1 ⟨rfl, rfl⟩
    first | rw [if_pos hlen] | rw [if_neg hlen]
    go_wp2_with fail
    go_region_held3 (fun w' => w'.cell? ⟨w.heap.size, 0, none⟩ = some (.int .i64 x.t) ∧ w'.cell? ⟨w.heap.size, 1, none⟩ = some (.int .i64 x.u) ∧ w'.cell? ⟨w.heap.size, 2, none⟩ = some (.bool x.s))
      (first | go_keep | exact ⟨(T2.cell (p := ⟨w.heap.size, 0, none⟩) hltx).trans c0, (T2.cell (p := ⟨w.heap.size, 1, none⟩) hltx).trans c1, (T2.cell (p := ⟨w.heap.size, 2, none⟩) hltx).trans c2⟩ | exact ⟨(Tb.cell (p := ⟨w.heap.size, 0, none⟩) hltx).trans c0, (Tb.cell (p := ⟨w.heap.size, 1, none⟩) hltx).trans c1, (Tb.cell (p := ⟨w.heap.size, 2, none⟩) hltx).trans c2⟩ | exact ⟨(Ta.cell (p := ⟨w.heap.size, 0, none⟩) hltx).trans c0, (Ta.cell (p := ⟨w.heap.size, 1, none⟩) hltx).trans c1, (Ta.cell (p := ⟨w.heap.size, 2, none⟩) hltx).trans c2⟩)
      ((first
        | (go_at_call 14; refine (toEntryS_any _ _ xs (Rd.below hv (Below.drew (Below.refl w0.heap.size w0)) (Nat.le_refl _) (by decide)) (by omega)).mono ?_; rintro e w1 ⟨v1, rfl, hO1, hB1⟩; have Ta : Below w0.heap.size w0 w1 := (Below.drew (Below.refl w0.heap.size w0)).trans hB1)
        | (go_at_call 21; refine (toEntry_any _ x.t x.u x.s).mono ?_; rintro e wma ⟨rfl, hBma⟩; have Tb : Below w0.heap.size w0 wma := Ta.trans (hBma.mono Ta.size); have hO1 := hO1.below hBma (Nat.le_refl _))
        | (go_at_call 20; refine (spec_addEntry _ 0 _ xs x (hO1.rd.mono (Nat.zero_le _))).mono ?_; rintro e w2 ⟨v2, rfl, hW, hB2⟩; have T2 : Below w0.heap.size w0 w2 := Tb.trans (hB2.mono Tb.size))))
    go_wp2_with fail
    go_at_call 14
    refine (toEntryS_any _ _ xs (Rd.below hv T2 (Nat.le_refl _) (by decide)) (by omega)).mono ?_; rintro e w3 ⟨v3, rfl, hX, U3⟩
    have d0 := ((T2.trans (U3.mono T2.size)).cell (p := ⟨w.heap.size, 0, none⟩) hltx).trans c0
    have d1 := ((T2.trans (U3.mono T2.size)).cell (p := ⟨w.heap.size, 1, none⟩) hltx).trans c1
    have d2 := ((T2.trans (U3.mono T2.size)).cell (p := ⟨w.heap.size, 2, none⟩) hltx).trans c2
    go_wp2_with fail
    go_at_call 21
    refine (toEntry_any _ x.t x.u x.s).mono ?_; rintro e wmb ⟨rfl, hBmb⟩
    clear d0 d1 d2
    have hX := hX.below hBmb (Nat.le_refl _)
    have U3 := U3.trans (hBmb.mono U3.size)
    go_wp2_with fail
    go_at_call 18
    refine (impl_addEntry _ 0 _ xs x (hX.rd.mono (Nat.zero_le _))).mono ?_; rintro e w4 ⟨v4, rfl, hG, V4⟩
    have U4 := U3.trans (V4.mono U3.size)
    go_wp2_with fail
    go_at_call 16
    refine (eqEntryS_same _ _ _ (addE xs x) (hG.rd.mono (Nat.zero_le _)) (Rd.mono (Rd.below hW.rd U4 (Nat.le_refl _) (by decide)) (Nat.zero_le _))).mono ?_; rintro e w5 ⟨rfl, hB5⟩
    have G5 : Below w4.heap.size w4 w5 := hB5
    have V5 := V4.trans (hB5.mono V4.size)
    have U5 := U4.trans (hB5.mono U4.size)
    have T5 := T2.trans (U5.mono T2.size)
    go_wp2_with fail
    go_at_call 14
    refine (toEntryS_any _ _ xs (Rd.below hv T5 (Nat.le_refl _) (by decide)) (by omega)).mono ?_; rintro e w6 ⟨v6, rfl, hY, hB6⟩
    have G6 := G5.trans (hB6.mono G5.size)
    have V6 := V5.trans (hB6.mono V5.size)
    have U6 := U5.trans (hB6.mono U5.size)
    go_wp2_with fail
    go_at_call 16
    refine (eqEntryS_same _ _ _ xs (Rd.mono (Rd.below hX.rd V6 (Nat.le_refl _) (by decide)) (Nat.zero_le _)) (hY.rd.mono (Nat.zero_le _))).mono ?_; rintro e w7 ⟨rfl, hB7⟩
    have G7 := G6.trans (hB7.mono G6.size)
    have V7 := V6.trans (hB7.mono V6.size)
    have U7 := U6.trans (hB7.mono U6.size)
    have hX7 := hX.below V7 (Nat.le_refl _)
    have hG7 := hG.below G7 (Nat.le_refl _)
    go_wp2_with fail
    go_at_call 22
    refine (markEntryS_any _ _ _ _ 1 _ hX7 (by omega)).mono ?_; rintro e w8 ⟨rfl, _, hm8⟩
    have hG8 := hG7.grown hm8 (fun k hk => .inl (hX.wblk hk).2)
    have U8 := U7.trans (below_of_grownBy hm8 (B := w2.heap.size) (U7.size) (fun k hk => (hX.wblk hk).1))
    go_wp2_with fail
    go_at_call 16
    refine (eqEntryS_same _ _ _ (addE xs x) (hG8.rd.mono (Nat.zero_le _)) (Rd.mono (Rd.below hW.rd U8 (Nat.le_refl _) (by decide)) (Nat.zero_le _))).mono ?_; rintro e w9 ⟨rfl, hB9⟩
    have hG9 := hG8.below hB9 (Nat.le_refl _)
    have U9 := U8.trans (hB9.mono U8.size)
    go_wp2_with fail
    go_at_call 22
    refine (markEntryS_any _ _ _ _ 1 _ hG9 (by have := addE_len xs x; omega)).mono ?_; rintro e w10 ⟨rfl, hG10, hm10⟩
    have U10 := U9.trans (below_of_grownBy hm10 (B := w2.heap.size) (U9.size) (fun k hk => Nat.le_trans U3.size (hG9.wblk hk).1))
    have T10 := T2.trans (U10.mono T2.size)
    go_wp2_with fail
    go_at_call 23
    refine (heldEntryS_any _ _ _ _ 1 hG10.rd (by have := addE_len xs x; omega)).mono ?_; rintro e w10' ⟨rfl, rfl⟩
    skip
    have d0 := (T10.cell (p := ⟨w.heap.size, 0, none⟩) hltx).trans c0
    have d1 := (T10.cell (p := ⟨w.heap.size, 1, none⟩) hltx).trans c1
    have d2 := (T10.cell (p := ⟨w.heap.size, 2, none⟩) hltx).trans c2
    go_wp2_with fail
    go_region_held3 (fun w' => w'.cell? ⟨w.heap.size, 0, none⟩ = some (.int .i64 x.t) ∧ w'.cell? ⟨w.heap.size, 1, none⟩ = some (.int .i64 x.u) ∧ w'.cell? ⟨w.heap.size, 2, none⟩ = some (.bool x.s))
      (first | go_keep | exact ⟨(Te.cell (p := ⟨w.heap.size, 0, none⟩) hltx).trans c0, (Te.cell (p := ⟨w.heap.size, 1, none⟩) hltx).trans c1, (Te.cell (p := ⟨w.heap.size, 2, none⟩) hltx).trans c2⟩ | exact ⟨(Td.cell (p := ⟨w.heap.size, 0, none⟩) hltx).trans c0, (Td.cell (p := ⟨w.heap.size, 1, none⟩) hltx).trans c1, (Td.cell (p := ⟨w.heap.size, 2, none⟩) hltx).trans c2⟩ | exact ⟨(Tc.cell (p := ⟨w.heap.size, 0, none⟩) hltx).trans c0, (Tc.cell (p := ⟨w.heap.size, 1, none⟩) hltx).trans c1, (Tc.cell (p := ⟨w.heap.size, 2, none⟩) hltx).trans c2⟩)
      ((first
        | (go_at_call 14; refine (toEntryS_any _ _ xs (Rd.below hv (Below.drew T10) (Nat.le_refl _) (by decide)) (by omega)).mono ?_; rintro e w11 ⟨v11, rfl, hZ, hB11⟩; have Tc : Below w0.heap.size w0 w11 := (Below.drew T10).trans (hB11.mono T10.size); have U11 := (Below.drew U10).trans (hB11.mono U10.size); have hG11 := (hG10.below (Below.drew (Below.refl w10.heap.size w10)) (Nat.le_refl _)).below hB11 (Nat.le_refl _))
        | (go_at_call 21; refine (toEntry_any _ x.t x.u x.s).mono ?_; rintro e wmc ⟨rfl, hBmc⟩; have Td : Below w0.heap.size w0 wmc := Tc.trans (hBmc.mono Tc.size); have hZ := hZ.below hBmc (Nat.le_refl _); have U11 := U11.trans (hBmc.mono U11.size); have hG11 := hG11.below hBmc (Nat.le_refl _))
        | (go_at_call 18; refine (impl_addEntry _ 0 _ xs x (hZ.rd.mono (Nat.zero_le _))).mono ?_; rintro e w12 ⟨v12, rfl, hH, hB12⟩; have U12 := U11.trans (hB12.mono U11.size); have hG12 := hG11.below hB12 (Nat.le_refl _); have Te : Below w0.heap.size w0 w12 := Td.trans (hB12.mono Td.size))))
    go_wp2_with fail
    go_at_call 16
    refine (eqEntryS_same _ _ _ (addE xs x) (hH.rd.mono (Nat.zero_le _)) (Rd.mono (Rd.below hW.rd U12 (Nat.le_refl _) (by decide)) (Nat.zero_le _))).mono ?_; rintro e w13 ⟨rfl, hB13⟩
    have U13 := U12.trans (hB13.mono U12.size)
    have hG13 := hG12.below hB13 (Nat.le_refl _)
    go_wp2_with fail
    go_at_call 23
    refine (heldEntryS_any _ _ _ _ 1 hG13.rd (by have := addE_len xs x; omega)).mono ?_; rintro e w14 ⟨rfl, rfl⟩
    go_wp2
    go_ret
    exact ⟨rfl, hBx.trans ((T2.trans (U13.mono T2.size)).mono hBx.size)⟩
  · have hBx : Below w.heap.size w (w.alloc (.cells #[.int .i64 x.t, .int .i64 x.u, .bool x.s] 36)) := (Below.refl _ _).alloc (Nat.le_refl _) _
    have hv : Ents (w.alloc (.cells #[.int .i64 x.t, .int .i64 x.u, .bool x.s] 36)) 0 _ xs := Rd.below hv hBx (Nat.le_refl _) (by decide)
    have c0 : (w.alloc (.cells #[.int .i64 x.t, .int .i64 x.u, .bool x.s] 36)).cell? ⟨w.heap.size, 0, none⟩ = some (.int .i64 x.t) := by rw [cell_of_row _ w.heap.size 0 #[.int .i64 x.t, .int .i64 x.u, .bool x.s] 36 (0, 0) (heap_alloc_new w _)]; simp
    have c1 : (w.alloc (.cells #[.int .i64 x.t, .int .i64 x.u, .bool x.s] 36)).cell? ⟨w.heap.size, 1, none⟩ = some (.int .i64 x.u) := by rw [cell_of_row _ w.heap.size 1 #[.int .i64 x.t, .int .i64 x.u, .bool x.s] 36 (0, 0) (heap_alloc_new w _)]; simp
    have c2 : (w.alloc (.cells #[.int .i64 x.t, .int .i64 x.u, .bool x.s] 36)).cell? ⟨w.heap.size, 2, none⟩ = some (.bool x.s) := by rw [cell_of_row _ w.heap.size 2 #[.int .i64 x.t, .int .i64 x.u, .bool x.s] 36 (0, 0) (heap_alloc_new w _)]; simp
    have hltx : w.heap.size < (w.alloc (.cells #[.int .i64 x.t, .int .i64 x.u, .bool x.s] 36)).heap.size := by simp
    go_enter Try.func5, Try.ntmps5
    go_wp2_with fail
    obtain ⟨w0, hw0⟩ : ∃ w0, w0 = w.alloc (.cells #[.int .i64 x.t, .int .i64 x.u, .bool x.s] 36) := ⟨_, rfl⟩
    rw [← hw0] at hv hBx c0 c1 c2 hltx ⊢
    clear hw0
    go_at_call 12
    refine (szEntryS_any _ _ _ xs hv).mono ?_; rintro e w1 ⟨rfl, rfl⟩
    first | rw [if_pos hlen] | rw [if_neg hlen]
    go_wp2_with fail
    go_ret
    exact ⟨rfl, hBx.trans ((Below.refl _ _).mono hBx.size)⟩

end Go.Proofs.Ytfdnkfhldgcnmaa
