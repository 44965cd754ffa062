/- The draw of SwitchHistory. -/
import Derived.Test.YtokpgipbgkiepaaSwA
import Derived.Test.YtokpgipbgkiepaaDrSA
namespace Go.Proofs.Ytokpgipbgkiepaa
open Go.RowKit
set_option linter.unusedVariables false
set_option linter.unusedSimpArgs false


def DrawSH (w : World) (e : Ending) (w' : World) : Prop := ∃ va vb a b, ∃ f first count : Int, e = .returned (.tuple #[va, vb, .int .i64 f, .int .i64 first, .int .i64 count]) ∧ PlanR w' w.heap.size va a ∧ PlanR w' w.heap.size vb b ∧ Below w.heap.size w w'
set_option maxHeartbeats 16000000 in
set_option maxRecDepth 100000 in
theorem drawSwitchHistory (w : World) (v : Value) (bs : List UInt8) (hv : Bytes w 0 v bs) :
    Calls Try.prog 42 #[v] w (DrawSH w) := by
  obtain ⟨wa, hwa⟩ : ∃ x, x = w.alloc (.cells #[.slice none 0 0, .slice none 0 0] 26) := ⟨_, rfl⟩
  have hXa := Own.made w [.slice none 0 0, .slice none 0 0] 26 w.heap.size 2 1 rfl (Nat.le_refl _) (by decide)
  rw [show (w.alloc (Obj.cells [Value.slice none 0 0, Value.slice none 0 0].toArray 26)) = wa from hwa.symm] at hXa
  have hsa : wa.heap.size = w.heap.size + 1 := by rw [hwa]; simp
  obtain ⟨w0, hw0⟩ : ∃ x, x = wa.alloc (.cells #[.slice none 0 0, .slice none 0 0] 26) := ⟨_, rfl⟩
  have hXb := Own.made wa [.slice none 0 0, .slice none 0 0] 26 (w.heap.size + 1) 2 1 rfl (by omega) (by decide)
  rw [show (wa.alloc (Obj.cells [Value.slice none 0 0, Value.slice none 0 0].toArray 26)) = w0 from hw0.symm, hsa] at hXb
  have hBa : Below w.heap.size w wa := by rw [hwa]; exact (Below.refl _ _).alloc (Nat.le_refl _) _
  have hBb : Below wa.heap.size wa w0 := by rw [hw0]; exact (Below.refl _ _).alloc (Nat.le_refl _) _
  have hB0 := hBa.trans (hBb.mono hBa.size)
  have hs0 : w0.heap.size = w.heap.size + 2 := by rw [hw0]; simp [hsa]
  have HXA := Lib.hid (hXa.below hBb (Nat.le_refl _))
  have HXB := Lib.hid hXb
  have HB0 := Lib.hid hB0
  have HBB := Lib.hid (bytes_blkS hv)
  have HV0 := Lib.hid (Rd.below hv hB0 (Nat.le_refl _) (by decide) : Bytes w0 0 v bs)
  have hW : w0 = (w.alloc (.cells #[.slice none 0 0, .slice none 0 0] 26)).alloc (.cells #[.slice none 0 0, .slice none 0 0] 26) := by rw [hw0, hwa]
  have HW := Lib.hid hW
  have HS0 := Lib.hid hs0
  obtain ⟨ao, cap, rfl, _, _⟩ := hv.form
  clear hXa hXb hsa hs0 hBa hBb hB0 hwa hw0 hv hW
  go_enter Try.func42, Try.ntmps42
  go_wp2_with fail
  rw [← HW.out]
  clear HW
  refine (newReader_B w0 w.heap.size _ bs HV0.out HBB.out HB0.out.size).mono ?_; rintro e w1 ⟨rfl, hr1, hB1⟩
  rw [HS0.out] at hr1
  have hr1 : Rdh w.heap.size w1 (w.heap.size + 2) 0 := hr1
  have HX1A := Lib.hid (HXA.out.below hB1 (Nat.le_refl _))
  have HX1B := Lib.hid (HXB.out.below hB1 (Nat.le_refl _))
  have HB1 := Lib.hid (HB0.out.trans (hB1.mono HB0.out.size))
  have hz1 : w.heap.size + 2 < w1.heap.size := hr1.lt
  rw [show w0.heap.size = w.heap.size + 2 from HS0.out]
  have KX : Hid (∀ W, w1.grownBy W (some (w.heap.size + 2)) → (∃ z, W.cell? ⟨w.heap.size, 0, none⟩ = some z) ∧ (∃ z, W.cell? ⟨w.heap.size, 1, none⟩ = some z) ∧ (∃ z, W.cell? ⟨w.heap.size + 1, 0, none⟩ = some z) ∧ (∃ z, W.cell? ⟨w.heap.size + 1, 1, none⟩ = some z) ∧ (∀ o, W.frozen? ⟨w.heap.size, o, none⟩ = false) ∧ (∀ o, W.frozen? ⟨w.heap.size + 1, o, none⟩ = false)) := fun W h => by
    obtain ⟨_, e1, _, _, p9, f9, _⟩ := (HX1A.out.grown h (fun q hq => .inr (by cases hq; simp [Value.ownBlock]))).parts (by omega)
    cases e1
    obtain ⟨_, e1, _, _, p8, f8, _⟩ := (HX1B.out.grown h (fun q hq => .inr (by cases hq; simp [Value.ownBlock]))).parts (by omega)
    cases e1
    exact ⟨⟨_, p9 0 (by simp)⟩, ⟨_, p9 1 (by simp)⟩, ⟨_, p8 0 (by simp)⟩, ⟨_, p8 1 (by simp)⟩, f9, f8⟩
  clear hB1 HXA HXB HB0 HV0 HBB HX1A HX1B
  go_wp2_with fail
  refine (twoPlans_any _ _ _ hr1 (by omega)).mono ?_; rintro e w2 ⟨va, vb, a, b, p2, rfl, hPa, hPb, hp2, hr2, hg2⟩
  have hPa0 := hPa
  have hPb0 := hPb
  obtain ⟨a0, c0, a1, c1, rfl, _, _⟩ := hPa.aggs
  obtain ⟨b0, d0, b1, d1, rfl, _, _⟩ := hPb.aggs
  obtain ⟨w3, hw3, hB3, hz3, K⟩ := two_box w2 (.slice a0 a.cl.length c0) (.slice a1 a.st.length c1) (.slice b0 b.cl.length d0) (.slice b1 b.st.length d1) 26
  have hz2 : w.heap.size + 2 < w2.heap.size := Nat.lt_of_lt_of_le hz1 hg2.size
  have hr3 := hr2.below hB3 hr2.lt
  have HPA3 := Lib.hid ((hPa0.below hB3 (Nat.le_refl _)).mono (show w.heap.size + 3 ≤ w1.heap.size by omega))
  have HPB3 := Lib.hid ((hPb0.below hB3 (Nat.le_refl _)).mono (show w.heap.size + 3 ≤ w1.heap.size by omega))
  have HG3 : Hid (w1.grownBy w3 (some (w.heap.size + 2))) := grownBy_trans hg2 (grownBy_of_below hB3 (Nat.le_refl _) _) (fun x hx => .inl hx)
  have HK3 := Lib.hid (K w3 (Below.refl _ _))
  have HW3 := Lib.hid hw3
  clear hPa hPb hPa0 hPb0 hr1 hr2 hg2 hw3 hB3 K
  go_wp2_with fail
  rw [← HW3.out]
  clear HW3
  refine (anySecond_any _ _ _ hr3 (by omega)).mono ?_; rintro e w5 ⟨f, rfl, hf, hr5, hg5⟩
  have HG5 : Hid (w1.grownBy w5 (some (w.heap.size + 2))) := grownBy_trans HG3.out hg5 (fun x hx => .inl hx)
  have HPA5 := Lib.hid (HPA3.out.grown hg5 (fun q hq => by cases hq; omega))
  have HPB5 := Lib.hid (HPB3.out.grown hg5 (fun q hq => by cases hq; omega))
  have hbk : ∀ (k o : Nat), (k = w2.heap.size ∨ k = w2.heap.size + 1) → w5.cell? ⟨k, o, none⟩ = w3.cell? ⟨k, o, none⟩ := fun k o hk => World.cell?_of_block (a := ⟨k, o, none⟩) (hg5.block k (by omega) (fun e => by injection e with e; omega))
  have hz5 := hg5.size
  have KC : Hid (∀ W, w5.grownBy W (some (w.heap.size + 2)) → (W.cell? ⟨w2.heap.size, 0, none⟩ = some (.slice a0 a.cl.length c0) ∧ W.cell? ⟨w2.heap.size, 1, none⟩ = some (.slice a1 a.st.length c1)) ∧ (W.cell? ⟨w2.heap.size + 1, 0, none⟩ = some (.slice b0 b.cl.length d0) ∧ W.cell? ⟨w2.heap.size + 1, 1, none⟩ = some (.slice b1 b.st.length d1))) := fun W h => by
    have hb2 : ∀ (k o : Nat), (k = w2.heap.size ∨ k = w2.heap.size + 1) → W.cell? ⟨k, o, none⟩ = w3.cell? ⟨k, o, none⟩ := fun k o hk => (World.cell?_of_block (a := ⟨k, o, none⟩) (h.block k (by omega) (fun e => by injection e with e; omega))).trans (hbk k o hk)
    exact ⟨⟨(hb2 _ 0 (.inl rfl)).trans HK3.out.1.1, (hb2 _ 1 (.inl rfl)).trans HK3.out.1.2⟩, (hb2 _ 0 (.inr rfl)).trans HK3.out.2.1, (hb2 _ 1 (.inr rfl)).trans HK3.out.2.2⟩
  have KS : Hid (∀ (W : World) (c o : Nat) (u : Value), (c = w.heap.size ∨ c = w.heap.size + 1) → ((W.cell? ⟨w2.heap.size, 0, none⟩ = some (.slice a0 a.cl.length c0) ∧ W.cell? ⟨w2.heap.size, 1, none⟩ = some (.slice a1 a.st.length c1)) ∧ (W.cell? ⟨w2.heap.size + 1, 0, none⟩ = some (.slice b0 b.cl.length d0) ∧ W.cell? ⟨w2.heap.size + 1, 1, none⟩ = some (.slice b1 b.st.length d1))) → (((W.setCell ⟨c, o, none⟩ u).cell? ⟨w2.heap.size, 0, none⟩ = some (.slice a0 a.cl.length c0) ∧ (W.setCell ⟨c, o, none⟩ u).cell? ⟨w2.heap.size, 1, none⟩ = some (.slice a1 a.st.length c1)) ∧ ((W.setCell ⟨c, o, none⟩ u).cell? ⟨w2.heap.size + 1, 0, none⟩ = some (.slice b0 b.cl.length d0) ∧ (W.setCell ⟨c, o, none⟩ u).cell? ⟨w2.heap.size + 1, 1, none⟩ = some (.slice b1 b.st.length d1)))) :=
    fun W c o u hc h => by
      have h1 : c ≠ w2.heap.size := by omega
      have h2 : c ≠ w2.heap.size + 1 := by omega
      exact ⟨⟨(World.cell?_setCell_far _ _ _ _ h1).trans h.1.1, (World.cell?_setCell_far _ _ _ _ h1).trans h.1.2⟩, (World.cell?_setCell_far _ _ _ _ h2).trans h.2.1, (World.cell?_setCell_far _ _ _ _ h2).trans h.2.2⟩
  obtain ⟨⟨u0, u1⟩, u2, u3⟩ := KC.out _ (grownBy_refl _ _)
  by_cases h20 : 20 < f
  · skip
    have wf1 : IntKind.i64.wrap (f - 20) = f - 20 := IntWalk.i64_in _ (by omega)
    have wf2 : IntKind.i64.wrap (f + 20) = f + 20 := IntWalk.i64_in _ (by omega)
    have HBB2 : Hid (Below w5.heap.size w5 ((w5.alloc (.cells (List.map (Value.int .i64) [f, f - 20, 0, f + 20, -1]).toArray 3)).alloc (.cells (List.map (Value.int .i64) [100, 60, 150, 20, 0, 151]).toArray 3)).drew) := (((Below.refl w5.heap.size w5).alloc (Nat.le_refl _) _).alloc (by simp) _).drew
    have HR2 := Lib.hid (hr5.below HBB2.out hr5.lt)
    have HI5 : Hid (Ints ((w5.alloc (.cells (List.map (Value.int .i64) [f, f - 20, 0, f + 20, -1]).toArray 3)).alloc (.cells (List.map (Value.int .i64) [100, 60, 150, 20, 0, 151]).toArray 3)).drew (w.heap.size + 2 + 1) (.slice (some ⟨w5.heap.size, 0, none⟩) 5 5) [f, f - 20, 0, f + 20, -1]) :=
      Rd.drewN (Rd.below (Rd.made w5 (List.map (Value.int .i64) [f, f - 20, 0, f + 20, -1]) 3 (w.heap.size + 2 + 1) 1 5 rfl (by omega) (by decide)) ((Below.refl _ _).alloc (Nat.le_refl _) _) (Nat.le_refl _) (by decide)) 1
    have HI6 : Hid (Ints ((w5.alloc (.cells (List.map (Value.int .i64) [f, f - 20, 0, f + 20, -1]).toArray 3)).alloc (.cells (List.map (Value.int .i64) [100, 60, 150, 20, 0, 151]).toArray 3)).drew (w.heap.size + 2 + 1) (.slice (some ⟨w5.heap.size + 1, 0, none⟩) 6 6) [100, 60, 150, 20, 0, 151]) := by
      have := Rd.made (w5.alloc (.cells (List.map (Value.int .i64) [f, f - 20, 0, f + 20, -1]).toArray 3)) (List.map (Value.int .i64) [100, 60, 150, 20, 0, 151]) 3 (w.heap.size + 2 + 1) 1 6 rfl (by simp; omega) (by decide)
      have e : (w5.alloc (.cells (List.map (Value.int .i64) [f, f - 20, 0, f + 20, -1]).toArray 3)).heap.size = w5.heap.size + 1 := by simp
      rw [e] at this
      exact Rd.drewN this 1
    have HBB3 : Hid (Below w5.heap.size w5 ((w5.alloc (.cells (List.map (Value.int .i64) [100, 60, 150, 20, 0, 151]).toArray 3)).alloc (.cells (List.map (Value.int .i64) [f, f - 20, 0, f + 20, -1]).toArray 3)).drew) := (((Below.refl w5.heap.size w5).alloc (Nat.le_refl _) _).alloc (by simp) _).drew
    have HR3 := Lib.hid (hr5.below HBB3.out hr5.lt)
    have HI6c : Hid (Ints ((w5.alloc (.cells (List.map (Value.int .i64) [100, 60, 150, 20, 0, 151]).toArray 3)).alloc (.cells (List.map (Value.int .i64) [f, f - 20, 0, f + 20, -1]).toArray 3)).drew (w.heap.size + 2 + 1) (.slice (some ⟨w5.heap.size, 0, none⟩) 6 6) [100, 60, 150, 20, 0, 151]) :=
      Rd.drewN (Rd.below (Rd.made w5 (List.map (Value.int .i64) [100, 60, 150, 20, 0, 151]) 3 (w.heap.size + 2 + 1) 1 6 rfl (by omega) (by decide)) ((Below.refl _ _).alloc (Nat.le_refl _) _) (Nat.le_refl _) (by decide)) 1
    have HI5c : Hid (Ints ((w5.alloc (.cells (List.map (Value.int .i64) [100, 60, 150, 20, 0, 151]).toArray 3)).alloc (.cells (List.map (Value.int .i64) [f, f - 20, 0, f + 20, -1]).toArray 3)).drew (w.heap.size + 2 + 1) (.slice (some ⟨w5.heap.size + 1, 0, none⟩) 5 5) [f, f - 20, 0, f + 20, -1]) := by
      have := Rd.made (w5.alloc (.cells (List.map (Value.int .i64) [100, 60, 150, 20, 0, 151]).toArray 3)) (List.map (Value.int .i64) [f, f - 20, 0, f + 20, -1]) 3 (w.heap.size + 2 + 1) 1 5 rfl (by simp; omega) (by decide)
      have e : (w5.alloc (.cells (List.map (Value.int .i64) [100, 60, 150, 20, 0, 151]).toArray 3)).heap.size = w5.heap.size + 1 := by simp
      rw [e] at this
      exact Rd.drewN this 1
    clear hg5 hbk hr3 HK3
    go_wp2_with fail
    go_region_held3 (fun W => (W.cell? ⟨w2.heap.size, 0, none⟩ = some (.slice a0 a.cl.length c0) ∧ W.cell? ⟨w2.heap.size, 1, none⟩ = some (.slice a1 a.st.length c1)) ∧ (W.cell? ⟨w2.heap.size + 1, 0, none⟩ = some (.slice b0 b.cl.length d0) ∧ W.cell? ⟨w2.heap.size + 1, 1, none⟩ = some (.slice b1 b.st.length d1)))
      (first | exact HK8.out | exact HK7.out |  (with_reducible exact KS.out _ _ _ _ (.inl rfl) (KS.out _ _ _ _ (.inl rfl) HK8.out)) | (with_reducible exact KS.out _ _ _ _ (.inr rfl) (KS.out _ _ _ _ (.inr rfl) HK8.out)) | (with_reducible exact KS.out _ _ _ _ (.inr rfl) (KS.out _ _ _ _ (.inr rfl) (KS.out _ _ _ _ (.inl rfl) (KS.out _ _ _ _ (.inl rfl) HK8.out)))) | (with_reducible exact KS.out _ _ _ _ (.inl rfl) (KS.out _ _ _ _ (.inl rfl) (KS.out _ _ _ _ (.inr rfl) (KS.out _ _ _ _ (.inr rfl) HK8.out)))) | exact KC.out _ (grownBy_of_below (Below.drew (Below.refl w5.heap.size w5)) (Nat.le_refl _) _) | assumption | go_keep)
      ((first
        | (go_at_call 86; (with_reducible show Calls _ _ #[_, Value.slice (some ⟨w5.heap.size, 0, none⟩) 5 5] (World.drew (World.alloc (World.alloc _ _) _)) _); refine (one_h _ (w.heap.size + 2) _ _ [f, f - 20, 0, f + 20, -1] HR2.out (by omega) HI5.out (by simp) (by simp)).mono ?_; rintro e w7 ⟨first, rfl, hm0, hr7, hg7⟩; have hG7 : w5.grownBy w7 (some (w.heap.size + 2)) := grownBy_trans (grownBy_of_below HBB2.out (Nat.le_refl _) _) hg7 (fun x hx => .inl hx); have HK7 := Lib.hid (KC.out _ hG7); have HI6b := Lib.hid (Rd.grown HI6.out hg7 (fun k hk => .inl (by cases hk; omega)) (by decide)))
        | (go_at_call 86; (with_reducible show Calls _ _ #[_, Value.slice (some ⟨w5.heap.size + 1, 0, none⟩) 5 5] (World.drew (World.alloc (World.alloc _ _) _)) _); refine (one_h _ (w.heap.size + 2) _ _ [f, f - 20, 0, f + 20, -1] HR3.out (by omega) HI5c.out (by simp) (by simp)).mono ?_; rintro e w7 ⟨first, rfl, hm0, hr7, hg7⟩; have hG7 : w5.grownBy w7 (some (w.heap.size + 2)) := grownBy_trans (grownBy_of_below HBB3.out (Nat.le_refl _) _) hg7 (fun x hx => .inl hx); have HK7 := Lib.hid (KC.out _ hG7); have HI6b := Lib.hid (Rd.grown HI6c.out hg7 (fun k hk => .inl (by cases hk; omega)) (by decide)))
        | (go_at_call 86; (with_reducible show Calls _ _ #[_, Value.slice _ 5 5] (World.drew (World.alloc _ _)) _); refine (one_LR _ _ _ [f, f - 20, 0, f + 20, -1] _ 5 rfl (hr5.below (Below.drew (Below.refl w5.heap.size w5)) hr5.lt) (by omega) (by omega) (by omega)).mono ?_; rintro e w7 ⟨first, rfl, hm0, hr7, hg7⟩; have hG7 : w5.grownBy w7 (some (w.heap.size + 2)) := grownBy_trans (grownBy_of_below (Below.drew (Below.refl w5.heap.size w5)) (Nat.le_refl _) _) hg7 (fun x hx => .inl hx); have HK7 := Lib.hid (KC.out _ hG7))
        | (go_at_call 86; (with_reducible show Calls _ _ #[_, Value.slice _ 6 6] (World.alloc _ _) _); refine (one_LR _ _ _ [100, 60, 150, 20, 0, 151] _ 6 rfl hr7 (by omega) (by omega) (by omega)).mono ?_; rintro e w8 ⟨count, rfl, hm1, hr8, hg8⟩; have hG8 : w5.grownBy w8 (some (w.heap.size + 2)) := grownBy_trans hG7 hg8 (fun x hx => .inl hx); have HK8 := Lib.hid (KC.out _ hG8); obtain ⟨⟨z0, t0⟩, ⟨z1, t1⟩, ⟨z2, t2⟩, ⟨z3, t3⟩, fta, ftb⟩ := KX.out _ (grownBy_trans HG5.out hG8 (fun x hx => .inl hx)); have ft0 := fta 0; have ft1 := fta 1; have ft2 := ftb 0; have ft3 := ftb 1; clear fta ftb)
        | (go_at_call 86; (with_reducible show Calls _ _ #[_, Value.slice _ 6 6] _ _); refine (one_h _ (w.heap.size + 2) _ _ [100, 60, 150, 20, 0, 151] hr7 (by omega) HI6b.out (by simp) (by simp)).mono ?_; rintro e w8 ⟨count, rfl, hm1, hr8, hg8⟩; have hG8 : w5.grownBy w8 (some (w.heap.size + 2)) := grownBy_trans hG7 hg8 (fun x hx => .inl hx); have HK8 := Lib.hid (KC.out _ hG8); obtain ⟨⟨z0, t0⟩, ⟨z1, t1⟩, ⟨z2, t2⟩, ⟨z3, t3⟩, fta, ftb⟩ := KX.out _ (grownBy_trans HG5.out hG8 (fun x hx => .inl hx)); have ft0 := fta 0; have ft1 := fta 1; have ft2 := ftb 0; have ft3 := ftb 1; clear fta ftb)))
    all_goals
      have hGl := grownBy_trans HG5.out hG8 (fun x hx => .inl hx)
      have hBl := HB1.out.trans (below_of_grownBy hGl (B := w.heap.size) HB1.out.size (fun k hk => by cases hk; omega))
      have HF : Hid (∀ u1 u2 u3 u4 : Value, DrawSH w (.returned (.tuple #[.agg #[.slice a0 a.cl.length c0, .slice a1 a.st.length c1], .agg #[.slice b0 b.cl.length d0, .slice b1 b.st.length d1], .int .i64 f, .int .i64 first, .int .i64 count])) ((((w8.setCell ⟨w.heap.size, 0, none⟩ u1).setCell ⟨w.heap.size, 1, none⟩ u2).setCell ⟨w.heap.size + 1, 0, none⟩ u3).setCell ⟨w.heap.size + 1, 1, none⟩ u4)) := fun u1 u2 u3 u4 => by
        have h0 := plans_kept (plans_kept (plans_kept (plans_kept ⟨(HPA5.out.grown hG8 (fun q hq => by cases hq; omega)).mono (by omega), (HPB5.out.grown hG8 (fun q hq => by cases hq; omega)).mono (by omega), hBl⟩ w.heap.size 0 (.inl rfl) u1) w.heap.size 1 (.inl rfl) u2) (w.heap.size + 1) 0 (.inr rfl) u3) (w.heap.size + 1) 1 (.inr rfl) u4
        exact ⟨_, _, a, b, f, first, count, rfl, h0.1.mono (by omega), h0.2.1.mono (by omega), h0.2.2⟩
      clear hr7 hg7 hG7 HK7 hr8 hg8 hG8 HK8 hGl hBl
      go_wp2
      exact bodyPost_ret (v := .tuple #[.agg #[.slice a0 a.cl.length c0, .slice a1 a.st.length c1], .agg #[.slice b0 b.cl.length d0, .slice b1 b.st.length d1], .int .i64 f, .int .i64 first, .int .i64 count]) (by simp [results, Try.results42, go_sem, t0, t1, t2, t3, ft0, ft1, ft2, ft3]) rfl (HF.out _ _ _ _)
  · skip
    have wf1 : IntKind.i64.wrap (f - 20) = f - 20 := IntWalk.i64_in _ (by omega)
    have wf2 : IntKind.i64.wrap (f + 20) = f + 20 := IntWalk.i64_in _ (by omega)
    have HBB2 : Hid (Below w5.heap.size w5 ((w5.alloc (.cells (List.map (Value.int .i64) [f, if 20 < f then f - 20 else 0, 0, f + 20, -1]).toArray 3)).alloc (.cells (List.map (Value.int .i64) [100, 60, 150, 20, 0, 151]).toArray 3)).drew) := (((Below.refl w5.heap.size w5).alloc (Nat.le_refl _) _).alloc (by simp) _).drew
    have HR2 := Lib.hid (hr5.below HBB2.out hr5.lt)
    have HI5 : Hid (Ints ((w5.alloc (.cells (List.map (Value.int .i64) [f, if 20 < f then f - 20 else 0, 0, f + 20, -1]).toArray 3)).alloc (.cells (List.map (Value.int .i64) [100, 60, 150, 20, 0, 151]).toArray 3)).drew (w.heap.size + 2 + 1) (.slice (some ⟨w5.heap.size, 0, none⟩) 5 5) [f, if 20 < f then f - 20 else 0, 0, f + 20, -1]) :=
      Rd.drewN (Rd.below (Rd.made w5 (List.map (Value.int .i64) [f, if 20 < f then f - 20 else 0, 0, f + 20, -1]) 3 (w.heap.size + 2 + 1) 1 5 rfl (by omega) (by decide)) ((Below.refl _ _).alloc (Nat.le_refl _) _) (Nat.le_refl _) (by decide)) 1
    have HI6 : Hid (Ints ((w5.alloc (.cells (List.map (Value.int .i64) [f, if 20 < f then f - 20 else 0, 0, f + 20, -1]).toArray 3)).alloc (.cells (List.map (Value.int .i64) [100, 60, 150, 20, 0, 151]).toArray 3)).drew (w.heap.size + 2 + 1) (.slice (some ⟨w5.heap.size + 1, 0, none⟩) 6 6) [100, 60, 150, 20, 0, 151]) := by
      have := Rd.made (w5.alloc (.cells (List.map (Value.int .i64) [f, if 20 < f then f - 20 else 0, 0, f + 20, -1]).toArray 3)) (List.map (Value.int .i64) [100, 60, 150, 20, 0, 151]) 3 (w.heap.size + 2 + 1) 1 6 rfl (by simp; omega) (by decide)
      have e : (w5.alloc (.cells (List.map (Value.int .i64) [f, if 20 < f then f - 20 else 0, 0, f + 20, -1]).toArray 3)).heap.size = w5.heap.size + 1 := by simp
      rw [e] at this
      exact Rd.drewN this 1
    have HBB3 : Hid (Below w5.heap.size w5 ((w5.alloc (.cells (List.map (Value.int .i64) [100, 60, 150, 20, 0, 151]).toArray 3)).alloc (.cells (List.map (Value.int .i64) [f, if 20 < f then f - 20 else 0, 0, f + 20, -1]).toArray 3)).drew) := (((Below.refl w5.heap.size w5).alloc (Nat.le_refl _) _).alloc (by simp) _).drew
    have HR3 := Lib.hid (hr5.below HBB3.out hr5.lt)
    have HI6c : Hid (Ints ((w5.alloc (.cells (List.map (Value.int .i64) [100, 60, 150, 20, 0, 151]).toArray 3)).alloc (.cells (List.map (Value.int .i64) [f, if 20 < f then f - 20 else 0, 0, f + 20, -1]).toArray 3)).drew (w.heap.size + 2 + 1) (.slice (some ⟨w5.heap.size, 0, none⟩) 6 6) [100, 60, 150, 20, 0, 151]) :=
      Rd.drewN (Rd.below (Rd.made w5 (List.map (Value.int .i64) [100, 60, 150, 20, 0, 151]) 3 (w.heap.size + 2 + 1) 1 6 rfl (by omega) (by decide)) ((Below.refl _ _).alloc (Nat.le_refl _) _) (Nat.le_refl _) (by decide)) 1
    have HI5c : Hid (Ints ((w5.alloc (.cells (List.map (Value.int .i64) [100, 60, 150, 20, 0, 151]).toArray 3)).alloc (.cells (List.map (Value.int .i64) [f, if 20 < f then f - 20 else 0, 0, f + 20, -1]).toArray 3)).drew (w.heap.size + 2 + 1) (.slice (some ⟨w5.heap.size + 1, 0, none⟩) 5 5) [f, if 20 < f then f - 20 else 0, 0, f + 20, -1]) := by
      have := Rd.made (w5.alloc (.cells (List.map (Value.int .i64) [100, 60, 150, 20, 0, 151]).toArray 3)) (List.map (Value.int .i64) [f, if 20 < f then f - 20 else 0, 0, f + 20, -1]) 3 (w.heap.size + 2 + 1) 1 5 rfl (by simp; omega) (by decide)
      have e : (w5.alloc (.cells (List.map (Value.int .i64) [100, 60, 150, 20, 0, 151]).toArray 3)).heap.size = w5.heap.size + 1 := by simp
      rw [e] at this
      exact Rd.drewN this 1
    clear hg5 hbk hr3 HK3
    go_wp2_with fail
    go_region_held3 (fun W => (W.cell? ⟨w2.heap.size, 0, none⟩ = some (.slice a0 a.cl.length c0) ∧ W.cell? ⟨w2.heap.size, 1, none⟩ = some (.slice a1 a.st.length c1)) ∧ (W.cell? ⟨w2.heap.size + 1, 0, none⟩ = some (.slice b0 b.cl.length d0) ∧ W.cell? ⟨w2.heap.size + 1, 1, none⟩ = some (.slice b1 b.st.length d1)))
      (first | exact HK8.out | exact HK7.out |  (with_reducible exact KS.out _ _ _ _ (.inl rfl) (KS.out _ _ _ _ (.inl rfl) HK8.out)) | (with_reducible exact KS.out _ _ _ _ (.inr rfl) (KS.out _ _ _ _ (.inr rfl) HK8.out)) | (with_reducible exact KS.out _ _ _ _ (.inr rfl) (KS.out _ _ _ _ (.inr rfl) (KS.out _ _ _ _ (.inl rfl) (KS.out _ _ _ _ (.inl rfl) HK8.out)))) | (with_reducible exact KS.out _ _ _ _ (.inl rfl) (KS.out _ _ _ _ (.inl rfl) (KS.out _ _ _ _ (.inr rfl) (KS.out _ _ _ _ (.inr rfl) HK8.out)))) | exact KC.out _ (grownBy_of_below (Below.drew (Below.refl w5.heap.size w5)) (Nat.le_refl _) _) | assumption | go_keep)
      ((first
        | (go_at_call 86; (with_reducible show Calls _ _ #[_, Value.slice (some ⟨w5.heap.size, 0, none⟩) 5 5] (World.drew (World.alloc (World.alloc _ _) _)) _); refine (one_h _ (w.heap.size + 2) _ _ [f, if 20 < f then f - 20 else 0, 0, f + 20, -1] HR2.out (by omega) HI5.out (by simp) (by simp)).mono ?_; rintro e w7 ⟨first, rfl, hm0, hr7, hg7⟩; have hG7 : w5.grownBy w7 (some (w.heap.size + 2)) := grownBy_trans (grownBy_of_below HBB2.out (Nat.le_refl _) _) hg7 (fun x hx => .inl hx); have HK7 := Lib.hid (KC.out _ hG7); have HI6b := Lib.hid (Rd.grown HI6.out hg7 (fun k hk => .inl (by cases hk; omega)) (by decide)))
        | (go_at_call 86; (with_reducible show Calls _ _ #[_, Value.slice (some ⟨w5.heap.size + 1, 0, none⟩) 5 5] (World.drew (World.alloc (World.alloc _ _) _)) _); refine (one_h _ (w.heap.size + 2) _ _ [f, if 20 < f then f - 20 else 0, 0, f + 20, -1] HR3.out (by omega) HI5c.out (by simp) (by simp)).mono ?_; rintro e w7 ⟨first, rfl, hm0, hr7, hg7⟩; have hG7 : w5.grownBy w7 (some (w.heap.size + 2)) := grownBy_trans (grownBy_of_below HBB3.out (Nat.le_refl _) _) hg7 (fun x hx => .inl hx); have HK7 := Lib.hid (KC.out _ hG7); have HI6b := Lib.hid (Rd.grown HI6c.out hg7 (fun k hk => .inl (by cases hk; omega)) (by decide)))
        | (go_at_call 86; (with_reducible show Calls _ _ #[_, Value.slice _ 5 5] (World.drew (World.alloc _ _)) _); refine (one_LR _ _ _ [f, if 20 < f then f - 20 else 0, 0, f + 20, -1] _ 5 rfl (hr5.below (Below.drew (Below.refl w5.heap.size w5)) hr5.lt) (by omega) (by omega) (by omega)).mono ?_; rintro e w7 ⟨first, rfl, hm0, hr7, hg7⟩; have hG7 : w5.grownBy w7 (some (w.heap.size + 2)) := grownBy_trans (grownBy_of_below (Below.drew (Below.refl w5.heap.size w5)) (Nat.le_refl _) _) hg7 (fun x hx => .inl hx); have HK7 := Lib.hid (KC.out _ hG7))
        | (go_at_call 86; (with_reducible show Calls _ _ #[_, Value.slice _ 6 6] (World.alloc _ _) _); refine (one_LR _ _ _ [100, 60, 150, 20, 0, 151] _ 6 rfl hr7 (by omega) (by omega) (by omega)).mono ?_; rintro e w8 ⟨count, rfl, hm1, hr8, hg8⟩; have hG8 : w5.grownBy w8 (some (w.heap.size + 2)) := grownBy_trans hG7 hg8 (fun x hx => .inl hx); have HK8 := Lib.hid (KC.out _ hG8); obtain ⟨⟨z0, t0⟩, ⟨z1, t1⟩, ⟨z2, t2⟩, ⟨z3, t3⟩, fta, ftb⟩ := KX.out _ (grownBy_trans HG5.out hG8 (fun x hx => .inl hx)); have ft0 := fta 0; have ft1 := fta 1; have ft2 := ftb 0; have ft3 := ftb 1; clear fta ftb)
        | (go_at_call 86; (with_reducible show Calls _ _ #[_, Value.slice _ 6 6] _ _); refine (one_h _ (w.heap.size + 2) _ _ [100, 60, 150, 20, 0, 151] hr7 (by omega) HI6b.out (by simp) (by simp)).mono ?_; rintro e w8 ⟨count, rfl, hm1, hr8, hg8⟩; have hG8 : w5.grownBy w8 (some (w.heap.size + 2)) := grownBy_trans hG7 hg8 (fun x hx => .inl hx); have HK8 := Lib.hid (KC.out _ hG8); obtain ⟨⟨z0, t0⟩, ⟨z1, t1⟩, ⟨z2, t2⟩, ⟨z3, t3⟩, fta, ftb⟩ := KX.out _ (grownBy_trans HG5.out hG8 (fun x hx => .inl hx)); have ft0 := fta 0; have ft1 := fta 1; have ft2 := ftb 0; have ft3 := ftb 1; clear fta ftb)))
    all_goals
      have hGl := grownBy_trans HG5.out hG8 (fun x hx => .inl hx)
      have hBl := HB1.out.trans (below_of_grownBy hGl (B := w.heap.size) HB1.out.size (fun k hk => by cases hk; omega))
      have HF : Hid (∀ u1 u2 u3 u4 : Value, DrawSH w (.returned (.tuple #[.agg #[.slice a0 a.cl.length c0, .slice a1 a.st.length c1], .agg #[.slice b0 b.cl.length d0, .slice b1 b.st.length d1], .int .i64 f, .int .i64 first, .int .i64 count])) ((((w8.setCell ⟨w.heap.size, 0, none⟩ u1).setCell ⟨w.heap.size, 1, none⟩ u2).setCell ⟨w.heap.size + 1, 0, none⟩ u3).setCell ⟨w.heap.size + 1, 1, none⟩ u4)) := fun u1 u2 u3 u4 => by
        have h0 := plans_kept (plans_kept (plans_kept (plans_kept ⟨(HPA5.out.grown hG8 (fun q hq => by cases hq; omega)).mono (by omega), (HPB5.out.grown hG8 (fun q hq => by cases hq; omega)).mono (by omega), hBl⟩ w.heap.size 0 (.inl rfl) u1) w.heap.size 1 (.inl rfl) u2) (w.heap.size + 1) 0 (.inr rfl) u3) (w.heap.size + 1) 1 (.inr rfl) u4
        exact ⟨_, _, a, b, f, first, count, rfl, h0.1.mono (by omega), h0.2.1.mono (by omega), h0.2.2⟩
      clear hr7 hg7 hG7 HK7 hr8 hg8 hG8 HK8 hGl hBl
      go_wp2
      exact bodyPost_ret (v := .tuple #[.agg #[.slice a0 a.cl.length c0, .slice a1 a.st.length c1], .agg #[.slice b0 b.cl.length d0, .slice b1 b.st.length d1], .int .i64 f, .int .i64 first, .int .i64 count]) (by simp [results, Try.results42, go_sem, t0, t1, t2, t3, ft0, ft1, ft2, ft3]) rfl (HF.out _ _ _ _)
end Go.Proofs.Ytokpgipbgkiepaa
