/- BestOffsets: the reference's. -/
import Derived.Test.YtbojkhmlfflakaaBo16
namespace Go.Proofs.Ytbojkhmlfflakaa
open Go.RowKit
set_option linter.unusedVariables false
set_option linter.unusedSimpArgs false

theorem rd_len {w : World} {lo m n : Nat} {v : Value} {cs : List Value} (h : Rd w lo v 1 m cs) (e : m = n) : Rd w 0 v 1 n cs := by subst e; exact h.mono (Nat.zero_le _)
def IntsRet (w : World) (xs : List Int) (e : Ending) (w' : World) : Prop := ∃ v', e = .returned v' ∧ Ints w' 0 v' xs ∧ Below w.heap.size w w'

set_option maxHeartbeats 16000000 in
theorem spec_best (w : World) (lo : Nat) (v : Value) (s : Str) (hv : StrR w lo v s) :
    Calls Try.prog 7 #[v] w (IntsRet w (bestO s)) := by
  have HV0 := Lib.hid hv
  obtain ⟨vg, vt, rfl, hg, ht⟩ := hv
  obtain ⟨ag, cg, rfl, hcg, hmg⟩ := Rd.form hg
  obtain ⟨at', ct, rfl, hct, hmt⟩ := Rd.form ht
  obtain ⟨w0, hw0, hB0, x0, x1, x2, hz0⟩ := str_box w (.int .i64 s.cy) (.slice ag s.gr.length cg) (.slice at' s.tr.length ct)
  have HB0 := Lib.hid hB0
  clear hg ht hB0
  cases hval : validS s
  · have HN : Hid (bestO s = []) := by unfold Hid bestO; rw [if_neg (by rw [hval]; rintro ⟨h, _⟩; cases h)]
    go_enter Try.func7, Try.ntmps7
    go_wp2_with fail
    rw [← hw0]
    clear hw0
    refine (spec_validStreet _ lo _ s (HV0.out.below HB0.out (Nat.le_refl _))).mono ?_; rintro e w1 ⟨rfl, hB1⟩
    rw [hval]
    clear hval
    go_wp2_with fail
    go_ret
    exact ⟨_, rfl, by rw [HN.out]; exact Rd.nil _ _ _, HB0.out.trans (hB1.mono HB0.out.size)⟩
  have HVAL := Lib.hid hval
  obtain ⟨⟨c1, c30⟩, ⟨g1, g4⟩, htl, _⟩ := validS_iff.1 hval
  have HTL := Lib.hid htl
  obtain ⟨i0, hi, hz0', hz1', hz2'⟩ := info_parts (show (Try.prog.info? 3).map (fun i => (i.zero, i.size, i.bytes)) = some (some (.int .i64 0), 1, 8) by kernel_rfl)
  have hcc : s.cy = ((s.cy.toNat : Nat) : Int) := by omega
  have HCC := Lib.hid hcc
  have hc30 : s.cy.toNat ≤ 30 := by omega
  have hc1 : 1 ≤ s.cy.toNat := by omega
  obtain ⟨n, hn⟩ : ∃ n, n = s.gr.length - 1 := ⟨_, rfl⟩
  have hn3 : n ≤ 3 := by omega
  have wrn : IntKind.i64.wrap ((s.gr.length : Int) - 1) = (n : Int) := by rw [show (s.gr.length : Int) - 1 = (n : Int) by omega]; exact IntWalk.i64_in _ (by omega)
  obtain ⟨K, hK⟩ : ∃ K, K = wys s := ⟨_, rfl⟩
  have hKp : s.cy.toNat ^ n = K := by rw [hK, hn]; rfl
  have hwp : 1 ≤ K := by rw [hK]; exact wys_pos hval
  have HKP := Lib.hid hKp
  have HKK := Lib.hid hK
  have HNG : Hid (n + 1 = s.gr.length) := by unfold Hid; omega
  have hK27 : K ≤ 27000 := by rw [← hKp]; exact pow_cap hc1 hc30 hn3 (Nat.le_refl _)
  clear hcc hn hK hKp htl
  go_enter Try.func7, Try.ntmps7
  go_wp2_with fail
  rw [← hw0]
  clear hw0
  refine (spec_validStreet _ lo _ s (HV0.out.below HB0.out (Nat.le_refl _))).mono ?_; rintro e w1 ⟨rfl, hB1⟩
  rw [hval]
  clear hval
  have hT1 := HB0.out.trans (hB1.mono HB0.out.size)
  have hz1 := Nat.lt_of_lt_of_le hz0 hB1.size
  have t0 := (hB1.cell (p := ⟨w.heap.size, 0, none⟩) hz0).trans x0
  have t1 := (hB1.cell (p := ⟨w.heap.size, 1, none⟩) hz0).trans x1
  have t2 := (hB1.cell (p := ⟨w.heap.size, 2, none⟩) hz0).trans x2
  have HT1 := Lib.hid hT1
  clear x0 x1 x2 hB1 hT1
  by_cases h9 : (900 : Int) < (K : Int)
  · have HN : Hid (bestO s = []) := by unfold Hid bestO; rw [if_neg (by rintro ⟨_, h⟩; rw [← HKK.out] at h; omega)]
    have h9b : decide ((900 : Int) < (K : Int)) = true := decide_eq_true h9
    go_wp2_with (go_at_call 15; refine (spec_power _ s.cy s.cy.toNat n HCC.out hc1 hc30 hn3).mono ?_; rintro e w2 ⟨rfl, rfl⟩; rw [HKP.out])
    go_ret
    exact ⟨_, rfl, by rw [HN.out]; exact Rd.nil _ _ _, HT1.out⟩
  have HN : Hid (bestO s = way s (am s K)) := by unfold Hid bestO; rw [if_pos ⟨HVAL.out, by rw [← HKK.out]; omega⟩, HKK.out]
  have h9b : decide ((900 : Int) < (K : Int)) = false := decide_eq_false h9
  go_wp2_with (first
    | (go_at_call 15; refine (spec_power _ s.cy s.cy.toNat n HCC.out hc1 hc30 hn3).mono ?_; rintro e w2 ⟨rfl, rfl⟩; rw [HKP.out])
    | (at_make; refine wpList_make_full _ rfl _ _ 23 rfl w1.heap.size 3 i0 (.int .i64 0) 1 Try.underlying23 hi hz0' hz1' .i64 .i64 s.gr.length s.gr.length s.gr.length rfl rfl rfl rfl (by rw [hz2']; omega) (by unfold maxLen; omega) (Nat.le_refl _) ?_; intro w2 hown hg2; have hB2 := below_of_grownBy hg2 (Nat.le_refl _) (fun k hk => by cases hk)))
  have hI : Ints w2 0 (.slice (some ⟨w1.heap.size, 0, none⟩) s.gr.length s.gr.length) (way s (am s 1)) := by
    have hO : Own w2 w1.heap.size 3 1 (.slice (some ⟨w1.heap.size, 0, none⟩) s.gr.length s.gr.length) s.gr.length ((List.replicate s.gr.length (0 : Int)).map (Value.int .i64)) := by
      rw [← zeros_map]; exact .inl hown
    rw [show am s 1 = 0 by simp [am], way_zero HVAL.out]
    exact hO.ints (by simp)
  clear hown hg2
  go_loopw [3, 4] (fun best i wo => ∃ k : Nat, 1 ≤ k ∧ k ≤ K ∧ i = .int .i64 k ∧ Ints wo 0 best (way s (am s k)) ∧ Below w1.heap.size w1 wo) (fun best i _ => K - (intOf i).toNat)
  case atStart => exact ⟨1, Nat.le_refl _, hwp, rfl, hI, hB2⟩
  case round =>
    clear hI hB2
    obtain ⟨k, hk1, hk, rfl, hJ, hB⟩ := hrel
    have hT := HT1.out.trans (hB.mono HT1.out.size)
    have y0 := (hB.cell (p := ⟨w.heap.size, 0, none⟩) hz1).trans t0
    have y1 := (hB.cell (p := ⟨w.heap.size, 1, none⟩) hz1).trans t1
    have y2 := (hB.cell (p := ⟨w.heap.size, 2, none⟩) hz1).trans t2
    have HJ := Lib.hid hJ
    clear hJ
    by_cases hlt : k < K
    · have hn0 : 0 < n := by
        rcases Nat.eq_zero_or_pos n with h | h
        · have := HKP.out; rw [h] at this; simp at this; omega
        · exact h
      have hO1 := Own.made wr [.int .i64 0] 3 wr.heap.size 1 1 rfl (Nat.le_refl _) (by decide)
      have hBm : Below wr.heap.size wr (wr.alloc (.cells #[.int .i64 0] 3)) := (Below.refl _ _).alloc (Nat.le_refl _) _
      have HO1 := Lib.hid hO1
      have HBM := Lib.hid hBm
      have hlen1 : 1 + n = s.gr.length := by have := HNG.out; omega
      have HL1 := Lib.hid hlen1
      have hx9 : k ≤ 900 := by omega
      have KX : Hid (∀ W, Below w1.heap.size w1 W → (W.cell? ⟨w.heap.size, 0, none⟩ = some (.int .i64 s.cy) ∧ W.cell? ⟨w.heap.size, 1, none⟩ = some (.slice ag s.gr.length cg) ∧ W.cell? ⟨w.heap.size, 2, none⟩ = some (.slice at' s.tr.length ct))) := fun W h => ⟨(h.cell (p := ⟨w.heap.size, 0, none⟩) hz1).trans t0, (h.cell (p := ⟨w.heap.size, 1, none⟩) hz1).trans t1, (h.cell (p := ⟨w.heap.size, 2, none⟩) hz1).trans t2⟩
      have a0 : (wr.alloc (.cells #[.int .i64 0] 3)).cell? ⟨w.heap.size, 0, none⟩ = some (.int .i64 s.cy) := (KX.out _ (hB.trans (HBM.out.mono hB.size))).1
      have a1 : (wr.alloc (.cells #[.int .i64 0] 3)).cell? ⟨w.heap.size, 1, none⟩ = some (.slice ag s.gr.length cg) := (KX.out _ (hB.trans (HBM.out.mono hB.size))).2.1
      clear hO1 hBm hlen1
      go_wp2_with (first
        | (go_at_call 15; refine (spec_power _ s.cy s.cy.toNat n HCC.out hc1 hc30 hn3).mono ?_; rintro e w2 ⟨rfl, rfl⟩; rw [HKP.out])
        | (go_at_call 16; refine (spec_digits _ s.cy s.cy.toNat n k HCC.out hc1 hc30 hn0 hn3 hx9).mono ?_; rintro e w5 ⟨vd, rfl, hOd, hBd⟩; have hO5 := HO1.out.below hBd (Nat.le_refl _); have hId : Rd w5 0 vd 1 n ((dgs s.cy.toNat n k).map (Value.int .i64)) := rd_len hOd.rd (dgs_len _ _ _); have hB5 := HBM.out.trans (hBd.mono HBM.out.size); have hsz5 := hB5.size)
        | (at_builtin; refine wpList_append_Own _ rfl _ _ 23 rfl 3 (.int .i64 0) 1 8 Try.underlying23 info_int rfl (by omega) wr.heap.size _ _ _ rfl hO5 _ 0 n _ rfl hId (by simp; intros; rfl) (by unfold maxLen; omega) (by omega) hsz5 ?_; intro v6 w6 hO6 hg6 _))
      have hB6 := hB.trans ((hB5.trans (below_of_grownBy hg6 hsz5 (fun q hq => (hO5.wblk hq).1))).mono hB.size)
      have hI6 : Ints w6 0 v6 (way s k) := by
        have h1 : Own w6 wr.heap.size 3 1 v6 (1 + n) ((way s k).map (Value.int .i64)) := by
          have e1 : (way s k).map (Value.int .i64) = [.int .i64 0] ++ (dgs s.cy.toNat n k).map (Value.int .i64) := by
            unfold way; rw [show s.gr.length - 1 = n by have := HNG.out; omega]; rfl
          rw [e1]; exact hO6
        exact h1.ints (by rw [way_len HVAL.out, HL1.out])
      have hJ6 : Ints w6 0 u3 (way s (am s k)) := Rd.below HJ.out (hB5.trans (below_of_grownBy hg6 hsz5 (fun q hq => (hO5.wblk hq).1))) (Nat.le_refl _) (by decide)
      have HB6 := Lib.hid hB6
      have hT6 := HT1.out.trans (hB6.mono HT1.out.size)
      have KS : Hid (∀ W, Below w6.heap.size w6 W → (W.cell? ⟨w.heap.size, 0, none⟩ = some (.int .i64 s.cy) ∧ W.cell? ⟨w.heap.size, 1, none⟩ = some (.slice ag s.gr.length cg) ∧ W.cell? ⟨w.heap.size, 2, none⟩ = some (.slice at' s.tr.length ct))) := fun W h => KX.out W (HB6.out.trans (h.mono HB6.out.size))
      have KV : Hid (∀ W, Below w6.heap.size w6 W → StrR W 0 (Value.agg #[Value.int IntKind.i64 s.cy, Value.slice ag s.gr.length cg, Value.slice at' s.tr.length ct]) s) := fun W h => (HV0.out.below (hT6.trans (h.mono hT6.size)) (Nat.le_refl _)).mono (Nat.zero_le _)
      have KI : Hid (∀ W, Below w6.heap.size w6 W → Ints W 0 v6 (way s k)) := fun W h => Rd.below hI6 h (Nat.le_refl _) (by decide)
      have KJ : Hid (∀ W, Below w6.heap.size w6 W → Ints W 0 u3 (way s (am s k))) := fun W h => Rd.below hJ6 h (Nat.le_refl _) (by decide)
      have hokw : ∀ x, offOk s (way s x) = true := fun x => offOk_iff.2 ⟨HVAL.out, way_len HVAL.out x, fun y hy => by have := way_bd HVAL.out x y hy; omega⟩
      have HOK1 := Lib.hid (hokw k)
      have HOK2 := Lib.hid (hokw (am s k))
      obtain ⟨N1, hN1⟩ : ∃ N1 : Int, N1 = (tb s (way s k) : Int) := ⟨_, rfl⟩
      obtain ⟨N2, hN2⟩ : ∃ N2 : Int, N2 = (tb s (way s (am s k)) : Int) := ⟨_, rfl⟩
      have hN12 : N2 < N1 ↔ tb s (way s (am s k)) < tb s (way s k) := by omega
      have HN1 := Lib.hid hN1
      have HN2 := Lib.hid hN2
      have BB6 : Below w6.heap.size w6 w6 := Below.refl _ _
      have k0 := (KS.out w6 BB6).1
      have k1 := (KS.out w6 BB6).2.1
      have k2 := (KS.out w6 BB6).2.2
      clear hO5 hId hB5 hsz5 hOd hBd hO6 hg6 hB6 hI6 hJ6 hT6 hokw hN1 hN2 KX HO1 HBM a0 a1 hT y0 y1 y2 hB
      by_cases hnn : N2 < N1
      · have HAM : Hid (am s (k + 1) = k) := by unfold Hid; simp only [am]; rw [if_pos (hN12.1 hnn)]
        have hnb : decide (N2 < N1) = true := decide_eq_true hnn
        clear hN12
        go_wp2_with fail
        go_region_held3 (fun W => W.cell? ⟨w.heap.size, 0, none⟩ = some (.int .i64 s.cy) ∧ W.cell? ⟨w.heap.size, 1, none⟩ = some (.slice ag s.gr.length cg) ∧ W.cell? ⟨w.heap.size, 2, none⟩ = some (.slice at' s.tr.length ct))
          ((refine KS.out _ ?_; (first | assumption | exact Below.drew (by assumption))))
          ((first
            | (go_at_call 17; (with_reducible show Calls _ _ #[_, v6] _ _); refine (spec_both _ 0 _ _ s (way s k) (KV.out _ ?_) (KI.out _ ?_) HOK1.out).mono ?_; (first | assumption | exact Below.drew (by assumption)); (first | assumption | exact Below.drew (by assumption)); rintro e wx ⟨rfl, hBx⟩; rw [← HN1.out]; have Bwx : Below w6.heap.size w6 wx := Below.trans (by first | assumption | exact Below.drew (by assumption)) (hBx.mono (Below.size (B := w6.heap.size) (w := w6) (by first | assumption | exact Below.drew (by assumption)))))
            | (go_at_call 17; (with_reducible show Calls _ _ #[_, u3] _ _); refine (spec_both _ 0 _ _ s (way s (am s k)) (KV.out _ ?_) (KJ.out _ ?_) HOK2.out).mono ?_; (first | assumption | exact Below.drew (by assumption)); (first | assumption | exact Below.drew (by assumption)); rintro e wy ⟨rfl, hBy⟩; rw [← HN2.out]; have Bwy : Below w6.heap.size w6 wy := Below.trans (by first | assumption | exact Below.drew (by assumption)) (hBy.mono (Below.size (B := w6.heap.size) (w := w6) (by first | assumption | exact Below.drew (by assumption)))))))
        all_goals go_wp2_with fail
        all_goals go_roundw
        all_goals first
          | (case rel => exact ⟨k + 1, by omega, by omega, by go_num, by rw [HAM.out]; exact KI.out _ (by first | assumption | exact Below.drew (by assumption)), HB6.out.trans (Below.mono (by first | assumption | exact Below.drew (by assumption)) HB6.out.size)⟩)
          | (case measure => simp only [intOf]; omega)
          | (exact ⟨k + 1, by omega, by omega, by go_num, by rw [HAM.out]; exact KI.out _ (by first | assumption | exact Below.drew (by assumption)), HB6.out.trans (Below.mono (by first | assumption | exact Below.drew (by assumption)) HB6.out.size)⟩)
          | (simp only [intOf]; omega)
      · have HAM : Hid (am s (k + 1) = am s k) := by unfold Hid; simp only [am]; rw [if_neg (fun h => hnn (hN12.2 h))]
        have hnb : decide (N2 < N1) = false := decide_eq_false hnn
        clear hN12
        go_wp2_with fail
        go_region_held3 (fun W => W.cell? ⟨w.heap.size, 0, none⟩ = some (.int .i64 s.cy) ∧ W.cell? ⟨w.heap.size, 1, none⟩ = some (.slice ag s.gr.length cg) ∧ W.cell? ⟨w.heap.size, 2, none⟩ = some (.slice at' s.tr.length ct))
          ((refine KS.out _ ?_; (first | assumption | exact Below.drew (by assumption))))
          ((first
            | (go_at_call 17; (with_reducible show Calls _ _ #[_, v6] _ _); refine (spec_both _ 0 _ _ s (way s k) (KV.out _ ?_) (KI.out _ ?_) HOK1.out).mono ?_; (first | assumption | exact Below.drew (by assumption)); (first | assumption | exact Below.drew (by assumption)); rintro e wx ⟨rfl, hBx⟩; rw [← HN1.out]; have Bwx : Below w6.heap.size w6 wx := Below.trans (by first | assumption | exact Below.drew (by assumption)) (hBx.mono (Below.size (B := w6.heap.size) (w := w6) (by first | assumption | exact Below.drew (by assumption)))))
            | (go_at_call 17; (with_reducible show Calls _ _ #[_, u3] _ _); refine (spec_both _ 0 _ _ s (way s (am s k)) (KV.out _ ?_) (KJ.out _ ?_) HOK2.out).mono ?_; (first | assumption | exact Below.drew (by assumption)); (first | assumption | exact Below.drew (by assumption)); rintro e wy ⟨rfl, hBy⟩; rw [← HN2.out]; have Bwy : Below w6.heap.size w6 wy := Below.trans (by first | assumption | exact Below.drew (by assumption)) (hBy.mono (Below.size (B := w6.heap.size) (w := w6) (by first | assumption | exact Below.drew (by assumption)))))))
        all_goals go_wp2_with fail
        all_goals go_roundw
        all_goals first
          | (case rel => exact ⟨k + 1, by omega, by omega, by go_num, by rw [HAM.out]; exact KJ.out _ (by first | assumption | exact Below.drew (by assumption)), HB6.out.trans (Below.mono (by first | assumption | exact Below.drew (by assumption)) HB6.out.size)⟩)
          | (case measure => simp only [intOf]; omega)
          | (exact ⟨k + 1, by omega, by omega, by go_num, by rw [HAM.out]; exact KJ.out _ (by first | assumption | exact Below.drew (by assumption)), HB6.out.trans (Below.mono (by first | assumption | exact Below.drew (by assumption)) HB6.out.size)⟩)
          | (simp only [intOf]; omega)
    · obtain rfl : k = K := by omega
      go_wp2_with (go_at_call 15; refine (spec_power _ s.cy s.cy.toNat n HCC.out hc1 hc30 hn3).mono ?_; rintro e w2 ⟨rfl, rfl⟩; rw [HKP.out])
      go_ret
      exact ⟨_, rfl, by rw [HN.out]; exact HJ.out, hT⟩
end Go.Proofs.Ytbojkhmlfflakaa
