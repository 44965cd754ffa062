/- BestOffsets: the program's. -/
import Derived.Test.YtbojkhmlfflakaaBo10
namespace Go.Proofs.Ytbojkhmlfflakaa
open Go.RowKit
set_option linter.unusedVariables false
set_option linter.unusedSimpArgs false

theorem clone_row (w : World) (lo : Nat) (v : Value) (xs : List Int) (hv : Ints w lo v xs) (hn : xs.length ≤ 1000000) :
    Calls Try.prog 13 #[v] w (RowRet w xs) := by
  obtain ⟨ao, cap, rfl, hcap, hm⟩ := hv.form
  have q22 : ∀ (w : World) (a : Option Addr) (n c n' c' : Nat), (binOp .eql 23 (.slice a n c) (.slice none n' c')).run Try.prog w = .ok (.bool a.isNone) w := fun w a n c n' c' => Lib.run_eql_slice_nil w _ _ a n c n' c' Try.underlying23
  cases ao with
  | none =>
    have hcap0 : cap = 0 := by
      obtain ⟨_, _, _, e, _, _, h, _⟩ := hv
      cases e; exact h rfl
    have h0 : xs = [] := List.eq_nil_of_length_eq_zero (by omega)
    subst h0
    clear hv
    go_enter Try.func13, Try.ntmps13
    go_wp2
    go_ret
    exact ⟨_, rfl, Own.nil _ _ _ _, Below.refl _ _⟩
  | some a =>
    have hO := Own.made w [] 3 w.heap.size 1 0 rfl (Nat.le_refl _) (by decide)
    have hB : Below w.heap.size w (w.alloc (.cells #[] 3)) := (Below.refl _ _).alloc (Nat.le_refl _) _
    have hv1 := Rd.below hv hB (Nat.le_refl _) (by decide)
    have hsz := hB.size
    clear hv
    go_enter Try.func13, Try.ntmps13
    go_wp2_with (at_builtin; refine wpList_append_Own _ rfl _ _ 23 rfl 3 (.int .i64 0) 1 8 Try.underlying23 info_int rfl (by omega) w.heap.size _ _ _ rfl hO _ lo xs.length _ rfl hv1 (by simp; intros; rfl) (by unfold maxLen; omega) (by omega) hsz ?_; intro v' w2 hO2 hg2 _)
    go_ret
    exact ⟨_, rfl, by simpa using hO2, hB.trans (below_of_grownBy hg2 hsz (fun k hk => (hO.wblk hk).1))⟩

/-- The best of the first k ways, and its band. -/
def BS (s : Str) (b0 k : Nat) (W : World) (best most : Value) : Prop :=
  (k = 0 ∧ best = .slice none 0 0 ∧ most = .int .i64 0) ∨ (0 < k ∧ ∃ g cb, best = .slice (some ⟨g, 0, none⟩) s.gr.length cb ∧ Own W (b0 + 1) 3 1 best s.gr.length ((way s (am s k)).map (Value.int .i64)) ∧ most = .int .i64 (tb s (way s (am s k)) : Int))
theorem BS.kept {s : Str} {b0 k : Nat} {W W' : World} {best most : Value} (h : BS s b0 k W best most) (hg : W.grownBy W' (some b0)) : BS s b0 k W' best most := by
  rcases h with h | ⟨h1, g, cb, h2, h3, h4⟩
  · exact .inl h
  · exact .inr ⟨h1, g, cb, h2, h3.grown hg (fun k e => by cases e; left; omega), h4⟩
theorem BS.below {s : Str} {b0 k : Nat} {W W' : World} {best most : Value} (h : BS s b0 k W best most) (hB : Below W.heap.size W W') : BS s b0 k W' best most := by
  rcases h with h | ⟨h1, g, cb, h2, h3, h4⟩
  · exact .inl h
  · exact .inr ⟨h1, g, cb, h2, h3.below hB (Nat.le_refl _), h4⟩
theorem BS.take {s : Str} {b0 k : Nat} {W : World} {g cb lo : Nat} (hO : Own W lo 3 1 (.slice (some ⟨g, 0, none⟩) s.gr.length cb) s.gr.length ((way s k).map (Value.int .i64))) (hl : b0 + 1 ≤ lo) (hw : am s (k + 1) = k) :
    BS s b0 (k + 1) W (.slice (some ⟨g, 0, none⟩) s.gr.length cb) (.int .i64 (tb s (way s k) : Int)) :=
  .inr ⟨by omega, g, cb, rfl, by rw [hw]; exact hO.mono hl, by rw [hw]⟩
theorem setCell_grown (W : World) (g i : Nat) (u : Value) : W.grownBy (W.setCell ⟨g, i, none⟩ u) (some g) :=
  ⟨rfl, rfl, rfl, by simp [World.setCell], fun k _ hk => Below.heap_setCell _ _ _ k (fun e => hk (by rw [e]))⟩
theorem Own.first {w : World} {lo e n : Nat} {v : Value} {cs : List Value} (h : Own w lo e 1 v n cs) (hn : 0 < n) : ∃ g cap, v = .slice (some ⟨g, 0, none⟩) n cap := by
  obtain ⟨ao, cap, rfl, _⟩ := h.form
  obtain ⟨g, rfl, _⟩ := h.parts hn
  exact ⟨g, cap, rfl⟩
theorem ret_rfl (v : Value) : Ending.returned v = .returned v := rfl

set_option maxHeartbeats 16000000 in
theorem impl_best (w : World) (lo : Nat) (v : Value) (s : Str) (hv : StrR w lo v s) :
    Calls Try.prog 5 #[v] w (RowRet w (bestO s)) := by
  have HV0 := Lib.hid hv
  obtain ⟨vg, vt, rfl, hg, ht⟩ := hv
  obtain ⟨ag, cg, rfl, hcg, hmg⟩ := Rd.form hg
  obtain ⟨at', ct, rfl, hct, hmt⟩ := Rd.form ht
  obtain ⟨w0, hw0, hB0, x0, x1, x2, hz0⟩ := str_box w (.int .i64 s.cy) (.slice ag s.gr.length cg) (.slice at' s.tr.length ct)
  have HB0 := Lib.hid hB0
  clear hg ht hB0
  cases hval : validS s
  · have HN : Hid (bestO s = []) := by unfold Hid bestO; rw [if_neg (by rw [hval]; rintro ⟨h, _⟩; cases h)]
    go_enter Try.func5, Try.ntmps5
    go_wp2_with fail
    rw [← hw0]
    clear hw0
    refine (str_valid _ lo _ s (HV0.out.below HB0.out (Nat.le_refl _))).mono ?_; rintro e w1 ⟨rfl, hB1⟩
    rw [hval]
    clear hval
    go_wp2_with fail
    go_ret
    exact ⟨_, rfl, by rw [HN.out]; exact Own.nil _ _ _ _, HB0.out.trans (hB1.mono HB0.out.size)⟩
  have HVAL := Lib.hid hval
  obtain ⟨⟨c1, c30⟩, ⟨g1, g4⟩, htl, _⟩ := validS_iff.1 hval
  have HTL := Lib.hid htl
  obtain ⟨i0, hi, hz0', hz1', hz2'⟩ := info_parts (show (Try.prog.info? 3).map (fun i => (i.zero, i.size, i.bytes)) = some (some (.int .i64 0), 1, 8) by kernel_rfl)
  have q22 : ∀ (w : World) (a : Option Addr) (n c n' c' : Nat), (binOp .eql 23 (.slice a n c) (.slice none n' c')).run Try.prog w = .ok (.bool a.isNone) w := fun w a n c n' c' => Lib.run_eql_slice_nil w _ _ a n c n' c' Try.underlying23
  have HCY : Hid (((s.cy.toNat : Nat) : Int) = s.cy) := by unfold Hid; omega
  go_enter Try.func5, Try.ntmps5
  go_wp2_with fail
  rw [← hw0]
  clear hw0
  refine (str_valid _ lo _ s (HV0.out.below HB0.out (Nat.le_refl _))).mono ?_; rintro e w1 ⟨rfl, hB1⟩
  rw [hval]
  clear hval
  have hT1 := HB0.out.trans (hB1.mono HB0.out.size)
  have hz1 := Nat.lt_of_lt_of_le hz0 hB1.size
  have u0 := (hB1.cell (p := ⟨w.heap.size, 0, none⟩) hz0).trans x0
  have u1 := (hB1.cell (p := ⟨w.heap.size, 1, none⟩) hz0).trans x1
  have u2 := (hB1.cell (p := ⟨w.heap.size, 2, none⟩) hz0).trans x2
  have HT1 := Lib.hid hT1
  clear x0 x1 x2 hB1 hT1
  have htl2 : s.tr.length ≤ 3 := by omega
  go_wp2_with fail
  go_loop [3, 17] (fun ways i => ∃ (k : Nat) (U : Int), k ≤ s.tr.length ∧ i = .int .i64 k ∧ ways = .int .i64 U ∧ Hid (U = ((s.cy.toNat ^ k : Nat) : Int))) (fun ways i => s.tr.length - (intOf i).toNat)
  case atStart => exact ⟨0, 1, Nat.zero_le _, rfl, rfl, by unfold Hid; simp⟩
  case round =>
    obtain ⟨k, U, hk, rfl, rfl, HU⟩ := hrel
    by_cases hlt : k < s.tr.length
    · have hcap := pow_cap (c := s.cy.toNat) (i := k + 1) (n := 3) (by omega) (by omega) (by omega) (Nat.le_refl _)
      have hU2 : U * s.cy = ((s.cy.toNat ^ (k + 1) : Nat) : Int) := by rw [HU.out, pow_step]; rw [Int.natCast_mul, HCY.out]
      obtain ⟨U2, hU⟩ : ∃ U2 : Int, U2 = ((s.cy.toNat ^ (k + 1) : Nat) : Int) := ⟨_, rfl⟩
      have wr1 : IntKind.i64.wrap (U * s.cy) = U2 := by rw [hU2, ← hU]; exact IntWalk.i64_in _ (by omega)
      have HUU := Lib.hid hU
      have hkl : (k : Int) < (s.tr.length : Int) := by omega
      clear hU hU2 hcap
      go_wp2_with fail
      go_round
      case rel => exact ⟨k + 1, U2, by omega, by go_num, rfl, HUU.out⟩
      case measure => simp [intOf]; omega
    · have hkk : k = s.tr.length := by omega
      have hwy : wys s = s.cy.toNat ^ k := by unfold wys; rw [hkk]; congr 1; have := HTL.out; omega
      have hUW : U = (wys s : Int) := by rw [hwy]; exact HU.out
      have hwp := wys_pos HVAL.out
      obtain ⟨K, hK⟩ : ∃ K, K = wys s := ⟨_, rfl⟩
      rw [← hK] at hUW hwp hwy
      have HKK := Lib.hid hK
      clear hK hwy HU
      by_cases h9 : 900 < U
      · have HN : Hid (bestO s = []) := by unfold Hid bestO; rw [if_neg (by rintro ⟨_, h⟩; rw [← HKK.out] at h; omega)]
        go_wp2_with fail
        go_ret
        exact ⟨_, rfl, by rw [HN.out]; exact Own.nil _ _ _ _, HT1.out⟩
      have HN : Hid (bestO s = way s (am s K)) := by unfold Hid bestO; rw [if_pos ⟨HVAL.out, by rw [← HKK.out]; omega⟩, HKK.out]
      clear HKK hkk
      go_wp2_with (at_make; refine wpList_make_full _ rfl _ _ 23 rfl w1.heap.size 3 i0 (.int .i64 0) 1 Try.underlying23 hi hz0' hz1' .i64 .i64 s.gr.length s.gr.length s.gr.length rfl rfl rfl rfl (by rw [hz2']; omega) (by unfold maxLen; omega) (Nat.le_refl _) ?_; intro w2 hown hg2; have hB2 := below_of_grownBy hg2 (Nat.le_refl _) (fun k hk => by cases hk))
      have hO : Own w2 w1.heap.size 3 1 (.slice (some ⟨w1.heap.size, 0, none⟩) s.gr.length s.gr.length) s.gr.length ((List.replicate s.gr.length (0 : Int)).map (Value.int .i64)) := by
        rw [← zeros_map]; exact .inl hown
      clear hown hg2
      go_loopw [4, 5, 31] (fun best most i wo => ∃ (k : Nat) (L : List Int), k ≤ K ∧ i = .int .i64 k ∧ L.length = s.gr.length ∧ Hid (L.getD 0 0 = 0) ∧ Own wo w1.heap.size 3 1 (.slice (some ⟨w1.heap.size, 0, none⟩) s.gr.length s.gr.length) s.gr.length (L.map (Value.int .i64)) ∧ BS s w1.heap.size k wo best most ∧ Below w1.heap.size w1 wo) (fun best most i _ => K - (intOf i).toNat)
      case atStart => exact ⟨0, _, Nat.zero_le _, rfl, by simp, by unfold Hid; simp [show 0 < s.gr.length by omega], hO, .inl ⟨rfl, rfl, rfl⟩, hB2⟩
      case round =>
        clear hO hB2
        obtain ⟨k, L, hk, rfl, hL, HL0, hO, hS, hB⟩ := hrel
        have HS := Lib.hid hS
        clear hS
        by_cases hlt : k < K
        · have hlt2 : (k : Int) < U := by omega
          have wr1 : IntKind.i64.wrap ((s.gr.length : Int) - 1) = ((s.gr.length - 1 : Nat) : Int) := by rw [show (s.gr.length : Int) - 1 = ((s.gr.length - 1 : Nat) : Int) by omega]; exact IntWalk.i64_in _ (by omega)
          go_wp2_with fail
          go_loopw [8, 9] (fun rest i wo => ∃ (j q : Nat) (A : Int), q + j + 1 = s.gr.length ∧ i = .int .i64 q ∧ rest = .int .i64 A ∧ Hid (A = ((k / s.cy.toNat ^ j : Nat) : Int)) ∧ Own wo w1.heap.size 3 1 (.slice (some ⟨w1.heap.size, 0, none⟩) s.gr.length s.gr.length) s.gr.length ((fil L (way s k) j).map (Value.int .i64)) ∧ Hid (BS s w1.heap.size k wo u4 u5) ∧ Below w1.heap.size w1 wo) (fun rest i _ => (intOf i).toNat)
          case atStart => exact ⟨0, s.gr.length - 1, (k : Int), by omega, rfl, rfl, by unfold Hid; simp, by rw [fil_zero (by rw [way_len HVAL.out, hL])]; exact hO, HS, hB⟩
          case round =>
            clear hO HS hB
            obtain ⟨j, q, A, hqj, rfl, rfl, HA, hO, HS, hB⟩ := hrel
            have hT := HT1.out.trans (hB.mono HT1.out.size)
            have y0 := (hB.cell (p := ⟨w.heap.size, 0, none⟩) hz1).trans u0
            have y1 := (hB.cell (p := ⟨w.heap.size, 1, none⟩) hz1).trans u1
            have y2 := (hB.cell (p := ⟨w.heap.size, 2, none⟩) hz1).trans u2
            have hwl := way_len HVAL.out k
            by_cases hq : 0 < q
            · have hA0 : 0 ≤ A ∧ A ≤ 900 := by
                have h1 := HA.out
                have h2 := Nat.div_le_self k (s.cy.toNat ^ j)
                obtain ⟨z, hz⟩ : ∃ z, z = k / s.cy.toNat ^ j := ⟨_, rfl⟩
                rw [← hz] at h1 h2
                omega
              have hwg := way_get HVAL.out k (j := j) (by omega)
              have hA1 : A.tmod s.cy = (((k / s.cy.toNat ^ j) % s.cy.toNat : Nat) : Int) := by
                rw [Int.tmod_eq_emod_of_nonneg hA0.1, HA.out, ← HCY.out]; rfl
              have hA2 : A.tdiv s.cy = ((k / s.cy.toNat ^ (j + 1) : Nat) : Int) := by
                rw [Int.tdiv_eq_ediv_of_nonneg hA0.1, HA.out, ← HCY.out, pow_step, ← Nat.div_div_eq_div_mul]; rfl
              have hb1 : (((k / s.cy.toNat ^ j) % s.cy.toNat : Nat) : Int) ≤ 900 := by
                have h1 := Nat.mod_le (k / s.cy.toNat ^ j) s.cy.toNat
                have h2 := Nat.div_le_self k (s.cy.toNat ^ j)
                obtain ⟨z, hz⟩ : ∃ z, z = (k / s.cy.toNat ^ j) % s.cy.toNat := ⟨_, rfl⟩
                rw [← hz] at h1 ⊢
                have h3 := Nat.le_trans h1 h2
                omega
              have hb2 : ((k / s.cy.toNat ^ (j + 1) : Nat) : Int) ≤ 900 := by
                have h2 := Nat.div_le_self k (s.cy.toNat ^ (j + 1))
                obtain ⟨z, hz⟩ : ∃ z, z = k / s.cy.toNat ^ (j + 1) := ⟨_, rfl⟩
                rw [← hz] at h2 ⊢
                omega
              have hfs := fil_set (L := L) (T := way s k) (by rw [hwl, hL]) (k := j) (by omega) (x := (((k / s.cy.toNat ^ j) % s.cy.toNat : Nat) : Int)) (by rw [hwl, show s.gr.length - 1 - j = s.gr.length - 1 - j from rfl]; exact hwg.symm)
              obtain ⟨m, hm⟩ : ∃ m : Int, m = (((k / s.cy.toNat ^ j) % s.cy.toNat : Nat) : Int) := ⟨_, rfl⟩
              obtain ⟨A2, hA2e⟩ : ∃ A2 : Int, A2 = ((k / s.cy.toNat ^ (j + 1) : Nat) : Int) := ⟨_, rfl⟩
              have HA2 := Lib.hid hA2e
              rw [← hm] at hA1 hb1 hfs
              rw [← hA2e] at hA2 hb2
              have hqe : (way s k).length - 1 - j = q := by omega
              rw [hqe] at hfs
              have hm0 : 0 ≤ m := by rw [hm]; exact Int.natCast_nonneg _
              have hA20 : 0 ≤ A2 := by rw [hA2e]; exact Int.natCast_nonneg _
              have wr2 : IntKind.i64.wrap m = m := IntWalk.i64_in _ (by omega)
              have wr3 : IntKind.i64.wrap A2 = A2 := IntWalk.i64_in _ (by omega)
              have m4 : ¬ s.cy = 0 := by omega
              obtain ⟨p, hp⟩ : ∃ p, p = q - 1 := ⟨_, rfl⟩
              have wr4 : IntKind.i64.wrap ((q : Int) - 1) = (p : Int) := by rw [show (q : Int) - 1 = (p : Int) by omega]; exact IntWalk.i64_in _ (by omega)
              have HP : Hid (p + (j + 1) + 1 = s.gr.length) := by unfold Hid; omega
              clear hp
              obtain ⟨kc, kf, hgl⟩ := ints_cell hO (F := q) (by omega)
              obtain ⟨d, hd⟩ : ∃ d, d = (fil L (way s k) j).getD q 0 := ⟨_, rfl⟩
              rw [← hd] at kc
              have hS1 := hO.store (by omega) q (.int .i64 m)
              rw [← List.map_set, hfs] at hS1
              have HO1 := Lib.hid hS1.1
              have HS1 : Hid (BS s w1.heap.size k (wr.setCell ⟨w1.heap.size, q, none⟩ (.int .i64 m)) u4 u5) := HS.out.kept hS1.2
              have HBC : Hid (Below w1.heap.size w1 (wr.setCell ⟨w1.heap.size, q, none⟩ (.int .i64 m))) := hB.setCell (Nat.le_refl _) _
              have hx0 : (((wr.setCell ⟨w1.heap.size, q, none⟩ (.int .i64 m)).cell? ⟨w.heap.size, 0, none⟩) = some (.int .i64 s.cy)) := (HBC.out.cell (p := ⟨w.heap.size, 0, none⟩) hz1).trans u0
              have hqi : (0 : Int) < (q : Int) := by omega
              have hqn : (q : Int) < (s.gr.length : Int) := by omega
              clear hm hA2e hfs hd hO hS1 hwg HS HA hwl hT hA0 hb1 hb2
              go_wp2_with fail
              go_roundw
              case rel => exact ⟨j + 1, p, A2, HP.out, rfl, rfl, HA2.out, HO1.out, HS1, HBC.out⟩
              case measure => (have h1 := HP.out; simp only [intOf]; omega)
            · have hj : j = (way s k).length - 1 := by omega
              have hfin := fil_but1 (L := L) (T := way s k) (by rw [hwl, hL]) (by omega) (by rw [HL0.out]; rfl)
              rw [hj, hfin] at hO
              have htb := tbO_pos HVAL.out hwl (way_bd HVAL.out k)
              have htl := tb_le s (way s k)
              have htl60 : tb s (way s k) ≤ 60 := by omega
              obtain ⟨N, hN⟩ : ∃ N : Nat, N = tb s (way s k) := ⟨_, rfl⟩
              have HNN := Lib.hid hN
              rw [← hN] at htb htl60
              have HTB := Lib.hid htb
              have HO := Lib.hid hO
              have hI := Own.ints hO hwl
              have HI := Lib.hid hI
              have HWL := Lib.hid hwl
              have hq0 : ¬ (0 : Int) < (q : Int) := by omega
              clear hj hfin htb htl hO hwl hI hN HA HL0
              go_wp2_with fail
              refine (impl_twoWayBand _ 0 _ _ s (way s k) ((HV0.out.below hT (Nat.le_refl _)).mono (Nat.zero_le _)) HI.out).mono ?_; rintro e w4 ⟨rfl, hB4⟩
              rw [HTB.out]
              have hB5 := hB.trans (hB4.mono hB.size)
              have HO5 := Lib.hid (HO.out.below hB4 (Nat.le_refl _))
              have HS5 := HS.out.below hB4
              have hT5 := HT1.out.trans (hB5.mono HT1.out.size)
              have HI5 := Lib.hid (Own.ints HO5.out HWL.out)
              have hln : (way s k).length ≤ 1000000 := by rw [HWL.out]; omega
              have HB5 := Lib.hid hB5
              clear HI HO HS hT hB hB4
              have hsz5 := HB5.out.size
              rcases HS5 with ⟨rfl, e4, e5⟩ | ⟨hk0, g, cb, e4, HS5, e5⟩
              · subst e4 e5
                have ham : am s (0 + 1) = 0 := by simp [am]
                go_wp2_with (go_at_call 13; refine (clone_row _ 0 _ (way s 0) HI5.out hln).mono ?_; rintro e w5 ⟨vc, rfl, hOc, hBc⟩)
                rw [HWL.out] at hOc
                obtain ⟨gc, cc, rfl⟩ := hOc.first (by omega)
                have HBS : Hid (BS s w1.heap.size (0 + 1) w5 (.slice (some ⟨gc, 0, none⟩) s.gr.length cc) (.int .i64 (N : Int))) := by
                  unfold Hid; rw [HNN.out]; exact BS.take hOc (by have := (HO5.out.parts (by omega)); obtain ⟨g, hg, _, h, _⟩ := this; cases hg; exact h) ham
                have HO6 := Lib.hid (HO5.out.below hBc (Nat.le_refl _))
                have HB6 := Lib.hid (HB5.out.trans (hBc.mono hsz5))
                clear hOc hBc ham
                go_wp2_with fail
                go_roundw
                case rel => exact ⟨1, way s 0, by omega, by go_num, HWL.out, by unfold Hid; rfl, HO6.out, HBS.out, HB6.out⟩
                case measure => simp only [intOf]; omega
              · subst e4
                obtain ⟨M, hM⟩ : ∃ M : Nat, M = tb s (way s (am s k)) := ⟨_, rfl⟩
                rw [← hM] at e5
                subst e5
                have HS6 := Lib.hid HS5
                clear HS5
                have hsome : (some (⟨g, 0, none⟩ : Addr)).isNone = false := rfl
                by_cases hMN : M < N
                · have ham : am s (k + 1) = k := by simp only [am]; rw [← hM, ← HNN.out, if_pos hMN]
                  have hd1 : decide ((M : Int) < (N : Int)) = true := by simp; exact hMN
                  clear hM
                  go_wp2_with (go_at_call 13; refine (clone_row _ 0 _ (way s k) HI5.out hln).mono ?_; rintro e w5 ⟨vc, rfl, hOc, hBc⟩)
                  rw [HWL.out] at hOc
                  obtain ⟨gc, cc, rfl⟩ := hOc.first (by omega)
                  have HBS : Hid (BS s w1.heap.size (k + 1) w5 (.slice (some ⟨gc, 0, none⟩) s.gr.length cc) (.int .i64 (N : Int))) := by
                    unfold Hid; rw [HNN.out]; exact BS.take hOc (by have := (HO5.out.parts (by omega)); obtain ⟨g, hg, _, h, _⟩ := this; cases hg; exact h) ham
                  have HO6 := Lib.hid (HO5.out.below hBc (Nat.le_refl _))
                  have HB6 := Lib.hid (HB5.out.trans (hBc.mono hsz5))
                  clear hOc hBc ham
                  go_wp2_with fail
                  go_roundw
                  case rel => exact ⟨k + 1, way s k, by omega, by go_num, HWL.out, by unfold Hid; rfl, HO6.out, HBS.out, HB6.out⟩
                  case measure => simp only [intOf]; omega
                · have ham : am s (k + 1) = am s k := by simp only [am]; rw [← hM, ← HNN.out, if_neg hMN]
                  have hd1 : decide ((M : Int) < (N : Int)) = false := by simp; omega
                  have HBS : Hid (BS s w1.heap.size (k + 1) w4 (.slice (some ⟨g, 0, none⟩) s.gr.length cb) (.int .i64 (M : Int))) := by
                    unfold Hid; rw [hM]; exact .inr ⟨by omega, g, cb, rfl, by rw [ham]; exact HS6.out, by rw [ham]⟩
                  clear hM ham
                  go_wp2_with fail
                  go_roundw
                  case rel => exact ⟨k + 1, way s k, by omega, by go_num, HWL.out, by unfold Hid; rfl, HO5.out, HBS.out, HB5.out⟩
                  case measure => simp only [intOf]; omega
        · have hkK : k = K := by omega
          subst hkK
          rcases HS.out with ⟨h0, _⟩ | ⟨_, g, cb, e4, HS5, e5⟩
          · omega
          subst e4
          have hT := HT1.out.trans (hB.mono HT1.out.size)
          have HX := Lib.hid (HS5.mono (lo' := w.heap.size) (by omega))
          clear HS5 hO HS
          go_wp2_with fail
          go_ret
          exact ⟨_, rfl, by rw [HN.out, way_len HVAL.out]; exact HX.out, hT⟩
end Go.Proofs.Ytbojkhmlfflakaa
