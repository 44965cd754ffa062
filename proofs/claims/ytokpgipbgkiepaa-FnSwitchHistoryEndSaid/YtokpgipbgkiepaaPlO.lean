/- slices.Clone, greenIn, GreenAt: the program's. -/
import Derived.Test.YtokpgipbgkiepaaPlN
import Derived.Test.YtokpgipbgkiepaaSpoil
namespace Go.Proofs.Ytokpgipbgkiepaa
open Go.RowKit
set_option linter.unusedVariables false
set_option linter.unusedSimpArgs false

def OwnRet (w : World) (xs : List Int) (e : Ending) (w' : World) : Prop := ∃ v', e = .returned v' ∧ Own w' w.heap.size 3 1 v' xs.length (xs.map (.int .i64)) ∧ Below w.heap.size w w'
theorem clone_any (w : World) (lo : Nat) (v : Value) (xs : List Int) (hv : Ints w lo v xs) (hn : xs.length ≤ 1000000) :
    Calls Try.prog 76 #[v] w (OwnRet w xs) := by
  obtain ⟨ao, cap, rfl, hcap, hm⟩ := hv.form
  have q22 : ∀ (w : World) (a : Option Addr) (n c n' c' : Nat), (binOp .eql 27 (.slice a n c) (.slice none n' c')).run Try.prog w = .ok (.bool a.isNone) w := fun w a n c n' c' => Lib.run_eql_slice_nil w _ _ a n c n' c' Try.underlying27
  cases ao with
  | none =>
    have hcap0 : cap = 0 := by
      obtain ⟨_, _, _, e, _, _, h, _⟩ := hv
      cases e; exact h rfl
    have h0 : xs = [] := List.eq_nil_of_length_eq_zero (by omega)
    subst h0
    clear hv
    go_enter Try.func76, Try.ntmps76
    go_wp2
    go_ret
    exact ⟨_, rfl, Own.nil _ _ _ _, Below.refl _ _⟩
  | some a =>
    have hO := Own.made w [] 3 w.heap.size 1 0 rfl (Nat.le_refl _) (by decide)
    have hB : Below w.heap.size w (w.alloc (.cells #[] 3)) := (Below.refl _ _).alloc (Nat.le_refl _) _
    have hv1 := Rd.below hv hB (Nat.le_refl _) (by decide)
    have hsz := hB.size
    clear hv
    go_enter Try.func76, Try.ntmps76
    go_wp2_with (at_builtin; refine wpList_append_Own _ rfl _ _ 27 rfl 3 (.int .i64 0) 1 8 Try.underlying27 info_int rfl (by omega) w.heap.size _ _ _ rfl hO _ lo xs.length _ rfl hv1 (by simp; intros; rfl) (by unfold maxLen; omega) (by omega) hsz ?_; intro v' w2 hO2 hg2 _)
    go_ret
    exact ⟨_, rfl, by simpa using hO2, hB.trans (below_of_grownBy hg2 hsz (fun k hk => (hO.wblk hk).1))⟩

theorem movesB_len {xs : List Int} {n : Int} (h : movesB xs n = true) (hn : 0 ≤ n) : (xs.length : Int) ≤ n := by
  have h' := h
  unfold movesB at h'
  rw [Bool.and_eq_true] at h'
  have ha := ascB_iff.1 h'.2
  have key : ∀ i, i < xs.length → (i : Int) ≤ xs.getD i 0 := by
    intro i
    induction i with
    | zero => intro hi; exact (movesB_in h hi).1
    | succ i ih =>
      intro hi
      have a := ih (by omega)
      rcases ha (i + 1) hi with e | e
      · omega
      · rw [Nat.add_sub_cancel] at e; omega
  by_cases h0 : xs.length = 0
  · omega
  · have a := key (xs.length - 1) (by omega)
    have b := movesB_in h (i := xs.length - 1) (by omega)
    omega
theorem beg0 (p : Pln) : beg p 0 = 0 := rfl
theorem filter_snoc (l : List Int) (q : Int → Bool) (k : Nat) (hk : k < l.length) : (l.take (k + 1)).filter q = (l.take k).filter q ++ if q (l.getD k 0) then [l.getD k 0] else [] := by
  have : l.take (k + 1) = l.take k ++ [l.getD k 0] := by
    rw [List.take_succ_eq_append_getElem hk]; simp [hk]
  rw [this, List.filter_append, List.filter_cons, List.filter_nil]

def GrnRet (w : World) (xs : List Int) (e : Ending) (w' : World) : Prop := ∃ v', e = .returned v' ∧ Ints w' 0 v' xs ∧ Below w.heap.size w w'
set_option maxHeartbeats 8000000 in
theorem plan_greenIn (w : World) (lo : Nat) (vp : Value) (p : Pln) (s : Int) (hp : PlanR w lo vp p) (hval : validP p = true) (hs0 : 0 ≤ s) (hs1 : s < cyc p) :
    Calls Try.prog 95 #[vp, .int .i64 s] w (GrnRet w (grn p s)) := by
  have hp0 := hp
  obtain ⟨vc, vs, rfl, hc, hs⟩ := hp
  obtain ⟨hvc, h1, h5, _⟩ := validP_iff.1 hval
  have hcl8 := (validCl_iff.1 hvc).2.1
  obtain ⟨ao, cap, rfl, hcap, hm⟩ := hs.form
  obtain ⟨aoc, capc, rfl, hcapc, hmc⟩ := hc.form
  obtain ⟨b, off, rfl, _, hb, hx⟩ := hs.spot (by omega)
  have HX := Lib.hid hx
  have HP0 := Lib.hid hp0
  have HV := Lib.hid hval
  have HS1 := Lib.hid hs1
  have hcb := cyc_bd hval
  obtain ⟨w0, hw0, hB0, x0, x1, hz0⟩ := plan_box w (.slice aoc p.cl.length capc) (.slice (some ⟨b, off, none⟩) p.st.length cap)
  have HB0 := Lib.hid hB0
  have wr0 : IntKind.i64.wrap ((p.st.length : Int) - 1) = (p.st.length : Int) - 1 := IntWalk.i64_in _ (by omega)
  have hl1 : (p.st.length : Int) - 1 = ((p.st.length - 1 : Nat) : Int) := by omega
  have hs225 : s ≤ 225 := by omega
  clear hp0 hc hs hB0 hx hval hvc hs1 hcb
  go_enter Try.func95, Try.ntmps95
  go_wp2_with fail
  rw [← hw0]
  clear hw0
  go_loopw [5] (fun i wo => ∃ k : Nat, k < p.st.length ∧ i = .int .i64 k ∧ Hid (s < beg p (k + 1)) ∧ Below w0.heap.size w0 wo) (fun i _ => (intOf i).toNat)
  case atStart => exact ⟨p.st.length - 1, by omega, by first | rfl | rw [hl1], by unfold Hid; rw [Nat.sub_add_cancel h1]; exact HS1.out, Below.refl _ _⟩
  case round =>
    obtain ⟨k, hk, rfl, HK, hB⟩ := hrel
    have hT := HB0.out.trans (hB.mono HB0.out.size)
    have u0 := (hB.cell (p := ⟨w.heap.size, 0, none⟩) hz0).trans x0
    have u1 := (hB.cell (p := ⟨w.heap.size, 1, none⟩) hz0).trans x1
    have hbk := beg_bd HV.out k (by omega)
    by_cases hgt : s < beg p k
    · have hk0 : 0 < k := by
        rcases Nat.eq_zero_or_pos k with h | h
        · subst h; rw [beg0] at hgt; omega
        · exact h
      have HG := Lib.hid hgt
      have dg : decide (s < beg p k) = true := decide_eq_true hgt
      have hk1 : (k : Int) - 1 = ((k - 1 : Nat) : Int) := by omega
      have HK1 := Lib.hid hk1
      have wr1 : IntKind.i64.wrap ((k : Int) - 1) = (k : Int) - 1 := IntWalk.i64_in _ (by omega)
      obtain ⟨bk, hbk2⟩ : ∃ x, x = beg p k := ⟨_, rfl⟩
      rw [← hbk2] at dg hbk
      have HBK := Lib.hid hbk2
      clear hgt hk1 hbk2
      go_wp2_with fail
      refine (plan_beginOf _ lo _ p k (HP0.out.below hT (Nat.le_refl _)) HV.out (by omega)).mono ?_
      rintro e w2 ⟨rfl, hB2⟩
      rw [← HBK.out]
      have hB3 := hB.trans (hB2.mono hB.size)
      clear u0 u1 hB hT
      go_wp2_with fail
      go_roundw
      case rel => exact ⟨k - 1, by omega, by rw [HK1.out], by unfold Hid; rw [Nat.sub_add_cancel hk0]; exact HG.out, hB3⟩
      case measure => simp [intOf]; omega
    · have hle : beg p k ≤ s := by omega
      have dg : decide (s < beg p k) = false := decide_eq_false hgt
      have hstg := stgAt_eq HV.out hk hle HK.out
      have hgrn : grn p s = if s - beg p k < (p.st.getD k s0).gr then phA p k else (phA p k).filter fun m => hasB (nxA p k) m := by unfold grn; rw [hstg]
      obtain ⟨g1, ai, ci, g0, hIj⟩ := HX.out k hk
      have hst := validP_st HV.out hk
      have hph8 : (p.st.getD k s0).ph.length ≤ ci ∧ ci ≤ 9223372036854775807 := by obtain ⟨_, _, e, h2, h3⟩ := hIj.form; cases e; exact ⟨h2, h3⟩
      obtain ⟨ph, hph⟩ : ∃ ph, ph = (p.st.getD k s0).ph := ⟨_, rfl⟩
      obtain ⟨gr, hgr⟩ : ∃ gr, gr = (p.st.getD k s0).gr := ⟨_, rfl⟩
      obtain ⟨bk, hbk2⟩ : ∃ x, x = beg p k := ⟨_, rfl⟩
      rw [← hph] at g0 hIj hst hph8
      rw [← hgr] at g1 hst hgrn
      rw [← hbk2] at dg hbk hle hgrn
      have hpa : phA p k = ph := hph.symm
      rw [hpa] at hgrn
      have HIJ := Lib.hid hIj
      have HGRN := Lib.hid hgrn
      have HBK := Lib.hid hbk2
      obtain ⟨hmv, hgr5, hgr40⟩ := hst
      have hpl := movesB_len hmv (by omega)
      have HMV := Lib.hid hmv
      obtain ⟨hph1, hph2⟩ := hph8
      have hk0 : (0 : Int) ≤ (k : Int) := by omega
      have hk1 : (k : Int) < (p.st.length : Int) := by omega
      have c0 := (hT.cell (p := ⟨b, off + k * 2, none⟩) hb).trans g0
      have wr1 : IntKind.i64.wrap (s - bk) = s - bk := IntWalk.i64_in _ (by omega)
      clear hgt hph hgr hbk2 hpa hIj hgrn hmv g0 hstg HK
      go_wp2_with fail
      refine (plan_beginOf _ lo _ p k (HP0.out.below hT (Nat.le_refl _)) HV.out (by omega)).mono ?_
      rintro e w2 ⟨rfl, hB2⟩
      rw [← HBK.out]
      have hT2 := hT.trans (hB2.mono hT.size)
      have hB3 := hB.trans (hB2.mono hB.size)
      have t0 := (hB3.cell (p := ⟨w.heap.size, 0, none⟩) hz0).trans x0
      have t1 := (hB3.cell (p := ⟨w.heap.size, 1, none⟩) hz0).trans x1
      have t2 := (hT2.cell (p := ⟨b, off + k * 2, none⟩) hb).trans ((hT.cell (p := ⟨b, off + k * 2, none⟩) hb).symm.trans c0)
      have t3 := (hT2.cell (p := ⟨b, off + k * 2 + 1, none⟩) hb).trans g1
      have hz2 : w.heap.size < w2.heap.size := Nat.lt_of_lt_of_le hz0 hB3.size
      have hb2 : b < w2.heap.size := Nat.lt_of_lt_of_le hb hT2.size
      have keepA : ∀ W, Below w2.heap.size w2 W → (W.cell? ⟨w.heap.size, 0, none⟩ = some (.slice aoc p.cl.length capc) ∧ W.cell? ⟨w.heap.size, 1, none⟩ = some (.slice (some ⟨b, off, none⟩) p.st.length cap) ∧ W.cell? ⟨b, off + k * 2 + 1, none⟩ = some (.int .i64 gr)) := fun W h => ⟨(h.cell (p := ⟨w.heap.size, 0, none⟩) hz2).trans t0, (h.cell (p := ⟨w.heap.size, 1, none⟩) hz2).trans t1, (h.cell (p := ⟨b, off + k * 2 + 1, none⟩) hb2).trans t3⟩
      have KA := Lib.hid keepA
      have G1 := Lib.hid g1
      clear u0 u1 hB hT c0 g1 keepA
      by_cases hlt : s - bk < gr
      · have dl : decide (s - bk < gr) = true := decide_eq_true hlt
        have HE : Hid (grn p s = ph) := by unfold Hid; rw [HGRN.out, if_pos hlt]
        clear hlt HGRN
        go_wp2_with fail
        go_region_held3 (fun w' => w'.cell? ⟨w.heap.size, 0, none⟩ = some (.slice aoc p.cl.length capc) ∧ w'.cell? ⟨w.heap.size, 1, none⟩ = some (.slice (some ⟨b, off, none⟩) p.st.length cap) ∧ w'.cell? ⟨b, off + k * 2 + 1, none⟩ = some (.int .i64 gr))
          (first | exact KA.out _ hB5 | exact KA.out _ (Below.refl _ _) | go_keep | assumption)
          ((go_at_call 111; refine (plan_beginOf _ lo _ p k (HP0.out.below (hT2.trans ((Below.drew (Below.refl w2.heap.size w2)).mono hT2.size)) (Nat.le_refl _)) HV.out (Nat.le_of_lt hk)).mono ?_; rintro e w5 ⟨rfl, hB5'⟩; rw [← HBK.out]; have hB5 : Below w2.heap.size w2 w5 := (Below.drew (Below.refl w2.heap.size w2)).trans hB5'))
        go_wp2
        go_ret
        have hT5 := hT2.trans (hB5.mono hT2.size)
        exact ⟨_, rfl, by rw [HE.out]; exact Rd.below (HIJ.out.mono (Nat.zero_le _)) hT5 (Nat.le_refl _) (by decide), hT5⟩
      · have dl : decide (s - bk < gr) = false := decide_eq_false hlt
        have HE : Hid (grn p s = ph.filter fun m => hasB (nxA p k) m) := by unfold Hid; rw [HGRN.out, if_neg hlt]
        clear hlt HGRN
        go_wp2_with fail
        go_region_held3 (fun w' => w'.cell? ⟨w.heap.size, 0, none⟩ = some (.slice aoc p.cl.length capc) ∧ w'.cell? ⟨w.heap.size, 1, none⟩ = some (.slice (some ⟨b, off, none⟩) p.st.length cap) ∧ w'.cell? ⟨b, off + k * 2 + 1, none⟩ = some (.int .i64 gr))
          (first | exact KA.out _ hB5 | exact KA.out _ (Below.refl _ _) | go_keep | assumption)
          ((go_at_call 111; refine (plan_beginOf _ lo _ p k (HP0.out.below (hT2.trans ((Below.drew (Below.refl w2.heap.size w2)).mono hT2.size)) (Nat.le_refl _)) HV.out (Nat.le_of_lt hk)).mono ?_; rintro e w5 ⟨rfl, hB5'⟩; rw [← HBK.out]; have hB5 : Below w2.heap.size w2 w5 := (Below.drew (Below.refl w2.heap.size w2)).trans hB5'))
        obtain ⟨hU0, hU1, _⟩ := KA.out _ hB5
        have hT5 := hT2.trans (hB5.mono hT2.size)
        have hz5 : w.heap.size < w5.heap.size := Nat.lt_of_lt_of_le hz2 hB5.size
        clear t0 t1 t2 t3 KA x0 x1
        go_wp2_with fail
        go_loopw [7, 42] (fun kv i wo => ∃ j : Nat, ∃ ys : List Int, j ≤ ph.length ∧ i = .int .i64 j ∧ Own wo w5.heap.size 3 1 kv ys.length (ys.map (.int .i64)) ∧ Hid (ys = (ph.take j).filter fun m => hasB (nxA p k) m) ∧ ys.length ≤ j ∧ Below w5.heap.size w5 wo) (fun _ i _ => ph.length - (intOf i).toNat)
        case atStart => exact ⟨0, [], Nat.zero_le _, rfl, Own.nil _ _ _ _, by unfold Hid; simp, Nat.le_refl _, Below.refl _ _⟩
        case round =>
          obtain ⟨j, ys, hj, rfl, hO, HYS, hyl, hB⟩ := hrel
          have hT := hT5.trans (hB.mono hT5.size)
          by_cases hjl : j < ph.length
          · obtain ⟨bp, op, rfl, _, hbp, hxp⟩ := HIJ.out.spot 0 (by omega)
            have hcj := (hT.cell (p := ⟨bp, op + j, none⟩) hbp).trans (hxp j hjl)
            have hin := movesB_in HMV.out hjl
            have hsn := filter_snoc ph (fun m => hasB (nxA p k) m) j hjl
            obtain ⟨y, hy⟩ : ∃ y, y = ph.getD j 0 := ⟨_, rfl⟩
            rw [← hy] at hcj hsn
            have HSN := Lib.hid hsn
            have v0 := (hB.cell (p := ⟨w.heap.size, 0, none⟩) hz5).trans hU0
            have v1 := (hB.cell (p := ⟨w.heap.size, 1, none⟩) hz5).trans hU1
            have hj0 : (0 : Int) ≤ (j : Int) := by omega
            clear hxp hsn hy hin
            cases hh : hasB (nxA p k) y
            · have HN : Hid (ys = (ph.take (j + 1)).filter fun m => hasB (nxA p k) m) := by unfold Hid; rw [HSN.out, hh, HYS.out]; simp
              go_wp2_with fail
              refine (plan_next _ lo _ p k (HP0.out.below hT (Nat.le_refl _)) hk h5).mono ?_
              rintro e w6 ⟨vn, rfl, hIn, hB6⟩
              go_wp2_with fail
              go_at_call 118
              refine (contains_any _ _ _ (nxA p k) y hIn).mono ?_; rintro e w7 ⟨rfl, rfl⟩
              rw [hh]
              have hB7 := hB.trans (hB6.mono hB.size)
              have hO7 := hO.below hB6 (Nat.le_refl _)
              clear hh hO hB6 hIn hB v0 v1
              go_wp2_with fail
              go_roundw
              case rel => exact ⟨j + 1, ys, by omega, by go_num, hO7, HN, by omega, hB7⟩
              case measure => simp [intOf]; omega
            · have HN : Hid (ys ++ [y] = (ph.take (j + 1)).filter fun m => hasB (nxA p k) m) := by unfold Hid; rw [HSN.out, hh, HYS.out]; simp
              go_wp2_with fail
              refine (plan_next _ lo _ p k (HP0.out.below hT (Nat.le_refl _)) hk h5).mono ?_
              rintro e w6 ⟨vn, rfl, hIn, hB6⟩
              go_wp2_with fail
              go_at_call 118
              refine (contains_any _ _ _ (nxA p k) y hIn).mono ?_; rintro e w7 ⟨rfl, rfl⟩
              rw [hh]
              have hB7 := hB.trans (hB6.mono hB.size)
              have hO7 := hO.below hB6 (Nat.le_refl _)
              have hsz7 := hB7.size
              clear hh hO hB6 hIn hB v0 v1
              go_wp2_with (at_builtin; refine wpList_append_one _ rfl _ _ 27 rfl 3 (.int .i64 0) 8 Try.underlying27 info_int rfl w5.heap.size _ _ _ rfl hO7 _ _ rfl rfl (by omega) (by omega) hsz7 ?_; intro v' w8 hO8 hg8 _)
              have hB8 := hB7.trans (below_of_grownBy hg8 hsz7 (fun q hq => (hO7.wblk hq).1))
              clear hO7 hg8 hB7
              go_roundw
              case rel => exact ⟨j + 1, ys ++ [y], by omega, by go_num, by simpa using hO8, HN, by simp; omega, hB8⟩
              case measure => simp [intOf]; omega
          · obtain rfl : j = ph.length := by omega
            have HF : Hid (ys = grn p s) := by unfold Hid; rw [HE.out, HYS.out, List.take_length]
            go_wp2_with fail
            go_ret
            exact ⟨_, rfl, by rw [← HF.out]; exact hO.ints rfl, hT⟩
end Go.Proofs.Ytokpgipbgkiepaa
