/- RideTimes and TotalWait: the program's. TotalWait: the program's. -/
import Derived.Test.YtpaioaknppgggaaGreatDoorSsB
import Derived.Test.YtpaioaknppgggaaGreatDoorCa3
namespace Go.Proofs.YtpaioaknppgggaaGreatDoor

section
open Go.RowKit
set_option linter.unusedVariables false
set_option linter.unusedSimpArgs false

theorem insd_none (n : Nat) : ∀ k, k ≤ n → insd (List.replicate n (-1)) (List.replicate n (-1)) k = 0
  | 0, _ => rfl
  | k + 1, h => by
    rw [insd_not (fun x => by
      have := x.1
      rw [List.getD_eq_getElem?_getD, List.getElem?_replicate, if_pos (by omega)] at this
      simp at this), insd_none n k (by omega)]
theorem cnt_none (n : Nat) : ∀ k, k ≤ n → cnt (List.replicate n (-1)) k = 0
  | 0, _ => rfl
  | k + 1, h => by
    unfold cnt
    rw [cnt_none n k (by omega), if_neg (fun x => by
      rw [List.getD_eq_getElem?_getD, List.getElem?_replicate, if_pos (by omega)] at x
      simp at x)]

/-- One time step of the program, in three calls: what it leaves. -/
theorem step_parts {cs : List Cl} {t : Int} {s : RSt} {off1 on1 : List Int} {b1 b2 : Bool} (h : outS cs t s.fl s.on s.off cs.length = (off1, b1)) (h2 : inS cs t s.fl off1 s.on cs.length = (on1, b2)) :
    ((b1 || b2) = true → stepS cs t s = ⟨on1, off1, s.fl, s.hd⟩) ∧ ((b1 || b2) = false → ∀ fl2 hd2, hd2 = turnS (tg cs t on1 off1 cs.length) s.fl s.hd → fl2 = s.fl + (if ahd (tg cs t on1 off1 cs.length) s.fl hd2 = true then hd2 else 0) → stepS cs t s = ⟨on1, off1, fl2, hd2⟩) :=
  ⟨step_stay h h2, fun hb fl2 hd2 e1 e2 => by rw [step_drive h h2 hb, ← e1, ← e2]⟩

def RtRet (w : World) (cs : List Cl) (e : Ending) (w' : World) : Prop :=
  ∃ v1 v2, e = .returned (.tuple #[v1, v2]) ∧ Ints w' 0 v1 (runS (sortC cs) 901).on ∧ Below w.heap.size w w'

set_option maxRecDepth 100000 in
set_option maxHeartbeats 16000000 in
theorem impl_rideTimes (w : World) (lo : Nat) (v : Value) (cs : List Cl) (hv : Cls w lo v cs) (hok : clsOk cs) :
    Calls Tryz.prog 55 #[v, .int .i64 0] w (RtRet w cs) := by
  have HV := Lib.hid (impl_validCalls w lo v cs true (decide_eq_true hok).symm hv)
  have HSO : Hid (∀ W, Below w.heap.size w W → Calls Tryz.prog 56 #[v] W (SoRet W cs)) := fun W hB => impl_sortCalls W lo v cs (Rd.below hv hB (Nat.le_refl _) (by decide)) hok
  obtain ⟨n, hnn⟩ : ∃ n, n = cs.length := ⟨_, rfl⟩
  obtain ⟨ss, hss⟩ : ∃ ss, ss = sortC cs := ⟨_, rfl⟩
  have hsl : ss.length = n := by rw [hss, sortC_len, hnn]
  have h12 : n ≤ 12 := by rw [hnn]; exact hok.1
  have hko : clsOk ss := by rw [hss]; exact sortC_ok hok
  have HOK : Hid (∀ i, i < ss.length → clOk (ss.getD i c0)) := clsOk_at hko
  have HFIN : Hid (∀ (s : RSt) (V : World) (v1 v2 : Value), s = runS ss 901 → Ints V 0 v1 s.on → Below w.heap.size w V → RtRet w cs (.returned (.tuple #[v1, v2])) V) := fun s V v1 v2 e h hB => by
    rw [e, hss] at h; exact ⟨v1, v2, rfl, h, hB⟩
  have HSR : Hid (∀ V u, Cls V 0 u (sortC cs) → Cls V 0 u ss) := fun V u h => by rw [hss]; exact h
  have HSL := Lib.hid hsl
  clear hv hok hnn hss hsl hko
  have d1 : (decide ((0 : Int) ≤ 0) && decide ((0 : Int) ≤ 15)) = true := rfl
  go_enter Tryz.func55, Tryz.ntmps55
  go_wp2_with (first
    | (go_at_call 54; refine HV.out.mono ?_; rintro e' w1 ⟨rfl, hB1⟩; have HB1 := Lib.hid hB1; clear hB1)
    | (go_at_call 49; with_reducible refine (validFloor_dec 0 true _ d1).mono ?_; rintro e' w2 ⟨rfl, rfl⟩)
    | (go_at_call 56; refine (HSO.out _ HB1.out).mono ?_; rintro e' w3 ⟨v3, rfl, hC3, hB3⟩; have hC3' := HSR.out _ _ hC3; obtain ⟨ao3, cap3, rfl, hc3, hm3⟩ := hC3'.form; rw [HSL.out] at hC3' hc3 ⊢; have HC3 := Lib.hid hC3'; have HB3 := Lib.hid (HB1.out.trans (hB3.mono HB1.out.size)); clear hC3 hB3 hC3')
    | (go_at_call 71; refine (impl_newRide w3 ao3 cap3 n ss HC3.out HSL.out h12).mono ?_; rintro e' w4 ⟨gr, g1, g2, rfl, hR4⟩; have HR4 := Lib.hid hR4; clear hR4))
  go_loopw [7] (fun tv V => ∃ (k : Nat) (s : RSt), k ≤ 901 ∧ tv = .int .i64 k ∧ Hid (s = runS ss k) ∧ RI w3 gr g1 g2 n (.slice ao3 n cap3) s.on s.off s.fl s.hd (insd s.on s.off n : Nat) (cnt s.off n : Nat) V) (fun tv _ => 901 - (intOf tv).toNat)
  case atStart => exact ⟨0, runS ss 0, by omega, rfl, rfl, by
    have e : runS ss 0 = ⟨List.replicate n (-1), List.replicate n (-1), 0, 1⟩ := by rw [← HSL.out]; rfl
    rw [e]
    simp only
    rw [insd_none n n (Nat.le_refl _), cnt_none n n (Nat.le_refl _)]
    exact HR4.out⟩
  case round =>
    clear HR4
    obtain ⟨t, s, ht, rfl, HS, h⟩ := hrel
    have hI : InvS ss s := by rw [HS.out]; exact runS_inv HOK.out t ht
    obtain ⟨hgl, hfr, p0, p1, p2, p3, p4, p5, p6⟩ := h.box
    have HDN : Hid (dnS ss s ↔ cnt s.off n = n) := by unfold Hid dnS; rw [HSL.out]
    have hcl := cnt_le s.off n
    have END : Hid (dnS ss s ∨ t = 901 → ∀ m v2, RtRet w cs (.returned (.tuple #[.slice (some ⟨g1, 0, none⟩) n n, v2])) (wr.drewN m)) := fun hx m v2 => by
      refine HFIN.out s _ _ v2 ?_ ((h.drewN m).two.rd1.mono (Nat.zero_le _)) (HB3.out.trans ((h.drewN m).bel.mono HB3.out.size))
      rw [HS.out]
      rcases hx with hx | hx
      · rw [runS_end ht (by rw [← HS.out]; exact hx)]
      · rw [hx]
    by_cases ht9 : t ≤ 900
    · have htz : (t : Int) ≤ 900 := by omega
      have dtz : decide (t ≤ 900) = true := decide_eq_true ht9
      by_cases hd : dnS ss s
      · have hcn := HDN.out.1 hd
        have hE := END.out (.inl hd)
        obtain ⟨q, hq⟩ : ∃ q, q = cnt s.off n := ⟨_, rfl⟩
        rw [← hq] at p6 hcn hcl
        have l1 : decide ((q : Int) < (n : Int)) = false := by simp; omega
        have l2 : ¬ (q : Int) < (n : Int) := by omega
        have l3 : decide (q < n) = false := by simp; omega
        have HE := Lib.hid hE
        clear hI hd hE END hq h HDN hfr
        go_wp2_with fail
        go_quiet (fail)
        go_wp2
        go_quiet (fail)
        go_wp2_with fail
        refine bodyPost_ret (v := .tuple #[.slice (some ⟨g1, 0, none⟩) n n, .slice (some ⟨g2, 0, none⟩) n n]) (by simp [results, Tryz.results55, go_sem]) rfl ?_
        first | exact HE.out _ _ | (rw [World.drewN_drewN]; exact HE.out _ _)
      · have hcn : ¬ cnt s.off n = n := fun e => hd (HDN.out.2 e)
        have hnx := runS_go (cs := ss) (k := t) (by rw [← HS.out]; exact hd)
        rw [← HS.out] at hnx
        have hflo := hI.flo
        have HHD := Lib.hid hI.hdo
        have HBO : Hid (∀ off1 b1, outS ss t s.fl s.on s.off n = (off1, b1) → ∀ i, i < n → s.on.getD i 0 < 0 → off1.getD i 0 < 0) := fun off1 b1 e i hi hx => by
          have h2 := outS_at ss t s.fl s.on s.off n (by rw [hI.lof, HSL.out]; exact Nat.le_refl _) i
          rw [e] at h2
          simp only at h2
          rw [h2]
          split
          · rename_i hc; omega
          · exact hI.both i (by rw [HSL.out]; exact hi) hx
        obtain ⟨x1, ho⟩ : ∃ x, x = outS ss t s.fl s.on s.off n := ⟨_, rfl⟩
        obtain ⟨off1, b1⟩ := x1
        obtain ⟨x2, hi⟩ : ∃ x, x = inS ss t s.fl off1 s.on n := ⟨_, rfl⟩
        obtain ⟨on1, b2⟩ := x2
        have hpt := step_parts (cs := ss) (t := t) (s := s) (off1 := off1) (on1 := on1) (b1 := b1) (b2 := b2) (by rw [HSL.out]; exact ho.symm) (by rw [HSL.out]; exact hi.symm)
        rw [← hnx] at hpt
        have HPT := Lib.hid hpt
        have HO := Lib.hid ho.symm
        have HIN := Lib.hid hi.symm
        have HBO2 := Lib.hid (HBO.out off1 b1 ho.symm)
        clear hI hd HS hnx hpt ho hi END HDN hfr HBO
        obtain ⟨on, off, fl, hd⟩ := s
        simp only at h p3 p4 p5 p6 hcl hcn hflo HHD HPT HO HIN HBO2
        obtain ⟨q, hq⟩ : ∃ q, q = cnt off n := ⟨_, rfl⟩
        rw [← hq] at p6 hcn hcl
        have l1 : (q : Int) < (n : Int) := by omega
        have l2 : decide (q < n) = true := by simp; omega
        have H := Lib.hid h
        clear h hq
        go_wp2_with fail
        go_quiet (fail)
        have H1 := Lib.hid (H.out.drewN nq)
        clear H p0 p1 p2 p3 p4 p5 p6 hgl
        generalize hw5 : wr.drewN nq = w5 at H1 ⊢
        clear hw5
        have HLO : Hid (Calls Tryz.prog 72 #[.pointer (some ⟨gr, 0, none⟩), .int .i64 t] w5 fun e w' => e = .returned (.bool b1) ∧ RI w3 gr g1 g2 n (.slice ao3 n cap3) on off1 fl hd (insd on off1 n : Nat) (cnt off1 n : Nat) w') :=
          impl_letOut w3 w5 gr g1 g2 n ao3 cap3 ss on off off1 b1 fl hd t H1.out HC3.out HSL.out h12 ht9 HO.out
        have HLI : Hid (∀ W, RI w3 gr g1 g2 n (.slice ao3 n cap3) on off1 fl hd (insd on off1 n : Nat) (cnt off1 n : Nat) W → Calls Tryz.prog 73 #[.pointer (some ⟨gr, 0, none⟩), .int .i64 t] W fun e w' => e = .returned (.bool b2) ∧ RI w3 gr g1 g2 n (.slice ao3 n cap3) on1 off1 fl hd (insd on1 off1 n : Nat) (cnt off1 n : Nat) w') := fun W hW =>
          impl_letIn w3 W gr g1 g2 n ao3 cap3 ss on off1 on1 b2 fl hd t hW HC3.out HSL.out h12 ht9 HBO2.out HIN.out
        obtain ⟨hd2, hh2⟩ : ∃ x, x = turnS (tg ss t on1 off1 ss.length) fl hd := ⟨_, rfl⟩
        obtain ⟨fl2, hf2⟩ : ∃ x : Int, x = fl + if ahd (tg ss t on1 off1 ss.length) fl hd2 = true then hd2 else 0 := ⟨_, rfl⟩
        have HDR : Hid (∀ W, RI w3 gr g1 g2 n (.slice ao3 n cap3) on1 off1 fl hd (insd on1 off1 n : Nat) (cnt off1 n : Nat) W → Calls Tryz.prog 74 #[.pointer (some ⟨gr, 0, none⟩), .int .i64 t] W fun e w' => e = .returned (.tuple #[]) ∧ RI w3 gr g1 g2 n (.slice ao3 n cap3) on1 off1 fl2 hd2 (insd on1 off1 n : Nat) (cnt off1 n : Nat) w') := fun W hW =>
          impl_drive w3 W gr g1 g2 n ao3 cap3 ss on1 off1 fl hd t hW HC3.out HSL.out h12 ht9 HOK.out hflo HHD.out fl2 hd2 hh2 hf2
        have HP1 : Hid ((b1 || b2) = true → runS ss (t + 1) = ⟨on1, off1, fl, hd⟩) := HPT.out.1
        have HP2 : Hid ((b1 || b2) = false → runS ss (t + 1) = ⟨on1, off1, fl2, hd2⟩) := fun hb => HPT.out.2 hb fl2 hd2 hh2 hf2
        clear HPT HO HIN HBO2 H1 hh2 hf2 hflo
        cases b1 <;> cases b2
        · have HE := Lib.hid (HP2.out rfl)
          clear HP1 HP2
          go_wp2_with (first
            | (go_at_call 72; refine HLO.out.mono ?_; rintro e' w6 ⟨rfl, hR6⟩; have HR6 := Lib.hid hR6; clear hR6)
            | (go_at_call 73; refine (HLI.out _ HR6.out).mono ?_; rintro e' w7 ⟨rfl, hR7⟩; have HR7 := Lib.hid hR7; clear hR7)
            | (go_at_call 74; refine (HDR.out _ HR7.out).mono ?_; rintro e' w8 ⟨rfl, hR8⟩; have HR8 := Lib.hid hR8; clear hR8))
          go_roundw
          case rel => exact ⟨t + 1, ⟨on1, off1, fl2, hd2⟩, by omega, by go_num, HE.out.symm, HR8.out⟩
          case measure => simp [intOf]; omega
        all_goals
          have HE := Lib.hid (HP1.out rfl)
          clear HP1 HP2
          go_wp2_with (first
            | (go_at_call 72; refine HLO.out.mono ?_; rintro e' w6 ⟨rfl, hR6⟩; have HR6 := Lib.hid hR6; clear hR6)
            | (go_at_call 73; refine (HLI.out _ HR6.out).mono ?_; rintro e' w7 ⟨rfl, hR7⟩; have HR7 := Lib.hid hR7; clear hR7))
          go_roundw
          case rel => exact ⟨t + 1, ⟨on1, off1, fl, hd⟩, by omega, by go_num, HE.out.symm, HR7.out⟩
          case measure => simp [intOf]; omega
    · have htz : ¬ (t : Int) ≤ 900 := by omega
      have dtz : decide ((t : Int) ≤ 900) = false := decide_eq_false htz
      have dtz2 : decide (t ≤ 900) = false := decide_eq_false ht9
      have HE := Lib.hid (END.out (.inr (by omega)))
      clear hI END h HDN hfr
      go_wp2_with fail
      go_quiet (fail)
      go_wp2
      go_quiet (fail)
      go_wp2_with fail
      refine bodyPost_ret (v := .tuple #[.slice (some ⟨g1, 0, none⟩) n n, .slice (some ⟨g2, 0, none⟩) n n]) (by simp [results, Tryz.results55, go_sem]) rfl ?_
      first | exact HE.out _ _ | (rw [World.drewN_drewN]; exact HE.out _ _)
end

section
open Go.RowKit
set_option linter.unusedVariables false
set_option linter.unusedSimpArgs false

set_option maxRecDepth 100000 in
set_option maxHeartbeats 16000000 in
theorem impl_totalWait (w : World) (lo : Nat) (v : Value) (cs : List Cl) (hv : Cls w lo v cs) (hok : clsOk cs) :
    Calls Tryz.prog 32 #[v, .int .i64 0] w fun e w' => e = .returned (.int .i64 (totW cs)) ∧ Below w.heap.size w w' := by
  have HV := Lib.hid (impl_validCalls w lo v cs true (decide_eq_true hok).symm hv)
  have HSO : Hid (∀ W, Below w.heap.size w W → Calls Tryz.prog 56 #[v] W (SoRet W cs)) := fun W hB => impl_sortCalls W lo v cs (Rd.below hv hB (Nat.le_refl _) (by decide)) hok
  have HRT : Hid (∀ W, Below w.heap.size w W → Calls Tryz.prog 55 #[v, .int .i64 0] W (RtRet W cs)) := fun W hB => impl_rideTimes W lo v cs (Rd.below hv hB (Nat.le_refl _) (by decide)) hok
  have HF := Lib.hid (tot_facts hok)
  have h12 := hok.1
  obtain ⟨n, hnn⟩ : ∃ n, n = cs.length := ⟨_, rfl⟩
  obtain ⟨ss, hss⟩ : ∃ ss, ss = sortC cs := ⟨_, rfl⟩
  obtain ⟨on, hon⟩ : ∃ on, on = (runS (sortC cs) 901).on := ⟨_, rfl⟩
  have hsl : ss.length = n := by rw [hss, sortC_len, hnn]
  have hol : on.length = n := by rw [hon, (runS_inv (clsOk_at (sortC_ok hok)) 901 (Nat.le_refl _)).lon, sortC_len, hnn]
  have HT : Hid (totW cs = sumW ss on n) := by unfold Hid totW; rw [hss, hon, hnn]
  have HSR : Hid (∀ V u, Cls V 0 u (sortC cs) → Cls V 0 u ss) := fun V u h => by rw [hss]; exact h
  have HON : Hid (∀ V u, Ints V 0 u (runS (sortC cs) 901).on → Ints V 0 u on) := fun V u h => by rw [hon]; exact h
  have HF1 : Hid ((∀ i, i < n → 0 ≤ on.getD i 0 ∧ on.getD i 0 ≤ 900 ∧ 0 ≤ (ss.getD i c0).2.2 ∧ (ss.getD i c0).2.2 ≤ 200) ∧ (∀ k, k ≤ n → 0 ≤ sumW ss on k ∧ sumW ss on k ≤ 900 * k)) := by unfold Hid; rw [hnn, hss, hon]; exact HF.out
  rw [← hnn] at h12
  have HSL := Lib.hid hsl
  have HOL := Lib.hid hol
  clear hv hok hnn hss hon HF hsl hol
  have d1 : (decide ((0 : Int) ≤ 0) && decide ((0 : Int) ≤ 15)) = true := rfl
  go_enter Tryz.func32, Tryz.ntmps32
  go_wp2_with (first
    | (go_at_call 54; refine HV.out.mono ?_; rintro e' w1 ⟨rfl, hB1⟩; have HB1 := Lib.hid hB1; clear hB1)
    | (go_at_call 49; with_reducible refine (validFloor_dec 0 true _ d1).mono ?_; rintro e' w2 ⟨rfl, rfl⟩)
    | (go_at_call 55; refine (HRT.out _ HB1.out).mono ?_; rintro e' w3 ⟨v1, v2, rfl, hI3, hB3⟩; have hI3' := HON.out _ _ hI3; obtain ⟨ao1, cap1, rfl, hc1, hm1⟩ := hI3'.form; rw [HOL.out] at hc1 ⊢; have HI3 := Lib.hid hI3'; have HB3 := Lib.hid (HB1.out.trans (hB3.mono HB1.out.size)); clear hI3 hB3 hI3')
    | (go_at_call 56; refine (HSO.out _ HB3.out).mono ?_; rintro e' w4 ⟨v4, rfl, hC4, hB4⟩; have hC4' := HSR.out _ _ hC4; obtain ⟨ao4, cap4, rfl, hc4, hm4⟩ := hC4'.form; rw [HSL.out] at hc4 ⊢; have HC4 := Lib.hid hC4'; have HI4 := Lib.hid (Rd.below HI3.out hB4 (Nat.le_refl _) (by decide)); have HB4 := Lib.hid (HB3.out.trans (hB4.mono HB3.out.size)); clear hC4 hB4 hC4'))
  have HI5 : Hid (Ints w4 0 (.slice ao1 n cap1) on) := by rw [← HOL.out]; exact HI4.out
  clear HI4 HI3
  go_loopw [7, 27] (fun sv iv W => ∃ (k : Nat) (q : Int), k ≤ n ∧ iv = .int .i64 k ∧ sv = .int .i64 q ∧ Hid (q = sumW ss on k) ∧ Below w4.heap.size w4 W) (fun _ iv _ => n - (intOf iv).toNat)
  case atStart => exact ⟨0, 0, Nat.zero_le _, rfl, rfl, rfl, Below.refl _ _⟩
  case round =>
    obtain ⟨k, q, hk, rfl, rfl, HQ, hB⟩ := hrel
    by_cases hlt : k < n
    · have hkk : (k : Int) < (n : Int) := by omega
      obtain ⟨b4, o4, e4, _, hb4, hx4⟩ := HI5.out.spot 0 (by have := HOL.out; omega)
      cases e4
      obtain ⟨b3, o3, rfl, _, hb3, hx3⟩ := HC4.out.spot (by have := HSL.out; omega)
      have s1 := (hB.cell (p := ⟨b4, o4 + k, none⟩) hb4).trans (hx4 k (by have := HOL.out; omega))
      obtain ⟨z1, z2, z3⟩ := hx3 k (by have := HSL.out; omega)
      have r1 := (hB.cell (p := ⟨b3, o3 + k * 3, none⟩) hb3).trans z1
      have r2 := (hB.cell (p := ⟨b3, o3 + k * 3 + 1, none⟩) hb3).trans z2
      have r3 := (hB.cell (p := ⟨b3, o3 + k * 3 + 2, none⟩) hb3).trans z3
      have hb := HF1.out.1 k hlt
      have hq1 := HF1.out.2 k hk
      rw [← HQ.out] at hq1
      have HN : Hid (sumW ss on (k + 1) = q + (on.getD k 0 - (ss.getD k c0).2.2)) := by rw [HQ.out]; rfl
      obtain ⟨x, hx⟩ : ∃ x, x = on.getD k 0 := ⟨_, rfl⟩
      obtain ⟨c, hc⟩ : ∃ c, c = ss.getD k c0 := ⟨_, rfl⟩
      rw [← hx] at s1 hb HN
      rw [← hc] at r1 r2 r3 hb HN
      obtain ⟨cf, ct, y⟩ := c
      simp only at r1 r2 r3 hb HN
      have wr1 : IntKind.i64.wrap (x - y) = x - y := IntWalk.i64_in _ (by omega)
      have wr2 : IntKind.i64.wrap (q + (x - y)) = q + (x - y) := IntWalk.i64_in _ (by omega)
      have hx0 : 0 ≤ x := hb.1
      have hbl4 := Nat.lt_of_lt_of_le hb4 hB.size
      have HB5 := Lib.hid (hB.alloc hB.size (.cells #[.int .i64 cf, .int .i64 ct, .int .i64 y] 73))
      clear hx4 hx3 hx hc HQ z1 z2 z3 hB
      go_wp2_with fail
      go_quiet (fail)
      go_wp2
      go_roundw
      case rel => exact ⟨k + 1, q + (x - y), by omega, by go_num, rfl, HN.out.symm, below_drewN HB5.out _⟩
      case measure => simp [intOf]; omega
    · have hkk : ¬ (k : Int) < (n : Int) := by omega
      have HE : Hid (totW cs = q) := by unfold Hid; rw [HT.out, HQ.out, show k = n by omega]
      have HB5 := Lib.hid (HB4.out.trans (hB.mono HB4.out.size))
      go_wp2_with fail
      go_ret
      exact ⟨by rw [HE.out]; rfl, HB5.out⟩
end
end Go.Proofs.YtpaioaknppgggaaGreatDoor
