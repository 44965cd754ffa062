/- times: the model's. -/
import Derived.Test.YtfacedmdpbddcaaTown6
import Derived.Deep.QuietTactic
import Derived.BigQuiet
import Derived.IntWalk
namespace Go.Proofs.Ytfacedmdpbddcaa
open Go.RowKit
set_option linter.unusedVariables false
set_option linter.unusedSimpArgs false

theorem Own.drewN {w : World} {lo : Nat} {e : TypeId} {sz : Nat} {v : Value} {n : Nat} {cs : List Value} (h : Own w lo e sz v n cs) (m : Nat) : Own (w.drewN m) lo e sz v n cs :=
  h.grown (row := none) ⟨rfl, rfl, rfl, Nat.le_refl _, fun _ _ _ => rfl⟩ (fun _ e => by cases e)

theorem ints_cell {w : World} {lo e g len cap n F : Nat} {ts : List Int} (h : Own w lo e 1 (.slice (some ⟨g, 0, none⟩) len cap) n (ts.map (Value.int .i64))) (hF : F < n) :
    w.cell? ⟨g, F, none⟩ = some (.int .i64 (ts.getD F 0)) ∧ w.frozen? ⟨g, F, none⟩ = false ∧ g < w.heap.size := by
  have hl := h.len
  obtain ⟨g', e1, h2, h3, h4, h5, h6⟩ := h.parts (by omega)
  cases e1
  refine ⟨?_, h5 F, h3⟩
  rw [h4 F (by omega)]
  simp at hl
  simp [show F < ts.length by omega]

theorem rounds_succ (rs : List Rod) (ts : List Int) (k : Nat) : rounds rs ts (k + 1) = pass (rs.take rs.length) (rounds rs ts k) := by
  rw [List.take_length]; rfl

def TimesRet (w : World) (N : Nat) (ts : List Int) (e : Ending) (w' : World) : Prop :=
  ∃ v', e = .returned v' ∧ Own w' w.heap.size 3 1 v' N (ts.map (Value.int .i64)) ∧ Below w.heap.size w w'

theorem relax_cases (ts : List Int) (r : Rod) (F T : Nat) (hf : r.f = F) (ht : r.t = T) :
    (ts.getD F 0 < 0 → relax ts r = ts) ∧ (¬ ts.getD F 0 < 0 → ts.getD T 0 < 0 → relax ts r = ts.set T (ts.getD F 0 + r.c)) ∧
    (¬ ts.getD F 0 < 0 → ¬ ts.getD T 0 < 0 → ts.getD F 0 + r.c < ts.getD T 0 → relax ts r = ts.set T (ts.getD F 0 + r.c)) ∧
    (¬ ts.getD F 0 < 0 → ¬ ts.getD T 0 < 0 → ¬ ts.getD F 0 + r.c < ts.getD T 0 → relax ts r = ts) := by
  have e1 : r.f.toNat = F := by omega
  have e2 : r.t.toNat = T := by omega
  unfold relax
  rw [e1, e2]
  refine ⟨fun h => if_pos h, fun h h2 => ?_, fun h h2 h3 => ?_, fun h h2 h3 => ?_⟩
  · rw [if_neg h, if_pos (.inl h2)]
  · rw [if_neg h, if_pos (.inr h3)]
  · rw [if_neg h, if_neg (by rintro (x | x) <;> contradiction)]

set_option maxHeartbeats 4000000 in
theorem spec_times (w : World) (lo N S : Nat) (v : Value) (rs : List Rod) (hv : Rods w lo v rs) (hval : validR N rs = true) (hS : S < N) :
    Calls Try.prog 37 #[.int .i64 N, v, .int .i64 S] w (TimesRet w N (times N rs S)) := by
  obtain ⟨ao, cap, rfl, hcap, hm⟩ := hv.form
  obtain ⟨i0, hi, hz0, hz1, hz2⟩ := info_parts (show (Try.prog.info? 3).map (fun i => (i.zero, i.size, i.bytes)) = some (some (.int .i64 0), 1, 8) by kernel_rfl)
  obtain ⟨a1, a2, a3, a4⟩ := validR_iff.1 hval
  have hr : ∀ r ∈ rs, okR ((N : Int) - 1) r = true := fun r h => validR_mem hval h
  have HR : Hid (∀ i, i < rs.length → 0 ≤ (rs.getD i r0).f ∧ (rs.getD i r0).f < N ∧ 0 ≤ (rs.getD i r0).t ∧ (rs.getD i r0).t < N ∧ 1 ≤ (rs.getD i r0).c ∧ (rs.getD i r0).c ≤ 60) := fun i hi => by
    have := okR_iff.1 (hr (rs.getD i r0) (by simp [hi])); omega
  have HB : Hid (∀ k i, k ≤ 8 → Bnd 20000 (pass (rs.take i) (rounds rs (start N S) k))) := fun k i hk => part_bnd hr a3 hS k i hk
  have HL : Hid (∀ k i, (pass (rs.take i) (rounds rs (start N S) k)).length = N) := fun k i => by rw [pass_len, rounds_len]; simp [start]
  clear hr a4 hval
  go_enter Try.func37, Try.ntmps37
  go_wp2_with (at_make; refine wpList_make_full _ rfl _ _ 32 rfl w.heap.size 3 i0 (.int .i64 0) 1 Try.underlying32 hi hz0 hz1 .i64 .i64 N N N rfl rfl rfl rfl (by rw [hz2]; omega) (by unfold maxLen; omega) (Nat.le_refl _) ?_; intro w1 hown hg1)
  have hO : Own w1 w.heap.size 3 1 (.slice (some ⟨w.heap.size, 0, none⟩) N N) N (madeCells (Value.int .i64 0).cells (N * 1)).toList := .inl hown
  have hB := below_of_grownBy hg1 (Nat.le_refl _) (fun k hk => by cases hk)
  clear hown hg1
  go_loopw [8] (fun i wo => ∃ k : Nat, ∃ cs, k ≤ N ∧ i = .int .i64 k ∧ Own wo w.heap.size 3 1 (.slice (some ⟨w.heap.size, 0, none⟩) N N) N cs ∧ (∀ j, j < k → cs[j]? = some (.int .i64 (-1))) ∧ Below w.heap.size w wo)
    (fun i _ => N - (intOf i).toNat)
  case atStart => exact ⟨0, _, Nat.zero_le _, rfl, hO, fun j hj => by omega, hB⟩
  case round =>
    clear hO hB
    obtain ⟨k, cs, hk, rfl, hO, hcs, hB⟩ := hrel
    have hlen := hO.len
    by_cases hlt : k < N
    · obtain ⟨g, hg, _, hg2, hcell, hfr, hset⟩ := hO.parts (by omega)
      cases hg
      have hd := hcell k (by omega)
      have hf := hfr k
      have hS1 := hO.store (by omega) k (.int .i64 (-1))
      have HC := Lib.hid hcs
      have HO := Lib.hid hO
      clear hcell hfr hset hcs hO
      go_wp2
      go_roundw
      case rel => exact ⟨k + 1, _, by omega, by go_num, hS1.1, fun j hj => by
        by_cases h : j = k
        · subst h; rw [List.getElem?_set_self (by omega)]
        · rw [List.getElem?_set_ne (fun e => h e.symm)]; exact HC.out j (by omega), hB.setCell (Nat.le_refl _) _⟩
      case measure => simp [intOf]; omega
    · have e1 : cs = (List.replicate N (-1)).map (Value.int .i64) := list_eq_of (n := N) (by omega) (by simp) (fun i hi => by rw [hcs i (by omega)]; simp [hi])
      subst e1
      clear hcs
      obtain ⟨c0, f0, hgl⟩ := ints_cell hO (F := S) hS
      have hO2 := hO.store (by omega) S (.int .i64 0)
      have e2 : ((List.replicate N (-1)).map (Value.int .i64)).set S (.int .i64 0) = (start N S).map (Value.int .i64) := by rw [start, List.map_set]
      rw [e2] at hO2
      have hB2 := hB.setCell (Nat.le_refl _) (p := ⟨w.heap.size, S, none⟩) (.int .i64 0)
      clear e2 hO hB
      have HO2 := Lib.hid hO2.1
      have HB2 := Lib.hid hB2
      clear hO2 hB2
      go_wp2
      obtain ⟨wm, hwm⟩ : ∃ wm, wm = wr.setCell ⟨w.heap.size, S, none⟩ (.int .i64 0) := ⟨_, rfl⟩
      rw [← hwm] at HO2 HB2 ⊢
      clear hwm c0 f0 hgl hlen
      go_loopw [9] (fun i wo => ∃ r : Nat, r ≤ N ∧ i = .int .i64 r ∧ Own wo w.heap.size 3 1 (.slice (some ⟨w.heap.size, 0, none⟩) N N) N ((rounds rs (start N S) r).map (Value.int .i64)) ∧ Below w.heap.size w wo)
        (fun i _ => N - (intOf i).toNat)
      case atStart => exact ⟨0, Nat.zero_le _, rfl, HO2.out, HB2.out⟩
      case round =>
        clear HO2 HB2
        obtain ⟨r, hrN, rfl, hO, hB⟩ := hrel
        by_cases hlr : r < N
        · go_wp2_with fail
          go_loopw [10] (fun i wo => ∃ k : Nat, k ≤ rs.length ∧ i = .int .i64 k ∧ Own wo w.heap.size 3 1 (.slice (some ⟨w.heap.size, 0, none⟩) N N) N ((pass (rs.take k) (rounds rs (start N S) r)).map (Value.int .i64)) ∧ Below w.heap.size w wo)
            (fun i _ => rs.length - (intOf i).toNat)
          case atStart => exact ⟨0, Nat.zero_le _, rfl, by simpa [pass] using hO, hB⟩
          case round =>
            clear hO hB
            obtain ⟨k, hk, rfl, hO, hB⟩ := hrel
            by_cases hlt : k < rs.length
            · obtain ⟨b, off, rfl, _, hb1, hc⟩ := Rods.spot (Rd.below hv hB (Nat.le_refl _) (by decide)) (by omega)
              obtain ⟨s1, s2, s3⟩ := hc k hlt
              have hx0 := HR.out k hlt
              have hstep := pass_take rs (rounds rs (start N S) r) k hlt
              have hbd := HB.out r k (by omega)
              have hln := HL.out r k
              obtain ⟨x, hx⟩ : ∃ x, x = rs.getD k r0 := ⟨_, rfl⟩
              rw [← hx] at s1 s2 s3 hx0 hstep
              obtain ⟨xf, xt, xc⟩ := x
              simp only at s1 s2 s3 hx0
              obtain ⟨x1, x2, x3, x4, x5, x6⟩ := hx0
              obtain ⟨F, rfl⟩ := Int.eq_ofNat_of_zero_le x1
              obtain ⟨T, rfl⟩ := Int.eq_ofNat_of_zero_le x3
              obtain ⟨ts, hts⟩ : ∃ ts, ts = pass (rs.take k) (rounds rs (start N S) r) := ⟨_, rfl⟩
              rw [← hts] at hO hstep hbd hln
              obtain ⟨cF, fF, hgl⟩ := ints_cell hO (F := F) (by omega)
              obtain ⟨cT, fT, _⟩ := ints_cell hO (F := T) (by omega)
              have bF := hbd F (by omega)
              have bT := hbd T (by omega)
              obtain ⟨q1, q2, q3, q4⟩ := relax_cases ts ⟨(F : Int), (T : Int), xc⟩ F T rfl rfl
              rw [← hstep] at q1 q2 q3 q4
              simp only at q2 q3
              obtain ⟨a, ha⟩ : ∃ a, a = ts.getD F 0 := ⟨_, rfl⟩
              obtain ⟨c, hcc⟩ : ∃ c, c = ts.getD T 0 := ⟨_, rfl⟩
              rw [← ha] at cF bF q1 q2 q3 q4
              rw [← hcc] at cT bT q2 q3 q4
              have H1 := Lib.hid q1
              have H2 := Lib.hid q2
              have H3 := Lib.hid q3
              have H4 := Lib.hid q4
              have HO := Lib.hid hO
              have hBS : Hid (∀ m u, Own ((wr.drewN m).setCell ⟨w.heap.size, T, none⟩ (.int .i64 u)) w.heap.size 3 1 (.slice (some ⟨w.heap.size, 0, none⟩) N N) N ((ts.set T u).map (Value.int .i64)) ∧ Below w.heap.size w ((wr.drewN m).setCell ⟨w.heap.size, T, none⟩ (.int .i64 u))) := fun m u =>
                ⟨by rw [List.map_set]; exact ((hO.drewN m).store (by omega) T (.int .i64 u)).1, (below_drewN hB m).setCell (Nat.le_refl _) _⟩
              have hk0 : (0 : Int) ≤ (k : Int) := by omega
              have hk1 : (k : Int) < (rs.length : Int) := by omega
              have hF1 : (F : Int) < (N : Int) := by omega
              have hT1 : (T : Int) < (N : Int) := by omega
              clear q1 q2 q3 q4 hstep hts ha hcc hc hx hbd hln hO hv HR HB HL
              by_cases h1 : a < 0
              · have HE := Lib.hid (H1.out h1)
                clear H1 H2 H3 H4 hBS
                go_wp2_with fail
                go_roundw
                case rel => exact ⟨k + 1, by omega, by go_num, by rw [HE.out]; exact HO.out, hB⟩
                case measure => simp [intOf]; omega
              · have wr1 : IntKind.i64.wrap (a + xc) = a + xc := IntWalk.i64_in _ (by omega)
                by_cases h2 : c < 0
                · have HE := Lib.hid (H2.out h1 h2)
                  have dc : decide (c < 0) = true := decide_eq_true h2
                  clear H1 H2 H3 H4
                  go_wp2_with fail
                  go_quiet (fail)
                  go_wp2
                  go_roundw
                  case rel => exact ⟨k + 1, by omega, by go_num, by rw [HE.out]; exact (hBS.out _ _).1, (hBS.out _ _).2⟩
                  case measure => simp [intOf]; omega
                · have dc : decide (c < 0) = false := decide_eq_false h2
                  by_cases h3 : a + xc < c
                  · have HE := Lib.hid (H3.out h1 h2 h3)
                    have dd : decide (a + xc < c) = true := decide_eq_true h3
                    clear H1 H2 H3 H4
                    go_wp2_with fail
                    go_quiet (fail)
                    go_wp2
                    go_roundw
                    case rel => exact ⟨k + 1, by omega, by go_num, by rw [HE.out]; exact (hBS.out _ _).1, (hBS.out _ _).2⟩
                    case measure => simp [intOf]; omega
                  · have HE := Lib.hid (H4.out h1 h2 h3)
                    have dd : decide (a + xc < c) = false := decide_eq_false h3
                    clear H1 H2 H3 H4
                    go_wp2_with fail
                    go_quiet (fail)
                    go_wp2
                    go_roundw
                    case rel => exact ⟨k + 1, by omega, by go_num, by rw [HE.out]; exact HO.out.drewN _, below_drewN hB _⟩
                    case measure => simp [intOf]; omega
            · obtain rfl : k = rs.length := by omega
              have HN : Hid (pass (rs.take rs.length) (rounds rs (start N S) r) = rounds rs (start N S) (r + 1)) := (rounds_succ rs (start N S) r).symm
              go_wp2_with fail
              go_roundw
              case rel => exact ⟨r + 1, by omega, by go_num, by rw [← HN.out]; exact hO, hB⟩
              case measure => simp [intOf]; omega
        · obtain rfl : r = N := by omega
          have HRt : Hid (Own wr w.heap.size 3 1 (.slice (some ⟨w.heap.size, 0, none⟩) r r) r ((times r rs S).map (Value.int .i64)) ∧ Below w.heap.size w wr) := ⟨hO, hB⟩
          clear hO hB
          go_wp2_with fail
          go_ret
          exact ⟨_, rfl, HRt.out⟩
end Go.Proofs.Ytfacedmdpbddcaa
