/- FnBestOffsets: the walk. -/
import Derived.Test.YtbojkhmlfflakaaBo19
import Derived.Test.YtbojkhmlfflakaaEqI
namespace Go.Proofs.Ytbojkhmlfflakaa
open Go.RowKit
set_option linter.unusedVariables false
set_option linter.unusedSimpArgs false

theorem repl_map (k : Nat) (e : Int) : (List.replicate (k + 1) e).map (Value.int .i64) = (List.replicate k e).map (Value.int .i64) ++ [Value.int .i64 e] := by
  rw [List.replicate_succ', List.map_append]; rfl
def oth (c Q k : Nat) : List Int := (List.range k).map fun i => ((i * Q % c : Nat) : Int)
theorem oth_map (c Q k : Nat) : (oth c Q (k + 1)).map (Value.int .i64) = (oth c Q k).map (Value.int .i64) ++ [Value.int .i64 ((k * Q % c : Nat) : Int)] := by
  unfold oth; rw [List.range_succ, List.map_append, List.map_append]; rfl
theorem oth_len (c Q k : Nat) : (oth c Q k).length = k := by simp [oth]

set_option maxHeartbeats 16000000 in
theorem fnBestOffsets_walk (w : World) (v : Value) (bs : List UInt8) (hv : Bytes w 0 v bs) :
    Calls Try.prog 3 #[v] w fun e w' => e = .returned (.bool true) ∧ Below w.heap.size w w' := by
  obtain ⟨ao, cap, rfl, hcap, hm⟩ := hv.form
  by_cases hlen : bs.length ≤ 1048576
  · go_enter Try.func3, Try.ntmps3
    go_wp2_with fail
    go_at_call 4
    refine (drawBestOffsets _ _ bs hv).mono ?_; rintro e w1 ⟨v1, s, rfl, hS1, hB1⟩
    have hS1' := hS1
    obtain ⟨vg, vt, rfl, hg, ht⟩ := hS1'
    obtain ⟨ag, cg, rfl, hcg, hmg⟩ := Rd.form hg
    obtain ⟨at', ct, rfl, hct, hmt⟩ := Rd.form ht
    obtain ⟨w2, hw2, hB2, x0, x1, x2, hz2⟩ := str_box w1 (.int .i64 s.cy) (.slice ag s.gr.length cg) (.slice at' s.tr.length ct)
    have HS2 := Lib.hid (hS1.below hB2 (Nat.le_refl _))
    have HB2 := Lib.hid (hB1.trans (hB2.mono hB1.size))
    have HW2 := Lib.hid hw2
    have HK : Hid (∀ W, Below w2.heap.size w2 W → W.cell? ⟨w1.heap.size, 0, none⟩ = some (.int .i64 s.cy) ∧ W.cell? ⟨w1.heap.size, 1, none⟩ = some (.slice ag s.gr.length cg) ∧ W.cell? ⟨w1.heap.size, 2, none⟩ = some (.slice at' s.tr.length ct)) := fun W h => ⟨(h.cell (p := ⟨w1.heap.size, 0, none⟩) hz2).trans x0, (h.cell (p := ⟨w1.heap.size, 1, none⟩) hz2).trans x1, (h.cell (p := ⟨w1.heap.size, 2, none⟩) hz2).trans x2⟩
    have HV : Hid (∀ W, Below w2.heap.size w2 W → StrR W 0 (Value.agg #[Value.int IntKind.i64 s.cy, Value.slice ag s.gr.length cg, Value.slice at' s.tr.length ct]) s) := fun W h => HS2.out.below h (Nat.le_refl _)
    clear hS1 hg ht hw2 hB2 hB1 hv
    go_wp2_with fail
    rw [← HW2.out]
    clear HW2
    refine (impl_best _ 0 _ s (HV.out _ (Below.refl _ _))).mono ?_; rintro e w3 ⟨v3, rfl, hO3, hB3⟩
    obtain ⟨y0, y1, y2⟩ := HK.out _ hB3
    clear x0 x1 x2
    go_wp2_with fail
    refine (spec_best _ 0 _ s (HV.out _ hB3)).mono ?_; rintro e w4 ⟨v4, rfl, hI4, hB4'⟩
    have hB4 := hB3.trans (hB4'.mono hB3.size)
    have hO4 := hO3.below hB4' (Nat.le_refl _)
    have hI3 := hO4.ints rfl
    obtain ⟨z0, z1, z2⟩ := HK.out _ hB4
    obtain ⟨a3, c3, rfl, hc3, hm3⟩ := hO3.form
    clear y0 y1 y2 hO3 hB4' hB3
    obtain ⟨B, hBb⟩ : ∃ B, B = bestO s := ⟨_, rfl⟩
    rw [← hBb] at hO4 hI3 hI4 hc3 ⊢
    by_cases hB0 : B = []
    · subst hB0
      have HBb := Lib.hid hBb
      clear hBb
      have hll : (([] : List Int).length) = 0 := rfl
      rw [hll] at hc3
      go_wp2_with (first
        | (go_at_call 6; refine (equalInts_same _ _ _ [] hI3 hI4).mono ?_; rintro e w5 ⟨rfl, hB5'⟩; have hB5 := hB4.trans (hB5'.mono hB4.size); have t0 := (HK.out _ hB5).1; have t1 := (HK.out _ hB5).2.1; have t2 := (HK.out _ hB5).2.2; have hI5 := Rd.below hI3 hB5' (Nat.le_refl _) (by decide)))
      refine (spec_best _ 0 _ s (HV.out _ hB5)).mono ?_; rintro e w6 ⟨v6, rfl, hI6, hB6'⟩
      have hB6 := hB5.trans (hB6'.mono hB5.size)
      rw [← HBb.out] at hI6
      have hI6' := Rd.below hI5 hB6' (Nat.le_refl _) (by decide)
      go_wp2_with (go_at_call 6; refine (equalInts_same _ _ _ [] hI6' hI6).mono ?_; rintro e w7 ⟨rfl, hB7'⟩)
      go_ret
      exact ⟨rfl, HB2.out.trans ((hB6.trans (hB7'.mono hB6.size)).mono HB2.out.size)⟩
    · have hne : bestO s ≠ [] := by rw [← hBb]; exact hB0
      obtain ⟨hval, _, _⟩ := bestO_ok hne
      obtain ⟨⟨cy1, cy30⟩, ⟨g1, g4⟩, _⟩ := validS_iff.1 hval
      have hbl : B.length = s.gr.length := by rw [hBb]; exact bestO_len hne
      have hb0 : B.getD 0 0 = 0 := by rw [hBb]; exact best_first hne
      obtain ⟨G, hG⟩ : ∃ G, G = s.gr.length := ⟨_, rfl⟩
      have HG := Lib.hid hG
      rw [← hG] at g1 g4
      rw [hbl, ← hG] at hO4 hI3 hc3 ⊢
      obtain ⟨bb, rfl, _, hbb, pc, _, _⟩ := hO4.parts (by omega)
      have hcb := pc 0 (by simp [hbl, ← hG]; omega)
      have hcb' : w4.cell? ⟨bb, 0, none⟩ = some (.int .i64 0) := by
        rw [hcb]
        have e1 : B = 0 :: B.tail := by
          cases B with
          | nil => exact absurd rfl hB0
          | cons a r => simp at hb0; subst hb0; rfl
        rw [List.getElem_map]; congr 2
        have e2 : B[0]'(by simp [hbl, ← hG]; omega) = B.getD 0 0 := by simp [List.getD_eq_getElem?_getD, List.getElem?_eq_getElem (show 0 < B.length by omega)]
        rw [e2, hb0]
      have HBL := Lib.hid hbl
      have HI3 := Lib.hid hI3
      have HBB := Lib.hid hBb
      have hG0 : ((G : Int) == 0) = false := by simp; omega
      have hG0n : (G == 0) = false := by simp; omega
      clear pc hcb hB0 hbl hb0 hG hO4 hI3 hBb
      have KT : Hid (∀ W, Below w4.heap.size w4 W → W.cell? ⟨w1.heap.size, 0, none⟩ = some (.int .i64 s.cy) ∧ W.cell? ⟨w1.heap.size, 1, none⟩ = some (.slice ag s.gr.length cg) ∧ W.cell? ⟨w1.heap.size, 2, none⟩ = some (.slice at' s.tr.length ct) ∧ W.cell? ⟨bb, 0, none⟩ = some (.int .i64 0)) := fun W h => by
        obtain ⟨a, b, c⟩ := HK.out _ (hB4.trans (h.mono hB4.size))
        exact ⟨a, b, c, (h.cell (p := ⟨bb, 0, none⟩) hbb).trans hcb'⟩
      have HB4 := Lib.hid (HB2.out.trans (hB4.mono HB2.out.size))
      have HVV : Hid (∀ W, Below w4.heap.size w4 W → StrR W 0 (Value.agg #[Value.int IntKind.i64 s.cy, Value.slice ag s.gr.length cg, Value.slice at' s.tr.length ct]) s) := fun W h => HV.out _ (hB4.trans (h.mono hB4.size))
      have hI3 := HI3.out
      obtain ⟨N, hN⟩ : ∃ N : Int, N = tbO s B := ⟨_, rfl⟩
      have HN := Lib.hid hN
      clear hB4 HB2 HK HV hN
      go_wp2_with (first
        | (go_at_call 6; refine (equalInts_same _ _ _ B hI3 hI4).mono ?_; rintro e w6 ⟨rfl, hB6⟩; obtain ⟨t0, t1, t2, _⟩ := KT.out _ hB6; clear hI3 hI4)
        | (go_at_call 8; refine (impl_twoWayBand _ 0 _ _ s B (HVV.out _ hB6) (Rd.below HI3.out hB6 (Nat.le_refl _) (by decide))).mono ?_; rintro e w5 ⟨rfl, hB5'⟩; rw [← HN.out]; have hB5 := hB6.trans (hB5'.mono hB6.size); have hz5 : w5.heap.size = w5.heap.size := rfl))
      have HB5 := Lib.hid hB5
      have HB6 := Lib.hid (hB6.trans (hB5'.mono hB6.size))
      clear hB5 hB5' hB6 t0 t1 t2 z0 z1 z2 hcb'
      obtain ⟨c, hcc⟩ := Int.eq_ofNat_of_zero_le (show 0 ≤ s.cy by omega)
      have hc1 : 1 ≤ c := by omega
      have hc30 : c ≤ 30 := by omega
      have HCC := Lib.hid hcc
      have m4 : ¬ s.cy = 0 := by omega
      obtain ⟨E, hE⟩ : ∃ E : Int, E = ((bs.length % c : Nat) : Int) := ⟨_, rfl⟩
      have hEm := Nat.mod_lt bs.length (show 0 < c by omega)
      obtain ⟨E1, hE1⟩ : ∃ E1 : Nat, E1 = bs.length % c := ⟨_, rfl⟩
      rw [← hE1] at hE hEm
      have q1 : ((bs.length : Nat) : Int).tmod s.cy = E := by
        rw [hcc, hE, hE1, Int.tmod_eq_emod_of_nonneg (by omega)]; rfl
      have wrE : IntKind.i64.wrap E = E := IntWalk.i64_in _ (by omega)
      have HE := Lib.hid hE
      clear hcc hE hE1
      obtain ⟨w7, hw7⟩ : ∃ w7, w7 = (w5.alloc (.cells #[] 3)).alloc (.cells #[] 3) := ⟨_, rfl⟩
      have hB7 : Below w5.heap.size w5 w7 := by rw [hw7]; exact ((Below.refl _ _).alloc (Nat.le_refl _) _).alloc (by simp) _
      have KU : Hid (∀ W, Below w5.heap.size w5 W → W.cell? ⟨w1.heap.size, 0, none⟩ = some (.int .i64 s.cy) ∧ W.cell? ⟨w1.heap.size, 1, none⟩ = some (.slice ag s.gr.length cg) ∧ W.cell? ⟨w1.heap.size, 2, none⟩ = some (.slice at' s.tr.length ct) ∧ W.cell? ⟨bb, 0, none⟩ = some (.int .i64 0)) := fun W h => KT.out _ (HB6.out.trans (h.mono HB6.out.size))
      rw [← hw7]
      clear hw7
      go_loopw [6, 7, 8] (fun ve vo i wo => ∃ k : Nat, k ≤ G ∧ i = .int .i64 k ∧ Own wo w5.heap.size 3 1 ve k ((List.replicate k E).map (Value.int .i64)) ∧ Own wo w5.heap.size 3 1 vo k ((oth c bs.length k).map (Value.int .i64)) ∧ Apart ve vo ∧ Below w5.heap.size w5 wo) (fun ve vo i _ => G - (intOf i).toNat)
      case atStart => exact ⟨0, Nat.zero_le _, rfl, empty_own, empty_own, fun k h1 h2 => by simp [wblk] at h1, hB7⟩
      case round =>
        clear hB7
        obtain ⟨k, hk, rfl, hO, hT, hAp, hB⟩ := hrel
        obtain ⟨y0, y1, y2, y3⟩ := KU.out _ hB
        have hz := hB.size
        by_cases hlt : k < G
        · have hmul := Nat.mul_le_mul (show k ≤ 4 by omega) hlen
          have hM0 : (k : Int) * (bs.length : Int) = ((k * bs.length : Nat) : Int) := (Int.natCast_mul _ _).symm
          obtain ⟨m1, hm1⟩ : ∃ m1 : Nat, m1 = k * bs.length := ⟨_, rfl⟩
          rw [← hm1] at hM0 hmul
          obtain ⟨M, hM⟩ : ∃ M : Int, M = ((m1 : Nat) : Int) := ⟨_, rfl⟩
          have wrM : IntKind.i64.wrap ((k : Int) * (bs.length : Int)) = M := by rw [hM0, ← hM]; exact IntWalk.i64_in _ (by omega)
          have hom := Nat.mod_lt m1 (show 0 < c by omega)
          obtain ⟨o1, ho1⟩ : ∃ o1 : Nat, o1 = m1 % c := ⟨_, rfl⟩
          obtain ⟨o, ho⟩ : ∃ o : Int, o = ((o1 : Nat) : Int) := ⟨_, rfl⟩
          have q2 : M.tmod s.cy = o := by
            rw [HCC.out, hM, ho, ho1, Int.tmod_eq_emod_of_nonneg (by omega)]; rfl
          rw [← ho1] at hom
          have wro : IntKind.i64.wrap o = o := IntWalk.i64_in _ (by omega)
          have hot := oth_map c bs.length k
          rw [← hm1, ← ho1, ← ho] at hot
          have hre := repl_map k E
          have HOT := Lib.hid hot
          have HRE := Lib.hid hre
          clear hot hre ho ho1 hM hM0 hm1 hmul hom
          go_wp2_with (first
            | (at_builtin; refine wpList_append_one _ rfl _ _ 23 rfl 3 (.int .i64 0) 8 Try.underlying23 info_int rfl w5.heap.size _ _ _ rfl hO _ _ rfl rfl (by omega) (by omega) hz ?_; intro v8 w8 hO8 hg8 hk8; have hT8 := hT.beside hg8 hAp; have hA8 : Apart v8 u7 := (Apart.step (Apart.symm hAp) hT hk8).symm; have hB8 := hB.trans (below_of_grownBy hg8 hz (fun q hq => (hO.wblk hq).1)); have hz8 : w5.heap.size ≤ w8.heap.size := Nat.le_trans hz hg8.size; obtain ⟨j0, j1, j2, j3⟩ := KU.out _ hB8)
            | (at_builtin; refine wpList_append_one _ rfl _ _ 23 rfl 3 (.int .i64 0) 8 Try.underlying23 info_int rfl w5.heap.size _ _ _ rfl hT8 _ _ rfl rfl (by omega) (by omega) hz8 ?_; intro v9 w9 hO9 hg9 hk9))
          have hB9 := hB8.trans (below_of_grownBy hg9 hz8 (fun q hq => (hT8.wblk hq).1))
          have hG9 := hO8.beside hg9 hA8.symm
          have hA9 : Apart v8 v9 := Apart.step hA8 hO8 hk9
          clear hO hT hAp hO8 hg8 hk8 hT8 hA8 hB8 hg9 hk9
          go_roundw
          case rel => exact ⟨k + 1, by omega, by go_num, by rw [HRE.out]; exact hG9, by rw [HOT.out]; exact hO9, hA9, hB9⟩
          case measure => simp only [intOf]; omega
        · obtain rfl : k = G := by omega
          have hIE : Ints wr 0 u6 (List.replicate k E) := hO.ints (by simp)
          have hIO : Ints wr 0 u7 (oth c bs.length k) := hT.ints (oth_len _ _ _)
          have KS : Hid (∀ W, Below wr.heap.size wr W → (W.cell? ⟨w1.heap.size, 0, none⟩ = some (.int .i64 s.cy) ∧ W.cell? ⟨w1.heap.size, 1, none⟩ = some (.slice ag s.gr.length cg) ∧ W.cell? ⟨w1.heap.size, 2, none⟩ = some (.slice at' s.tr.length ct) ∧ W.cell? ⟨bb, 0, none⟩ = some (.int .i64 0))) := fun W h => KU.out _ (hB.trans (h.mono hz))
          have KV : Hid (∀ W, Below wr.heap.size wr W → StrR W 0 (Value.agg #[Value.int IntKind.i64 s.cy, Value.slice ag s.gr.length cg, Value.slice at' s.tr.length ct]) s) := fun W h => HVV.out _ (HB6.out.trans ((hB.trans (h.mono hz)).mono HB6.out.size))
          have KE : Hid (∀ W, Below wr.heap.size wr W → Ints W 0 u6 (List.replicate k E)) := fun W h => Rd.below hIE h (Nat.le_refl _) (by decide)
          have KO : Hid (∀ W, Below wr.heap.size wr W → Ints W 0 u7 (oth c bs.length k)) := fun W h => Rd.below hIO h (Nat.le_refl _) (by decide)
          have HT : Hid (Below w.heap.size w wr) := HB4.out.trans ((HB6.out.trans (hB.mono HB6.out.size)).mono HB4.out.size)
          have HVAL := Lib.hid hval
          have hn1 : tbO s (wav s) ≤ N := by rw [HN.out, HBB.out]; exact best_wave hne
          have hn2 : tbO s (List.replicate k E) ≤ N := by
            rw [HN.out, HBB.out, HG.out, HE.out]
            exact best_equal hne E1 (by rw [HCC.out]; omega)
          have hn3 : tbO s (oth c bs.length k) ≤ N := by
            rw [HN.out, HBB.out]
            refine best_any hne (by rw [oth_len, HG.out]) ?_ (fun x hx => ?_)
            · simp [oth, show 0 < k by omega]
            · simp only [oth, List.mem_map] at hx
              obtain ⟨i, _, rfl⟩ := hx
              have := Nat.mod_lt (i * bs.length) (show 0 < c by omega)
              rw [HCC.out]
              omega
          obtain ⟨n1, hn1e⟩ : ∃ n1 : Int, n1 = tbO s (wav s) := ⟨_, rfl⟩
          obtain ⟨n2, hn2e⟩ : ∃ n2 : Int, n2 = tbO s (List.replicate k E) := ⟨_, rfl⟩
          obtain ⟨n3, hn3e⟩ : ∃ n3 : Int, n3 = tbO s (oth c bs.length k) := ⟨_, rfl⟩
          rw [← hn1e] at hn1
          rw [← hn2e] at hn2
          rw [← hn3e] at hn3
          have HN1 := Lib.hid hn1e
          have HN2 := Lib.hid hn2e
          have HN3 := Lib.hid hn3e
          have d1 : decide (n1 ≤ N) = true := decide_eq_true hn1
          have d2 : decide (n2 ≤ N) = true := decide_eq_true hn2
          have d3 : decide (n3 ≤ N) = true := decide_eq_true hn3
          have hk0 : (0 : Int) < (k : Int) := by omega
          have hk0n : 0 < k := by omega
          have hk0l : (0 : Int) ≤ (k : Int) := by omega
          have BW : Below wr.heap.size wr wr := Below.refl _ _
          clear hn1e hn2e hn3e hO hT hAp hIE hIO hB hval hne q1 wrE hlt hc1 hc30 hEm hm hcap hcg hmg hct hmt hc3 hm3
          go_wp2_with fail
          go_region_held3 (fun W => W.cell? ⟨w1.heap.size, 0, none⟩ = some (.int .i64 s.cy) ∧ W.cell? ⟨w1.heap.size, 1, none⟩ = some (.slice ag s.gr.length cg) ∧ W.cell? ⟨w1.heap.size, 2, none⟩ = some (.slice at' s.tr.length ct) ∧ W.cell? ⟨bb, 0, none⟩ = some (.int .i64 0))
            ((refine KS.out _ ?_; (first | assumption | exact Below.drew (by assumption))))
            ((first
              | (go_at_call 9; refine (impl_wave _ 0 _ s (KV.out _ ?_) HVAL.out).mono ?_; (first | assumption | exact Below.drew (by assumption)); rintro e wa ⟨va, rfl, hOa, hBa⟩; have hIa : Ints wa 0 va (wav s) := Own.ints hOa rfl; have Bwa : Below wr.heap.size wr wa := Below.trans (by first | assumption | exact Below.drew (by assumption)) (hBa.mono (Below.size (B := wr.heap.size) (w := wr) (by first | assumption | exact Below.drew (by assumption)))))
              | (go_at_call 8; (with_reducible show Calls _ _ #[_, va] _ _); refine (impl_twoWayBand _ 0 _ _ s _ (KV.out _ ?_) (hIa)).mono ?_; (first | assumption | exact Below.drew (by assumption)); rintro e wb ⟨rfl, hBwb⟩; rw [← HN1.out]; have Bwb : Below wr.heap.size wr wb := Below.trans (by first | assumption | exact Below.drew (by assumption)) (hBwb.mono (Below.size (B := wr.heap.size) (w := wr) (by first | assumption | exact Below.drew (by assumption)))))
              | (go_at_call 8; (with_reducible show Calls _ _ #[_, u6] _ _); refine (impl_twoWayBand _ 0 _ _ s _ (KV.out _ ?_) (KE.out _ (by first | assumption | exact Below.drew (by assumption)))).mono ?_; (first | assumption | exact Below.drew (by assumption)); rintro e wc ⟨rfl, hBwc⟩; rw [← HN2.out]; have Bwc : Below wr.heap.size wr wc := Below.trans (by first | assumption | exact Below.drew (by assumption)) (hBwc.mono (Below.size (B := wr.heap.size) (w := wr) (by first | assumption | exact Below.drew (by assumption)))))
              | (go_at_call 8; (with_reducible show Calls _ _ #[_, u7] _ _); refine (impl_twoWayBand _ 0 _ _ s _ (KV.out _ ?_) (KO.out _ (by first | assumption | exact Below.drew (by assumption)))).mono ?_; (first | assumption | exact Below.drew (by assumption)); rintro e wd ⟨rfl, hBwd⟩; rw [← HN3.out]; have Bwd : Below wr.heap.size wr wd := Below.trans (by first | assumption | exact Below.drew (by assumption)) (hBwd.mono (Below.size (B := wr.heap.size) (w := wr) (by first | assumption | exact Below.drew (by assumption)))))))
          all_goals go_wp2_with fail
          all_goals go_ret
          all_goals refine ⟨rfl, HT.out.trans (Below.mono ?_ HT.out.size)⟩
          all_goals (first | assumption | exact Below.drew (by assumption))
  · have hlt : (1048576 : Int) < (bs.length : Int) := by omega
    go_enter Try.func3, Try.ntmps3
    go_wp2
    go_ret
    exact ⟨rfl, Below.refl _ _⟩
end Go.Proofs.Ytbojkhmlfflakaa
