/- parseStage: the program's. -/
import Derived.Test.YtpaioaknppgggaaGreatDoorTx12
namespace Go.Proofs.YtpaioaknppgggaaGreatDoor
open Go.RowKit
set_option linter.unusedVariables false
set_option linter.unusedSimpArgs false

def PstRet (l : List UInt8) (w : World) (e : Ending) (w' : World) : Prop :=
  ∃ (hdr : Value) (gr : Int) (b : Bool), e = .returned (.tuple #[.agg #[hdr, .int .i64 gr], .bool b]) ∧
    ((b = true ∧ ∃ st : Stg, parseI l = some st ∧ gr = st.gr ∧ Own w' w.heap.size 3 1 hdr st.ph.length (st.ph.map (Value.int .i64))) ∨ (b = false ∧ parseI l = none ∧ hdr = .slice none 0 0 ∧ gr = 0)) ∧ Below w.heap.size w w'
theorem info_i64 : (Tryz.prog.info? 3).map (fun i => (i.zero, i.size, i.bytes)) = some (some (.int .i64 0), 1, 8) := by kernel_rfl
theorem box2 {W : World} {lo T b : Nat} {x y : Value} (h : Own W lo T 2 (.slice (some ⟨b, 0, none⟩) 1 1) 1 [x, y]) :
    (W.cell? ⟨b, 0, none⟩ = some x ∧ W.cell? ⟨b, 1, none⟩ = some y) ∧ W.frozen? ⟨b, 0, none⟩ = false ∧ W.frozen? ⟨b, 1, none⟩ = false := by
  obtain ⟨_, eg, _, _, pS, fS, _⟩ := h.parts (by omega)
  cases eg
  exact ⟨⟨pS 0 (by simp), pS 1 (by simp)⟩, fS 0, fS 1⟩
theorem pn_hi (l : List UInt8) : -1 ≤ pn l ∧ pn l ≤ 999 := by
  unfold pn
  split
  · rename_i h
    have h1 := numV_lt l h.2.2.2
    have : 10 ^ l.length ≤ 10 ^ 3 := Nat.pow_le_pow_right (by omega) (by omega)
    omega
  · omega
theorem mvI_snoc (l : List UInt8) {j : Nat} (hj : j < l.length) : mvI (l.take (j + 1)) = mvI (l.take j) ++ [((l.getD j 0).toNat : Int) - 97] := by
  rw [take_snoc1 l hj]; simp [mvI]
theorem parseI_no1 {l : List UInt8} (h : ¬ (58 : UInt8) ∈ l) : parseI l = none := by unfold parseI; simp only; rw [if_neg (fun x => h x.1)]

set_option maxRecDepth 100000 in
set_option maxHeartbeats 16000000 in
theorem impl_parseStage (w : World) (S : ByteArray) (l : List UInt8) (hS : Str8 S l) (hl63 : l.length ≤ 1000000000) :
    Calls Tryz.prog 82 #[.string S] w (PstRet l w) := by
  have HS := Lib.hid hS
  obtain ⟨w0, hw0⟩ : ∃ w0, w0 = w.alloc (.cells #[.slice none 0 0, .int .i64 0] 85) := ⟨_, rfl⟩
  have hX0 : Own w0 w.heap.size 85 2 (.slice (some ⟨w.heap.size, 0, none⟩) 1 1) 1 [.slice none 0 0, .int .i64 0] := by rw [hw0]; exact Own.made w [.slice none 0 0, .int .i64 0] 85 w.heap.size 2 1 rfl (Nat.le_refl _) (by decide)
  have hB0 : Below w.heap.size w w0 := by rw [hw0]; exact (Below.refl _ _).alloc (Nat.le_refl _) _
  have hz0 : w0.heap.size = w.heap.size + 1 := by rw [hw0]; simp
  have HX0 := Lib.hid hX0
  have HB0 := Lib.hid hB0
  clear hX0 hB0 hS
  go_enter Tryz.func82, Tryz.ntmps82
  go_wp2_with fail
  go_at_call 105
  rw [← hw0]
  clear hw0
  refine (cut_any _ S l HS.out hl63).mono ?_; rintro e w1 ⟨A, B, f, rfl, hcut, hB1⟩
  have hX1 := HX0.out.below hB1 (Nat.le_refl _)
  obtain ⟨⟨q0, q1⟩, fq0, fq1⟩ := box2 hX1
  have hT1 := HB0.out.trans (hB1.mono HB0.out.size)
  have HF : Hid (∀ u v, Below w.heap.size w ((w1.setCell ⟨w.heap.size, 0, none⟩ u).setCell ⟨w.heap.size, 1, none⟩ v)) := fun u v => (hT1.setCell (Nat.le_refl _) _).setCell (Nat.le_refl _) _
  have HB1 := Lib.hid hB1
  have HX1 := Lib.hid hX1
  clear HX0 hX1 hT1 hB1
  rcases hcut with ⟨rfl, hm, hA, hB⟩ | ⟨rfl, hm, hA, hB⟩
  · obtain ⟨ls, hls⟩ : ∃ ls, ls = l.takeWhile fun b => b != 58 := ⟨_, rfl⟩
    obtain ⟨nm, hnm⟩ : ∃ nm, nm = (l.dropWhile fun b => b != 58).tail := ⟨_, rfl⟩
    have hll := (cut_parts hm).2
    rw [← hls] at hA hll
    rw [← hnm] at hB
    have hnl : nm.length ≤ 1000000000 := by
      have := congrArg List.length (cut_parts hm).1
      rw [List.length_append, List.length_cons, ← hls, ← hnm] at this
      omega
    have hpI : parseI l = if ls.length ≤ 8 ∧ inR (pn nm) 5 40 = true ∧ movesB (mvI ls) 8 = true then some ⟨mvI ls, pn nm⟩ else none := by
      unfold parseI
      simp only
      rw [← hls, ← hnm]
      by_cases h : ls.length ≤ 8 ∧ inR (pn nm) 5 40 = true ∧ movesB (mvI ls) 8 = true
      · rw [if_pos h, if_pos ⟨hm, h⟩]
      · rw [if_neg h, if_neg (fun x => h x.2)]
    obtain ⟨pv, hpv⟩ : ∃ pv, pv = pn nm := ⟨_, rfl⟩
    rw [← hpv] at hpI
    have HPN := Lib.hid hpv
    have HAA := Lib.hid hA
    have HBB := Lib.hid hB
    have HBL : Hid (nm.length ≤ 9223372036854775807) := by unfold Hid; omega
    have HPI := Lib.hid hpI
    have hsa : (A.size : Int) = (ls.length : Int) := by rw [hA.size]
    have hlsn : ls.length ≤ 1000000000 := by omega
    clear hls hnm hm hA hB hpv hnl hpI hll
    by_cases h8 : 8 < ls.length
    · have HN : Hid (parseI l = none) := by unfold Hid; rw [HPI.out, if_neg (fun x => by omega)]
      have d8 : (8 : Int) < (ls.length : Int) := by omega
      have d8b : decide ((8 : Int) < (ls.length : Int)) = true := decide_eq_true d8
      go_wp2_with (go_at_call 38; refine (impl_parseNumber _ B _ HBB.out HBL.out).mono ?_; rintro e w2 ⟨rfl, rfl⟩; rw [← HPN.out])
      refine bodyPost_ret (v := .tuple #[.agg #[.slice none 0 0, .int .i64 0], .bool false]) (by simp [results, Tryz.results82, go_sem, q0, q1, fq0, fq1]) rfl ?_
      exact ⟨_, 0, false, rfl, .inr ⟨rfl, HN.out, rfl, rfl⟩, HF.out _ _⟩
    have d8 : ¬ (8 : Int) < (ls.length : Int) := by omega
    have d8b : decide ((8 : Int) < (ls.length : Int)) = false := decide_eq_false d8
    cases hin : inR pv 5 40
    · have HN : Hid (parseI l = none) := by unfold Hid; rw [HPI.out, if_neg (fun x => by rw [hin] at x; cases x.2.1)]
      go_wp2_with (first
        | (go_at_call 38; refine (impl_parseNumber _ B _ HBB.out HBL.out).mono ?_; rintro e w2 ⟨rfl, rfl⟩; rw [← HPN.out])
        | (go_at_call 50; refine (wit_d pv 5 40 false _ hin).mono ?_; rintro e w3 ⟨rfl, rfl⟩))
      refine bodyPost_ret (v := .tuple #[.agg #[.slice none 0 0, .int .i64 0], .bool false]) (by simp [results, Tryz.results82, go_sem, q0, q1, fq0, fq1]) rfl ?_
      exact ⟨_, 0, false, rfl, .inr ⟨rfl, HN.out, rfl, rfl⟩, HF.out _ _⟩
    · go_wp2_with (first
        | (go_at_call 38; refine (impl_parseNumber _ B _ HBB.out HBL.out).mono ?_; rintro e w2 ⟨rfl, rfl⟩; rw [← HPN.out])
        | (go_at_call 50; refine (wit_d pv 5 40 true _ hin).mono ?_; rintro e w3 ⟨rfl, rfl⟩))
      go_loopw [8, 33] (fun pvv i wo => ∃ j : Nat, j ≤ ls.length ∧ i = .int .i64 j ∧ Own wo w1.heap.size 3 1 pvv (mvI (ls.take j)).length ((mvI (ls.take j)).map (Value.int .i64)) ∧ Below w1.heap.size w1 wo) (fun pvv i _ => ls.length - (intOf i).toNat)
      case atStart => exact ⟨0, Nat.zero_le _, rfl, Own.nil _ _ _ _, Below.refl _ _⟩
      case round =>
        clear q0 q1 fq0 fq1 HF
        obtain ⟨j, hj, rfl, hO, hBw⟩ := hrel
        by_cases hjl : j < ls.length
        · have kx := fun W => idx_at HAA.out hjl W
          have hsn := mvI_snoc ls hjl
          have hml : (mvI (ls.take j)).length = j := by simp [mvI]; omega
          obtain ⟨b, hb⟩ : ∃ b, b = ls.getD j 0 := ⟨_, rfl⟩
          rw [← hb] at kx hsn
          have hbl : b.toNat < 256 := b.toNat_lt
          obtain ⟨bn, hbn⟩ : ∃ bn, bn = b.toNat := ⟨_, rfl⟩
          rw [← hbn] at kx hbl hsn
          have wr1 : IntKind.i64.wrap (bn : Int) = (bn : Int) := IntWalk.i64_in _ (by omega)
          obtain ⟨z, hz⟩ : ∃ z : Int, z = (bn : Int) - 97 := ⟨_, rfl⟩
          have wr2 : IntKind.i64.wrap ((bn : Int) - 97) = z := by rw [hz]; exact IntWalk.i64_in _ (by omega)
          rw [← hz] at hsn
          have hjl2 : (j : Int) < (ls.length : Int) := by omega
          have hsz := hBw.size
          have HSN := Lib.hid hsn
          rw [hml] at hO
          clear hb hbn hz hsn
          go_wp2_with (at_builtin; refine wpList_append_one _ rfl _ _ 27 rfl 3 (.int .i64 0) 8 Tryz.underlying27 info_i64 rfl w1.heap.size _ _ _ rfl hO _ _ rfl rfl (by omega) (by omega) hsz ?_; intro v' w8 hO8 hg8 _)
          have hB8 := hBw.trans (below_of_grownBy hg8 hsz (fun q hq => (hO.wblk hq).1))
          have hO9 : Own w8 w1.heap.size 3 1 v' (mvI (ls.take (j + 1))).length ((mvI (ls.take (j + 1))).map (Value.int .i64)) := by
            rw [HSN.out, List.map_append, List.length_append, hml]; exact hO8
          clear hO hg8 hBw hO8
          go_roundw
          case rel => exact ⟨j + 1, by omega, by go_num, hO9, hB8⟩
          case measure => (simp only [intOf]; omega)
        · have hjj : j = ls.length := by omega
          rw [hjj, List.take_length] at hO
          have hml : (mvI ls).length = ls.length := by simp [mvI]
          have hI : Ints wr 0 u8 (mvI ls) := hO.ints rfl
          have hX2 := HX1.out.below hBw (Nat.le_refl _)
          have hTw := (HB0.out.trans (HB1.out.mono HB0.out.size)).trans (hBw.mono (Nat.le_trans HB0.out.size HB1.out.size))
          have HI := Lib.hid hI
          have HO := Lib.hid hO
          have HX2 := Lib.hid hX2
          have HTW := Lib.hid hTw
          have hz1 : w.heap.size < w1.heap.size := by have := HB1.out.size; omega
          clear hjj hO hI hX2 hTw
          obtain ⟨a8, c8, e8, hc8, hm8⟩ := HO.out.form
          cases hmv : movesB (mvI ls) 8
          · have HN : Hid (parseI l = none) := by unfold Hid; rw [HPI.out, if_neg (fun x => by rw [hmv] at x; cases x.2.2)]
            clear e8
            go_wp2_with (go_at_call 57; refine (mov_d _ 0 _ (mvI ls) false HI.out hmv).mono ?_; rintro e w5 ⟨rfl, hB5⟩; clear hmv; obtain ⟨⟨q0, q1⟩, fq0, fq1⟩ := box2 (HX2.out.below hB5 (Nat.le_refl _)); have hT5 := HTW.out.trans (hB5.mono HTW.out.size); have HF : Hid (∀ u v, Below w.heap.size w ((w5.setCell ⟨w.heap.size, 0, none⟩ u).setCell ⟨w.heap.size, 1, none⟩ v)) := fun u v => (hT5.setCell (Nat.le_refl _) _).setCell (Nat.le_refl _) _)
            refine bodyPost_ret (v := .tuple #[.agg #[.slice none 0 0, .int .i64 0], .bool false]) (by simp [results, Tryz.results82, go_sem, q0, q1, fq0, fq1]) rfl ?_
            exact ⟨_, 0, false, rfl, .inr ⟨rfl, HN.out, rfl, rfl⟩, HF.out _ _⟩
          · have HN : Hid (parseI l = some ⟨mvI ls, pv⟩) := by unfold Hid; rw [HPI.out, if_pos ⟨by omega, hin, hmv⟩]
            rw [hml] at e8
            rw [e8]
            rw [e8] at HO HI
            clear e8 hml hc8
            go_wp2_with (go_at_call 57; refine (mov_d _ 0 _ (mvI ls) true HI.out hmv).mono ?_; rintro e w5 ⟨rfl, hB5⟩; clear hmv; obtain ⟨⟨q0, q1⟩, fq0, fq1⟩ := box2 (HX2.out.below hB5 (Nat.le_refl _)); have hT5 := HTW.out.trans (hB5.mono HTW.out.size); have HF : Hid (∀ u v, Below w.heap.size w ((w5.setCell ⟨w.heap.size, 0, none⟩ u).setCell ⟨w.heap.size, 1, none⟩ v)) := fun u v => (hT5.setCell (Nat.le_refl _) _).setCell (Nat.le_refl _) _; have hO5 := HO.out.below hB5 (Nat.le_refl _); have HO5 : Hid (∀ u v, Own ((w5.setCell ⟨w.heap.size, 0, none⟩ u).setCell ⟨w.heap.size, 1, none⟩ v) w.heap.size 3 1 (.slice a8 ls.length c8) (mvI ls).length ((mvI ls).map (Value.int .i64))) := fun u v => (((hO5.grown (cell_grown (b' := w.heap.size) u 0) (fun k e => by cases e; left; exact hz1)).grown (cell_grown (b' := w.heap.size) v 1) (fun k e => by cases e; left; exact hz1)).mono (Nat.le_of_lt hz1)); clear hO5)
            refine bodyPost_ret (v := .tuple #[.agg #[.slice a8 ls.length c8, .int .i64 pv], .bool true]) (by simp [results, Tryz.results82, go_sem, q0, q1, fq0, fq1]) rfl ?_
            exact ⟨_, pv, true, rfl, .inl ⟨rfl, ⟨mvI ls, pv⟩, HN.out, rfl, HO5.out _ _⟩, HF.out _ _⟩
  · have HN : Hid (parseI l = none) := parseI_no1 hm
    have HPN : Hid ((-1 : Int) = pn []) := by unfold Hid pn; rw [if_neg (by simp)]
    have HBB := Lib.hid hB
    have HBL : Hid (([] : List UInt8).length ≤ 9223372036854775807) := by unfold Hid; simp
    have hsa : (A.size : Int) = (l.length : Int) := by rw [hA.size]
    clear hm hA hB
    go_wp2_with (go_at_call 38; refine (impl_parseNumber _ B _ HBB.out HBL.out).mono ?_; rintro e w2 ⟨rfl, rfl⟩; rw [← HPN.out])
    refine bodyPost_ret (v := .tuple #[.agg #[.slice none 0 0, .int .i64 0], .bool false]) (by simp [results, Tryz.results82, go_sem, q0, q1, fq0, fq1]) rfl ?_
    exact ⟨_, 0, false, rfl, .inr ⟨rfl, HN.out, rfl, rfl⟩, HF.out _ _⟩
end Go.Proofs.YtpaioaknppgggaaGreatDoor
