/- parseStage: the reference's. -/
import Derived.Test.YtpaioaknppgggaaGreatDoorTx18
namespace Go.Proofs.YtpaioaknppgggaaGreatDoor
open Go.RowKit
set_option linter.unusedVariables false
set_option linter.unusedSimpArgs false

def SpRet (l : List UInt8) (w : World) (e : Ending) (w' : World) : Prop :=
  ∃ hdr : Value, e = .returned (.agg #[hdr, .int .i64 (parseS l).gr]) ∧ Own w' w.heap.size 3 1 hdr (parseS l).ph.length ((parseS l).ph.map (Value.int .i64)) ∧ Below w.heap.size w w'
theorem pw_parts {l : List UInt8} {j : Nat} (hj : j ≤ l.length) (h1 : (l.take j).all isAH = true) (h2 : j < l.length → isAH (l.getD j 0) = false) : l.takeWhile isAH = l.take j ∧ l.dropWhile isAH = l.drop j := by
  have e := (List.take_append_drop j l)
  have ha : ∀ y ∈ l.take j, isAH y = true := List.all_eq_true.1 h1
  by_cases hlt : j < l.length
  · have hd : l.drop j = l.getD j 0 :: l.drop (j + 1) := by
      rw [List.drop_eq_getElem_cons hlt, List.getD_eq_getElem?_getD, List.getElem?_eq_getElem hlt]; rfl
    have := takeWhile_app (r := l.drop (j + 1)) ha (h2 hlt)
    rw [← hd, e] at this
    exact this
  · have hjj : j = l.length := by omega
    subst hjj
    rw [List.take_length] at ha ⊢
    rw [List.drop_length]
    have hx : ∀ (m : List UInt8), (∀ y ∈ m, isAH y = true) → m.takeWhile isAH = m ∧ m.dropWhile isAH = [] := by
      intro m hm
      induction m with
      | nil => exact ⟨rfl, rfl⟩
      | cons a m ih =>
        have h0 := hm a (by simp)
        have := ih (fun y hy => hm y (by simp [hy]))
        rw [List.takeWhile_cons, List.dropWhile_cons, if_pos h0, if_pos h0, this.1, this.2]
        exact ⟨rfl, rfl⟩
    exact hx l ha
theorem parseS_at {l : List UInt8} {j : Nat} (hj : j ≤ l.length) (h1 : (l.take j).all isAH = true) (h2 : j < l.length → isAH (l.getD j 0) = false) :
    parseS l = ⟨mvI (l.take j), if j < l.length ∧ l.getD j 0 = 58 then psn (l.drop (j + 1)) else -1⟩ := by
  obtain ⟨e1, e2⟩ := pw_parts hj h1 h2
  unfold parseS
  rw [e1, e2]
  congr 1
  by_cases hlt : j < l.length
  · have hd : l.drop j = l.getD j 0 :: l.drop (j + 1) := by
      rw [List.drop_eq_getElem_cons hlt, List.getD_eq_getElem?_getD, List.getElem?_eq_getElem hlt]; rfl
    rw [hd]
    simp only [List.head?_cons, Option.some.injEq, List.tail_cons]
    by_cases h : l.getD j 0 = 58
    · rw [if_pos h, if_pos ⟨hlt, h⟩]
    · rw [if_neg h, if_neg (fun x => h x.2)]
  · rw [List.drop_eq_nil_of_le (by omega), if_neg (by simp), if_neg (fun x => hlt x.1)]

theorem sp_end {w W : World} {lo n : Nat} {hdr : Value} {cs : List Value} (hX : Own W w.heap.size 85 2 (.slice (some ⟨w.heap.size, 0, none⟩) 1 1) 1 [.slice none 0 0, .int .i64 0])
    (hT : Below w.heap.size w W) (hO : Own W lo 3 1 hdr n cs) (hlo : w.heap.size < lo) :
    ((W.cell? ⟨w.heap.size, 0, none⟩ = some (.slice none 0 0) ∧ W.cell? ⟨w.heap.size, 1, none⟩ = some (.int .i64 0)) ∧ W.frozen? ⟨w.heap.size, 0, none⟩ = false ∧ W.frozen? ⟨w.heap.size, 1, none⟩ = false) ∧
    Hid (∀ u v, Below w.heap.size w ((W.setCell ⟨w.heap.size, 0, none⟩ u).setCell ⟨w.heap.size, 1, none⟩ v)) ∧
    Hid (∀ u v, Own ((W.setCell ⟨w.heap.size, 0, none⟩ u).setCell ⟨w.heap.size, 1, none⟩ v) w.heap.size 3 1 hdr n cs) :=
  ⟨box2 hX, fun u v => (hT.setCell (Nat.le_refl _) _).setCell (Nat.le_refl _) _,
    fun u v => (((hO.grown (cell_grown (b' := w.heap.size) u 0) (fun k e => by cases e; left; exact hlo)).grown (cell_grown (b' := w.heap.size) v 1) (fun k e => by cases e; left; exact hlo)).mono (Nat.le_of_lt hlo))⟩

set_option maxRecDepth 100000 in
set_option maxHeartbeats 16000000 in
theorem spec_parseStage (w : World) (S : ByteArray) (l : List UInt8) (hS : Str8 S l) (hl63 : l.length ≤ 1000000000) :
    Calls Tryz.prog 93 #[.string S] w (SpRet l w) := by
  have HS := Lib.hid hS
  obtain ⟨w0, hw0⟩ : ∃ w0, w0 = w.alloc (.cells #[.slice none 0 0, .int .i64 0] 85) := ⟨_, rfl⟩
  have hX0 : Own w0 w.heap.size 85 2 (.slice (some ⟨w.heap.size, 0, none⟩) 1 1) 1 [.slice none 0 0, .int .i64 0] := by rw [hw0]; exact Own.made w [.slice none 0 0, .int .i64 0] 85 w.heap.size 2 1 rfl (Nat.le_refl _) (by decide)
  have hB0 : Below w.heap.size w w0 := by rw [hw0]; exact (Below.refl _ _).alloc (Nat.le_refl _) _
  have hz0 : w0.heap.size = w.heap.size + 1 := by rw [hw0]; simp
  have hsa : (S.size : Int) = (l.length : Int) := by rw [hS.size]
  have HX0 := Lib.hid hX0
  have HZ0 := Lib.hid hz0
  have HB0 := Lib.hid hB0
  clear hX0 hB0 hS hz0
  go_enter Tryz.func93, Tryz.ntmps93
  go_wp2_with fail
  rw [← hw0]
  clear hw0
  go_loopw [3, 4] (fun pvv i wo => ∃ j : Nat, j ≤ l.length ∧ i = .int .i64 j ∧ Hid ((l.take j).all isAH = true) ∧ Own wo w0.heap.size 3 1 pvv (mvI (l.take j)).length ((mvI (l.take j)).map (Value.int .i64)) ∧ Below w0.heap.size w0 wo) (fun pvv i _ => l.length - (intOf i).toNat)
  case atStart => exact ⟨0, Nat.zero_le _, rfl, rfl, (by have h := Own.made w0 [] 3 w0.heap.size 1 0 rfl (Nat.le_refl _) (by decide); rw [HZ0.out] at h; rw [HZ0.out]; exact h), (Below.refl _ _).alloc (Nat.le_refl _) _⟩
  case round =>
    obtain ⟨j, hj, rfl, HA, hO, hBw⟩ := hrel
    by_cases hjl : j < l.length
    · have kx := fun W => idx_at HS.out hjl W
      have hpa := fun h => parseS_at hj HA.out h
      obtain ⟨b, hb⟩ : ∃ b, b = l.getD j 0 := ⟨_, rfl⟩
      rw [← hb] at kx hpa
      have hbl : b.toNat < 256 := b.toNat_lt
      obtain ⟨bn, hbn⟩ : ∃ bn, bn = b.toNat := ⟨_, rfl⟩
      rw [← hbn] at kx hbl
      have wr1 : IntKind.i64.wrap (bn : Int) = (bn : Int) := IntWalk.i64_in _ (by omega)
      have hjl2 : (j : Int) < (l.length : Int) := by omega
      cases hin : inR (bn : Int) 97 104
      · have hna : isAH b = false := by
          rw [Bool.eq_false_iff]; intro h
          simp only [isAH, Bool.and_eq_true, decide_eq_true_eq] at h
          rw [inR_iff.2 ⟨by omega, by omega⟩] at hin; cases hin
        have hps := hpa (fun _ => hna)
        have hb58 : b = 58 → bn = 58 := fun e => by rw [hbn, e]; rfl
        have hb58' : (bn : Int) = 58 → b = 58 := fun e => UInt8.toNat_inj.1 (by rw [← hbn, show (58 : UInt8).toNat = 58 from rfl]; omega)
        have hX2 := HX0.out.below hBw (Nat.le_refl _)
        have hTw := HB0.out.trans (hBw.mono HB0.out.size)
        have hlo : w.heap.size < w0.heap.size := by rw [HZ0.out]; omega
        obtain ⟨ml, hml⟩ : ∃ ml, ml = mvI (l.take j) := ⟨_, rfl⟩
        rw [← hml] at hO hps
        obtain ⟨nn, hnn⟩ : ∃ nn, nn = ml.length := ⟨_, rfl⟩
        rw [← hnn] at hO
        obtain ⟨a8, c8, rfl, hc8, hm8⟩ := hO.form
        have HNN := Lib.hid hnn
        clear hml hnn
        have HX2 := Lib.hid hX2
        have HTW := Lib.hid hTw
        have HO := Lib.hid hO
        clear hb hbn hna hpa hX2 hTw hO
        by_cases h58 : b = 58
        · have d58 : ((bn : Int) == 58) = true := by rw [hb58 h58]; rfl
          obtain ⟨q, hq⟩ : ∃ q, q = j + 1 := ⟨_, rfl⟩
          obtain ⟨A, HAA, ks⟩ := sl_from HS.out (n := q) (by omega)
          have wj : IntKind.i64.wrap ((j : Int) + 1) = (q : Int) := by rw [show (j : Int) + 1 = (q : Int) by omega]; exact IntWalk.i64_in _ (by omega)
          obtain ⟨m, hm⟩ : ∃ m, m = l.drop q := ⟨_, rfl⟩
          rw [if_pos ⟨hjl, h58⟩, ← hq, ← hm] at hps
          rw [← hm] at HAA
          have hmn : m.length ≤ 1000000000 := by rw [hm, List.length_drop]; omega
          obtain ⟨pv, hpv⟩ : ∃ pv, pv = psn m := ⟨_, rfl⟩
          rw [← hpv] at hps
          have HPS := Lib.hid hps
          have HPV := Lib.hid hpv
          have HMN := Lib.hid hmn
          clear hm hmn hpv hps h58 hb58 hb58' hq
          go_wp2_with (first
            | (go_at_call 61; refine (inR_d _ 97 104 false _ hin).mono ?_; rintro e w4 ⟨rfl, rfl⟩; clear hin)
            | (go_at_call 40; refine (spec_parseInt _ A _ HAA.out HMN.out).mono ?_; rintro e w5 ⟨rfl, hB5⟩; rw [← HPV.out]; obtain ⟨⟨⟨q0, q1⟩, fq0, fq1⟩, HF, HO5⟩ := sp_end (HX2.out.below hB5 (Nat.le_refl _)) (HTW.out.trans (hB5.mono HTW.out.size)) (HO.out.below hB5 (Nat.le_refl _)) hlo))
          refine bodyPost_ret (v := .agg #[.slice a8 nn c8, .int .i64 pv]) (by simp [results, Tryz.results93, go_sem, q0, q1, fq0, fq1]) rfl ?_
          exact ⟨.slice a8 nn c8, by rw [HPS.out], by rw [HPS.out]; show Own _ _ _ _ _ ml.length _; rw [← HNN.out]; exact HO5.out _ _, HF.out _ _⟩
        · have d58 : ((bn : Int) == 58) = false := beq_eq_false_iff_ne.mpr (fun e => h58 (hb58' e))
          rw [if_neg (fun x => h58 x.2)] at hps
          have HPS := Lib.hid hps
          obtain ⟨⟨⟨q0, q1⟩, fq0, fq1⟩, HF, HO5⟩ := sp_end HX2.out HTW.out HO.out hlo
          clear hps h58 hb58 hb58'
          go_wp2_with (go_at_call 61; refine (inR_d _ 97 104 false _ hin).mono ?_; rintro e w4 ⟨rfl, rfl⟩; clear hin)
          refine bodyPost_ret (v := .agg #[.slice a8 nn c8, .int .i64 (-1)]) (by simp [results, Tryz.results93, go_sem, q0, q1, fq0, fq1]) rfl ?_
          exact ⟨.slice a8 nn c8, by rw [HPS.out], by rw [HPS.out]; show Own _ _ _ _ _ ml.length _; rw [← HNN.out]; exact HO5.out _ _, HF.out _ _⟩
      · have hab : isAH b = true := by
          have := inR_iff.1 hin
          simp only [isAH, Bool.and_eq_true, decide_eq_true_eq]; omega
        have hsn := mvI_snoc l hjl
        have hml : (mvI (l.take j)).length = j := by simp [mvI]; omega
        rw [← hb, ← hbn] at hsn
        have HA2 : Hid ((l.take (j + 1)).all isAH = true) := by
          unfold Hid; rw [take_snoc1 l hjl, ← hb, List.all_append, HA.out]; simp [hab]
        obtain ⟨z, hz⟩ : ∃ z : Int, z = (bn : Int) - 97 := ⟨_, rfl⟩
        have wr2 : IntKind.i64.wrap ((bn : Int) - 97) = z := by rw [hz]; exact IntWalk.i64_in _ (by omega)
        rw [← hz] at hsn
        have hsz := hBw.size
        have HSN := Lib.hid hsn
        rw [hml] at hO
        clear hb hbn hz hsn hab hpa
        go_wp2_with (first
          | (go_at_call 61; refine (inR_d _ 97 104 true _ hin).mono ?_; rintro e w4 ⟨rfl, rfl⟩; clear hin)
          | (at_builtin; refine wpList_append_one _ rfl _ _ 27 rfl 3 (.int .i64 0) 8 Tryz.underlying27 info_i64 rfl w0.heap.size _ _ _ rfl hO _ _ rfl rfl (by omega) (by omega) hsz ?_; intro v' w8 hO8 hg8 _))
        have hB8 := hBw.trans (below_of_grownBy hg8 hsz (fun q hq => (hO.wblk hq).1))
        have hO9 : Own w8 w0.heap.size 3 1 v' (mvI (l.take (j + 1))).length ((mvI (l.take (j + 1))).map (Value.int .i64)) := by
          rw [HSN.out, List.map_append, List.length_append, hml]; exact hO8
        clear hO hg8 hBw hO8
        go_roundw
        case rel => exact ⟨j + 1, by omega, by go_num, HA2, hO9, hB8⟩
        case measure => (simp only [intOf]; omega)
    · have hps := parseS_at hj HA.out (fun h => absurd h hjl)
      rw [if_neg (fun x => hjl x.1)] at hps
      have hjl2 : ¬ (j : Int) < (l.length : Int) := by omega
      have hX2 := HX0.out.below hBw (Nat.le_refl _)
      have hTw := HB0.out.trans (hBw.mono HB0.out.size)
      have hlo : w.heap.size < w0.heap.size := by rw [HZ0.out]; omega
      obtain ⟨ml, hml⟩ : ∃ ml, ml = mvI (l.take j) := ⟨_, rfl⟩
      rw [← hml] at hO hps
      obtain ⟨nn, hnn⟩ : ∃ nn, nn = ml.length := ⟨_, rfl⟩
      rw [← hnn] at hO
      obtain ⟨a8, c8, rfl, hc8, hm8⟩ := hO.form
      have HNN := Lib.hid hnn
      clear hml hnn
      have HX2 := Lib.hid hX2
      have HTW := Lib.hid hTw
      have HO := Lib.hid hO
      have HPS := Lib.hid hps
      obtain ⟨⟨⟨q0, q1⟩, fq0, fq1⟩, HF, HO5⟩ := sp_end HX2.out HTW.out HO.out hlo
      clear hps hX2 hTw hO
      go_wp2_with fail
      refine bodyPost_ret (v := .agg #[.slice a8 nn c8, .int .i64 (-1)]) (by simp [results, Tryz.results93, go_sem, q0, q1, fq0, fq1]) rfl ?_
      exact ⟨.slice a8 nn c8, by rw [HPS.out], by rw [HPS.out]; show Own _ _ _ _ _ ml.length _; rw [← HNN.out]; exact HO5.out _ _, HF.out _ _⟩
end Go.Proofs.YtpaioaknppgggaaGreatDoor
