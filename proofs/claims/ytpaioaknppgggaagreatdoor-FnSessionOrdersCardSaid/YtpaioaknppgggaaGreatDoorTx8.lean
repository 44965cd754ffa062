/- FormatStages: the program's. -/
import Derived.Test.YtpaioaknppgggaaGreatDoorTx7
import Derived.Test.YtpaioaknppgggaaGreatDoorTx1
import Derived.Test.YtpaioaknppgggaaGreatDoorShelfA
namespace Go.Proofs.YtpaioaknppgggaaGreatDoor
open Go.RowKit
set_option linter.unusedVariables false
set_option linter.unusedSimpArgs false

def Bld (B b : Nat) (l : List UInt8) (w : World) : Prop := Lib.IsBuilder 47 5 B b (Lib.byteCells l) w
theorem bat_below {T e : TypeId} {B b : Nat} {p : Value} {bs : List Value} {w w' : World} (h : Lib.BuilderAt T e B b p bs w) (hb : Below w.heap.size w w') : Lib.BuilderAt T e B b p bs w' := by
  have hlt := h.lt
  obtain ⟨h1, v, h2, h3, h4⟩ := h
  refine ⟨h1, v, ?_, ?_, h4⟩
  · rw [hb.block b hlt]; exact h2
  · have hg : w.grownBy w' none := ⟨hb.os, hb.tape, hb.output, hb.size, fun k hk _ => hb.block k (by omega)⟩
    refine h3.kept hg ?_
    cases hv : v.ownBlock with
    | none => exact .inl rfl
    | some q => right; simp
theorem Bld.below {B b : Nat} {l : List UInt8} {w w' : World} (h : Bld B b l w) (hb : Below w.heap.size w w') : Bld B b l w' := by
  rcases h with h | h
  · exact .inl (bat_below h hb)
  · exact .inr (bat_below h hb)
theorem Bld.fresh (w : World) : Bld w.heap.size w.heap.size [] (w.alloc (.cells #[.pointer none, .slice none 0 0] 47)) := Lib.fresh_isBuilder _ _ w
theorem byteCells_snoc1 (l : List UInt8) (x : UInt8) : Lib.byteCells l ++ [Value.int .u8 (x.toNat : Int)] = Lib.byteCells (l ++ [x]) := by rw [Lib.byteCells_append]; rfl

def WrPost (B b : Nat) (l : List UInt8) (w : World) (w' : World) : Prop := Bld B b l w' ∧ Below B w w' ∧ Lib.OthersKept 5 (some b) w w'
theorem bld_byte (B b : Nat) (l : List UInt8) (x : UInt8) (w : World) (h : Bld B b l w) (hl : l.length ≤ 1000000) (hB : B ≤ w.heap.size) (c : Int) (hc : c = (x.toNat : Int)) :
    Calls Tryz.prog 22 #[.pointer (some ⟨b, 0, none⟩), .int .u8 c] w fun e w' => e = .returned .nilIface ∧ WrPost B b (l ++ [x]) w w' := by
  subst hc
  refine (bld_WriteByte B b _ _ w h (by rw [Lib.byteCells_length]; omega) hB).mono ?_
  rintro e w' ⟨rfl, h1, h2, h3⟩
  exact ⟨rfl, .inr (by rw [← byteCells_snoc1]; exact h1), h2, h3⟩
theorem bld_string (B b : Nat) (l m : List UInt8) (S : ByteArray) (hS : Str8 S m) (w : World) (h : Bld B b l w) (hl : l.length + m.length ≤ 1000000) (hB : B ≤ w.heap.size) :
    Calls Tryz.prog 20 #[.pointer (some ⟨b, 0, none⟩), .string S] w fun e w' => e = .returned (.tuple #[.int .i64 S.size, .nilIface]) ∧ WrPost B b (l ++ m) w w' := by
  refine (bld_WriteString B b _ S w h (by rw [Lib.byteCells_length, hS.size]; omega) hB).mono ?_
  rintro e w' ⟨rfl, h1, h2, h3⟩
  refine ⟨rfl, .inr ?_, h2, h3⟩
  rw [Lib.byteCells_append]
  rw [hS] at h1; exact h1
theorem txt_len2 {ss : List Stg} : ∀ k, (∀ j, j < k → stOkT (ss.getD j s0) = true) → (txt ss k).length ≤ 21 * k := by
  intro k
  induction k with
  | zero => intro _; simp [txt]
  | succ k ih =>
    intro h
    have a := ih (fun j hj => h j (by omega))
    have b := stT_len (h k (by omega))
    have c := sepT_len k
    simp only [txt, List.length_append]
    omega
/-- The round's own copy of its stage. -/
def StBox (W : World) (g : Nat) (x y : Value) : Prop := W.heap[g]? = some (.cells #[x, y] 85 (0, 0))
theorem StBox.cells {W : World} {g : Nat} {x y : Value} (h : StBox W g x y) : W.cell? ⟨g, 0, none⟩ = some x ∧ W.cell? ⟨g, 1, none⟩ = some y :=
  ⟨by rw [Lib.cell_of_heap h]; rfl, by rw [Lib.cell_of_heap h]; rfl⟩
theorem StBox.lt {W : World} {g : Nat} {x y : Value} (h : StBox W g x y) : g < W.heap.size := (Array.getElem?_eq_some_iff.1 h).1
theorem StBox.below {V W : World} {g : Nat} {x y : Value} (h : StBox V g x y) (hB : Below V.heap.size V W) : StBox W g x y := by
  have hg := h.lt
  unfold StBox; rw [hB.block g hg]; exact h
theorem StBox.kept {V W : World} {g b : Nat} {x y : Value} (h : StBox V g x y) (hk : Lib.OthersKept 5 (some b) V W) (hne : b < g ∨ g < b) : StBox W g x y :=
  hk g _ h (fun e => by cases e; omega) (fun c fz e => by injection e with _ e2 _; exact absurd e2 (by decide))
theorem StBox.new (V : World) (x y : Value) : StBox (V.alloc (.cells #[x, y] 85)) V.heap.size x y := heap_alloc_new V _
theorem mov_d (w : World) (lo : Nat) (v : Value) (xs : List Int) (r : Bool) (hv : Ints w lo v xs) (h : movesB xs 8 = r) :
    Calls Tryz.prog 57 #[v, .int .i64 8] w fun e w' => e = .returned (.bool r) ∧ Below w.heap.size w w' := by
  rw [← h]; exact validMoves_any w lo v xs 8 (by omega) hv
theorem wit_d (a b c : Int) (v : Bool) (w : World) (h : inR a b c = v) :
    Calls Tryz.prog 50 #[.int .i64 a, .int .i64 b, .int .i64 c] w fun e w' => e = .returned (.bool v) ∧ w = w' := by
  rw [← h]; exact within_any a b c w

set_option maxRecDepth 100000 in
set_option maxHeartbeats 16000000 in
theorem impl_format (w : World) (lo : Nat) (v : Value) (ss : List Stg) (hv : StgS w lo v ss) :
    Calls Tryz.prog 33 #[v] w fun e w' => e = .returned (.string ⟨(fmtO ss).toArray⟩) ∧ Below w.heap.size w w' := by
  obtain ⟨ao, cap, rfl, hcap, hm⟩ := hv.form
  cases hln : inR ss.length 1 5
  · have HN : Hid (fmtO ss = []) := by
      unfold Hid fmtO
      have : okSt ss = false := by unfold okSt; rw [hln]; simp
      rw [this]; rfl
    go_enter Tryz.func33, Tryz.ntmps33
    go_wp2_with (go_at_call 50; refine (wit_d _ 1 5 false _ hln).mono ?_; rintro e w2 ⟨rfl, rfl⟩; clear hln)
    go_ret
    exact ⟨by rw [HN.out]; rfl, Below.refl _ _⟩
  obtain ⟨h1, h5⟩ := inR_iff.1 hln
  obtain ⟨b, off, rfl, _, hb, hx⟩ := hv.spot (by omega)
  have HX := Lib.hid hx
  clear hv hx
  go_enter Tryz.func33, Tryz.ntmps33
  go_wp2_with (go_at_call 50; refine (wit_d _ 1 5 true _ hln).mono ?_; rintro e w2 ⟨rfl, rfl⟩; clear hln)
  obtain ⟨w0, hw0⟩ : ∃ w0, w0 = w.alloc (.cells #[.pointer none, .slice none 0 0] 47) := ⟨_, rfl⟩
  have hB0 : Below w.heap.size w w0 := by rw [hw0]; exact (Below.refl _ _).alloc (Nat.le_refl _) _
  have HF0 : Hid (Bld w.heap.size w.heap.size [] w0) := by rw [hw0]; exact Bld.fresh w
  have hz0 : w.heap.size < w0.heap.size := by rw [hw0]; simp
  rw [← hw0]
  clear hw0
  go_loopw [14] (fun i wo => ∃ k : Nat, k ≤ ss.length ∧ i = .int .i64 k ∧ Hid (Bld w.heap.size w.heap.size (txt ss k) wo) ∧ Hid (∀ j, j < k → stOkT (ss.getD j s0) = true) ∧ Below w.heap.size w wo ∧ w.heap.size < wo.heap.size) (fun i _ => ss.length - (intOf i).toNat)
  case atStart => exact ⟨0, Nat.zero_le _, rfl, HF0, fun j hj => by omega, hB0, hz0⟩
  case round =>
    clear HF0 hB0 hz0
    obtain ⟨k, hk, rfl, HS, HA, hB, hz⟩ := hrel
    by_cases hlt : k < ss.length
    · obtain ⟨g1, ai, ci, g0, hIj⟩ := HX.out k hlt
      have c0 := (hB.cell (p := ⟨b, off + k * 2, none⟩) hb).trans g0
      have c1 := (hB.cell (p := ⟨b, off + k * 2 + 1, none⟩) hb).trans g1
      have hno := okSt_no (ss := ss) (k := k) hlt
      have hso : stOkT (ss.getD k s0) = (movesB (ss.getD k s0).ph 8 && inR (ss.getD k s0).gr 5 40) := rfl
      have htx : txt ss (k + 1) = txt ss k ++ sepT k ++ (mvT (ss.getD k s0).ph ++ (58 :: Lib.decDigits (ss.getD k s0).gr.toNat)) := rfl
      obtain ⟨s, hs⟩ : ∃ s, s = ss.getD k s0 := ⟨_, rfl⟩
      rw [← hs] at c0 c1 hIj hso hno htx
      have HSS := Lib.hid hs
      clear g0 g1 hs
      obtain ⟨ph, gr⟩ := s
      simp only at c0 c1 hIj hso htx
      have hkl : (k : Int) < (ss.length : Int) := by omega
      have hIr := Rd.below hIj (hB.alloc hB.size (.cells #[.slice ai ph.length ci, .int .i64 gr] 85)) (Nat.le_refl _) (by decide)
      have hX0 := StBox.new wr (.slice ai ph.length ci) (.int .i64 gr)
      have hB1 := hB.alloc hB.size (.cells #[.slice ai ph.length ci, .int .i64 gr] 85)
      have hS1 := HS.out.below ((Below.refl _ _).alloc (Nat.le_refl _) (.cells #[.slice ai ph.length ci, .int .i64 gr] 85))
      have HX0 := Lib.hid hX0
      have HS1 := Lib.hid hS1
      have HB1 := Lib.hid hB1
      have HIR := Lib.hid hIr
      obtain ⟨x0, x1⟩ := hX0.cells
      clear hIr hX0 hS1 hB1
      cases hmv : movesB ph 8
      · have HN : Hid (fmtO ss = []) := by unfold Hid fmtO; rw [hno (by rw [hso, hmv]; rfl)]; rfl
        clear hno hso htx
        go_wp2_with (go_at_call 57; refine (mov_d _ lo _ ph false HIR.out hmv).mono ?_; rintro e w2 ⟨rfl, hB2⟩; clear hmv)
        go_ret
        exact ⟨by rw [HN.out]; rfl, HB1.out.trans (hB2.mono HB1.out.size)⟩
      · cases hin : inR gr 5 40
        · have HN : Hid (fmtO ss = []) := by unfold Hid fmtO; rw [hno (by rw [hso, hmv, hin]; rfl)]; rfl
          clear hno hso htx
          go_wp2_with (first
            | (go_at_call 57; refine (mov_d _ lo _ ph true HIR.out hmv).mono ?_; rintro e w2 ⟨rfl, hB2⟩; clear hmv; obtain ⟨y0, y1⟩ := (HX0.out.below hB2).cells)
            | (go_at_call 50; refine (wit_d gr 5 40 false _ hin).mono ?_; rintro e w4 ⟨rfl, rfl⟩; clear hin))
          go_ret
          exact ⟨by rw [HN.out]; rfl, HB1.out.trans (hB2.mono HB1.out.size)⟩
        · have hy : stOkT (⟨ph, gr⟩ : Stg) = true := by rw [hso, hmv, hin]; rfl
          have HA1 : Hid (∀ j, j < k + 1 → stOkT (ss.getD j s0) = true) := fun j hj => by
            by_cases e : j = k
            · subst e; rw [← HSS.out]; exact hy
            · exact HA.out j (by omega)
          have hTl := txt_len2 k HA.out
          have HTS : Hid ((txt ss k ++ sepT k).length ≤ 200) := by unfold Hid; have := sepT_len k; rw [List.length_append]; omega
          have HMV : Hid (∀ j, j < ph.length → 0 ≤ ph.getD j 0 ∧ ph.getD j 0 ≤ 7) := fun j hj => moves_in hmv hj
          have hp8 := moves_len hmv
          obtain ⟨hg5, hg40⟩ := inR_iff.1 hin
          obtain ⟨gn, rfl⟩ := Int.eq_ofNat_of_zero_le (show 0 ≤ gr by omega)
          rw [Int.toNat_natCast] at htx
          have HTX := Lib.hid htx
          have HIJ : Hid (0 < ph.length → ∃ bt ot, ai = some ⟨bt, ot, none⟩ ∧ bt < w.heap.size ∧ ∀ i, i < ph.length → w.cell? ⟨bt, ot + i, none⟩ = some (.int .i64 (ph.getD i 0))) := fun h => by
            obtain ⟨bt, ot, e, _, hbt, hxt⟩ := Rd.spot 0 hIj h
            exact ⟨bt, ot, e, hbt, hxt⟩
          obtain ⟨hci, hcm⟩ : (ph.length ≤ ci ∧ ci ≤ 9223372036854775807) := by
            obtain ⟨a, c, e, h1, h2⟩ := Rd.form hIj
            cases e; exact ⟨h1, h2⟩
          clear hno hso htx hy hTl HA HSS hIj
          by_cases hk0 : 0 < k
          · have hk0i : (0 : Int) < (k : Int) := by omega
            go_wp2_with (first
              | (go_at_call 57; refine (mov_d _ lo _ ph true HIR.out hmv).mono ?_; rintro e w2 ⟨rfl, hB2⟩; clear hmv; have HX2 := Lib.hid (HX0.out.below hB2); obtain ⟨y0, y1⟩ := HX2.out.cells; have HS2 := Lib.hid (HS1.out.below hB2); have hB3 := HB1.out.trans (hB2.mono HB1.out.size); have hz3 := Nat.lt_of_lt_of_le hz (Nat.le_trans (Nat.le_of_lt HX0.out.lt) hB2.size); have hz2g := HX2.out.lt)
              | (go_at_call 50; refine (wit_d (gn : Int) 5 40 true _ hin).mono ?_; rintro e w4 ⟨rfl, rfl⟩; clear hin)
              | (go_at_call 22; refine (bld_byte _ _ _ (32 : UInt8) _ HS2.out (by have h9 := HTS.out; rw [List.length_append] at h9; omega) (Nat.le_of_lt hz3) _ (by decide)).mono ?_; rintro e w5 ⟨rfl, hU5, hB5', hk5⟩; have HX5 := Lib.hid (HX2.out.kept hk5 (.inl hz)); have hB5 := hB3.trans hB5'; have hz5 := Nat.lt_of_lt_of_le hz3 hB5'.size; have HBT : Hid (Bld w.heap.size w.heap.size (txt ss k ++ sepT k) w5) := (by have h2 : sepT k = [32] := (by unfold sepT; rw [if_pos hk0]); rw [h2]; exact hU5); obtain ⟨v0, v1⟩ := HX5.out.cells; clear hU5 hB5' hk5))
            go_loopw [35] (fun i wo => ∃ j : Nat, j ≤ ph.length ∧ i = .int .i64 j ∧ Hid (Bld w.heap.size w.heap.size (txt ss k ++ sepT k ++ mvT (ph.take j)) wo) ∧ Hid (StBox wo wr.heap.size (.slice ai ph.length ci) (.int .i64 gn)) ∧ Below w.heap.size w wo ∧ w.heap.size < wo.heap.size) (fun i _ => ph.length - (intOf i).toNat)
            case atStart => exact ⟨0, Nat.zero_le _, rfl, by unfold Hid; simpa [mvT] using HBT.out, HX5, hB5, hz5⟩
            case round =>
              clear HBT HX5 hB5 hz5
              obtain ⟨j, hj, rfl, HU, HXb, hBz, hzz⟩ := hrel
              obtain ⟨c0, c1⟩ := HXb.out.cells
              have hUl : (txt ss k ++ sepT k ++ mvT (ph.take j)).length ≤ 300 := by
                have h1 := HTS.out
                rw [List.length_append]
                simp only [mvT, List.length_map, List.length_take]
                omega
              have HUL := Lib.hid hUl
              clear hUl
              by_cases hjl : j < ph.length
              · obtain ⟨bt, ot, rfl, hbt, hxt⟩ := HIJ.out (by omega)
                have c2 := (hBz.cell (p := ⟨bt, ot + j, none⟩) hbt).trans (hxt j hjl)
                have hmj := HMV.out j hjl
                have hms := mvT_snoc ph hjl
                obtain ⟨x, hx⟩ : ∃ x, x = ph.getD j 0 := ⟨_, rfl⟩
                rw [← hx] at c2 hmj hms
                obtain ⟨xn, rfl⟩ := Int.eq_ofNat_of_zero_le hmj.1
                rw [Int.toNat_natCast] at hms
                have wr1 : IntKind.u8.wrap (xn : Int) = (xn : Int) := IntWalk.u8_in _ (by omega)
                have wr2 : IntKind.u8.wrap ((97 : Int) + (xn : Int)) = ((97 + xn : Nat) : Int) := by rw [show (97 : Int) + (xn : Int) = ((97 + xn : Nat) : Int) by omega]; exact IntWalk.u8_in _ (by omega)
                obtain ⟨m, hm97⟩ : ∃ m, m = 97 + xn := ⟨_, rfl⟩
                rw [← hm97] at wr2 hms
                have hmc : (m : Int) = ((UInt8.ofNat m).toNat : Int) := by simp [UInt8.toNat_ofNat', Nat.mod_eq_of_lt (show m < 256 by omega)]
                have HMS := Lib.hid hms
                have HMC := Lib.hid hmc
                clear hms hx hmj hm97 hxt hmc
                go_wp2_with (go_at_call 22; refine (bld_byte _ _ _ (UInt8.ofNat m) _ HU.out (by have := HUL.out; omega) (Nat.le_of_lt hzz) _ HMC.out).mono ?_; rintro e w6 ⟨rfl, hU6, hB6, hk6⟩)
                have hX6 := HXb.out.kept hk6 (by omega)
                have hB7 := hBz.trans hB6
                have hz7 := Nat.lt_of_lt_of_le hzz hB6.size
                have HU6 : Hid (Bld w.heap.size w.heap.size (txt ss k ++ sepT k ++ mvT (ph.take (j + 1))) w6) := by
                  rw [List.append_assoc, ← HMS.out] at hU6; exact hU6
                clear hU6 hB6 hk6
                go_roundw
                case rel => exact ⟨j + 1, by omega, by go_num, HU6, hX6, hB7, hz7⟩
                case measure => (simp only [intOf]; omega)
              · have hjj : j = ph.length := by omega
                have HJJ := Lib.hid hjj
                clear hjj
                have hg100 : gn < 100 := by omega
                obtain ⟨D, hD⟩ : ∃ D : ByteArray, D = ⟨(Lib.decDigits gn).toArray⟩ := ⟨_, rfl⟩
                have HD := Lib.hid hD
                have hdl : (Lib.decDigits gn).length ≤ 7 := dec_2 hg100
                have HDL := Lib.hid hdl
                clear hD hdl
                go_wp2_with (first
                  | (go_at_call 22; refine (bld_byte _ _ _ (58 : UInt8) _ HU.out (by have := HUL.out; omega) (Nat.le_of_lt hzz) _ (by decide)).mono ?_; rintro e w6 ⟨rfl, hU6, hB6, hk6⟩; have HX6 := Lib.hid (HXb.out.kept hk6 (by omega)); have HU6 := Lib.hid hU6; have hB7 := hBz.trans hB6; have hz7 := Nat.lt_of_lt_of_le hzz hB6.size; obtain ⟨d0, d1⟩ := HX6.out.cells; clear hU6 hB6 hk6 c0 c1)
                  | (go_at_call 31; refine (Tryz.strconv_Itoa_small gn hg100 _).mono ?_; rintro e w7 ⟨rfl, rfl⟩; rw [← HD.out])
                  | (go_at_call 20; refine (bld_string _ _ _ (Lib.decDigits gn) D HD.out _ HU6.out (by have h8 := HUL.out; have h9 := HDL.out; rw [List.length_append, List.length_singleton]; omega) (Nat.le_of_lt hz7)).mono ?_; rintro e w8 ⟨rfl, hU8, hB8, hk8⟩))
                have hB9 := hB7.trans hB8
                have hz9 := Nat.lt_of_lt_of_le hz7 hB8.size
                have HU9 : Hid (Bld w.heap.size w.heap.size (txt ss (k + 1)) w8) := by
                  unfold Hid
                  rw [HTX.out, show ph = ph.take j by rw [HJJ.out, List.take_length]]
                  simpa [List.append_assoc] using hU8
                clear hU8 hB8 hk8
                go_roundw
                case rel => exact ⟨k + 1, by omega, by go_num, HU9, HA1, hB9, hz9⟩
                case measure => (simp only [intOf]; omega)
          · have hk0i : ¬ (0 : Int) < (k : Int) := by omega
            go_wp2_with (first
              | (go_at_call 57; refine (mov_d _ lo _ ph true HIR.out hmv).mono ?_; rintro e w2 ⟨rfl, hB2⟩; clear hmv; have HX2 := Lib.hid (HX0.out.below hB2); obtain ⟨y0, y1⟩ := HX2.out.cells; have HS2 := Lib.hid (HS1.out.below hB2); have hB3 := HB1.out.trans (hB2.mono HB1.out.size); have hz3 := Nat.lt_of_lt_of_le hz (Nat.le_trans (Nat.le_of_lt HX0.out.lt) hB2.size); have hz2g := HX2.out.lt)
              | (go_at_call 50; refine (wit_d (gn : Int) 5 40 true _ hin).mono ?_; rintro e w4 ⟨rfl, rfl⟩; clear hin))
            have HBT : Hid (Bld w.heap.size w.heap.size (txt ss k ++ sepT k) w2) := by
              have h2 : sepT k = [] := by unfold sepT; rw [if_neg hk0]
              rw [h2, List.append_nil]; exact HS2
            have HX5 := HX2
            have hB5 := hB3
            have hz5 := hz3
            clear hB3 HX2 hz3 HS2
            go_loopw [35] (fun i wo => ∃ j : Nat, j ≤ ph.length ∧ i = .int .i64 j ∧ Hid (Bld w.heap.size w.heap.size (txt ss k ++ sepT k ++ mvT (ph.take j)) wo) ∧ Hid (StBox wo wr.heap.size (.slice ai ph.length ci) (.int .i64 gn)) ∧ Below w.heap.size w wo ∧ w.heap.size < wo.heap.size) (fun i _ => ph.length - (intOf i).toNat)
            case atStart => exact ⟨0, Nat.zero_le _, rfl, by unfold Hid; simpa [mvT] using HBT.out, HX5, hB5, hz5⟩
            case round =>
              clear HBT HX5 hB5 hz5
              obtain ⟨j, hj, rfl, HU, HXb, hBz, hzz⟩ := hrel
              obtain ⟨c0, c1⟩ := HXb.out.cells
              have hUl : (txt ss k ++ sepT k ++ mvT (ph.take j)).length ≤ 300 := by
                have h1 := HTS.out
                rw [List.length_append]
                simp only [mvT, List.length_map, List.length_take]
                omega
              have HUL := Lib.hid hUl
              clear hUl
              by_cases hjl : j < ph.length
              · obtain ⟨bt, ot, rfl, hbt, hxt⟩ := HIJ.out (by omega)
                have c2 := (hBz.cell (p := ⟨bt, ot + j, none⟩) hbt).trans (hxt j hjl)
                have hmj := HMV.out j hjl
                have hms := mvT_snoc ph hjl
                obtain ⟨x, hx⟩ : ∃ x, x = ph.getD j 0 := ⟨_, rfl⟩
                rw [← hx] at c2 hmj hms
                obtain ⟨xn, rfl⟩ := Int.eq_ofNat_of_zero_le hmj.1
                rw [Int.toNat_natCast] at hms
                have wr1 : IntKind.u8.wrap (xn : Int) = (xn : Int) := IntWalk.u8_in _ (by omega)
                have wr2 : IntKind.u8.wrap ((97 : Int) + (xn : Int)) = ((97 + xn : Nat) : Int) := by rw [show (97 : Int) + (xn : Int) = ((97 + xn : Nat) : Int) by omega]; exact IntWalk.u8_in _ (by omega)
                obtain ⟨m, hm97⟩ : ∃ m, m = 97 + xn := ⟨_, rfl⟩
                rw [← hm97] at wr2 hms
                have hmc : (m : Int) = ((UInt8.ofNat m).toNat : Int) := by simp [UInt8.toNat_ofNat', Nat.mod_eq_of_lt (show m < 256 by omega)]
                have HMS := Lib.hid hms
                have HMC := Lib.hid hmc
                clear hms hx hmj hm97 hxt hmc
                go_wp2_with (go_at_call 22; refine (bld_byte _ _ _ (UInt8.ofNat m) _ HU.out (by have := HUL.out; omega) (Nat.le_of_lt hzz) _ HMC.out).mono ?_; rintro e w6 ⟨rfl, hU6, hB6, hk6⟩)
                have hX6 := HXb.out.kept hk6 (by omega)
                have hB7 := hBz.trans hB6
                have hz7 := Nat.lt_of_lt_of_le hzz hB6.size
                have HU6 : Hid (Bld w.heap.size w.heap.size (txt ss k ++ sepT k ++ mvT (ph.take (j + 1))) w6) := by
                  rw [List.append_assoc, ← HMS.out] at hU6; exact hU6
                clear hU6 hB6 hk6
                go_roundw
                case rel => exact ⟨j + 1, by omega, by go_num, HU6, hX6, hB7, hz7⟩
                case measure => (simp only [intOf]; omega)
              · have hjj : j = ph.length := by omega
                have HJJ := Lib.hid hjj
                clear hjj
                have hg100 : gn < 100 := by omega
                obtain ⟨D, hD⟩ : ∃ D : ByteArray, D = ⟨(Lib.decDigits gn).toArray⟩ := ⟨_, rfl⟩
                have HD := Lib.hid hD
                have hdl : (Lib.decDigits gn).length ≤ 7 := dec_2 hg100
                have HDL := Lib.hid hdl
                clear hD hdl
                go_wp2_with (first
                  | (go_at_call 22; refine (bld_byte _ _ _ (58 : UInt8) _ HU.out (by have := HUL.out; omega) (Nat.le_of_lt hzz) _ (by decide)).mono ?_; rintro e w6 ⟨rfl, hU6, hB6, hk6⟩; have HX6 := Lib.hid (HXb.out.kept hk6 (by omega)); have HU6 := Lib.hid hU6; have hB7 := hBz.trans hB6; have hz7 := Nat.lt_of_lt_of_le hzz hB6.size; obtain ⟨d0, d1⟩ := HX6.out.cells; clear hU6 hB6 hk6 c0 c1)
                  | (go_at_call 31; refine (Tryz.strconv_Itoa_small gn hg100 _).mono ?_; rintro e w7 ⟨rfl, rfl⟩; rw [← HD.out])
                  | (go_at_call 20; refine (bld_string _ _ _ (Lib.decDigits gn) D HD.out _ HU6.out (by have h8 := HUL.out; have h9 := HDL.out; rw [List.length_append, List.length_singleton]; omega) (Nat.le_of_lt hz7)).mono ?_; rintro e w8 ⟨rfl, hU8, hB8, hk8⟩))
                have hB9 := hB7.trans hB8
                have hz9 := Nat.lt_of_lt_of_le hz7 hB8.size
                have HU9 : Hid (Bld w.heap.size w.heap.size (txt ss (k + 1)) w8) := by
                  unfold Hid
                  rw [HTX.out, show ph = ph.take j by rw [HJJ.out, List.take_length]]
                  simpa [List.append_assoc] using hU8
                clear hU8 hB8 hk8
                go_roundw
                case rel => exact ⟨k + 1, by omega, by go_num, HU9, HA1, hB9, hz9⟩
                case measure => (simp only [intOf]; omega)
    · have hkn : k = ss.length := by omega
      have hok : okSt ss = true := okSt_iff.2 ⟨fun j hj => HA.out j (by omega), by omega, by omega⟩
      have HN : Hid (fmtO ss = txt ss k) := by unfold Hid fmtO; rw [if_pos hok, hkn]
      clear hkn hok HA
      go_wp2_with (go_at_call 23; refine (Tryz.Builder_String_any w.heap.size w.heap.size (txt ss k) _ HS.out (Nat.le_of_lt hz)).mono ?_; rintro e w4 ⟨rfl, hB4⟩)
      go_ret
      exact ⟨by rw [HN.out]; rfl, hB.trans hB4⟩
end Go.Proofs.YtpaioaknppgggaaGreatDoor
