/- formatStages: the reference's. -/
import Derived.Test.YtpaioaknppgggaaGreatDoorTx5
namespace Go.Proofs.YtpaioaknppgggaaGreatDoor
open Go.RowKit
set_option linter.unusedVariables false
set_option linter.unusedSimpArgs false

/-- A string that is known by its bytes. -/
def Str8 (S : ByteArray) (l : List UInt8) : Prop := S = ⟨l.toArray⟩
theorem Str8.size {S : ByteArray} {l : List UInt8} (h : Str8 S l) : S.size = l.length := by rw [h]; exact ba_size l
theorem Str8.app {A B C : ByteArray} {a b : List UInt8} (ha : Str8 A a) (hb : Str8 B b) (h : A ++ B = C) : Str8 C (a ++ b) := by
  rw [← h, ha, hb]; exact ba_app a b

set_option maxRecDepth 100000 in
set_option maxHeartbeats 16000000 in
theorem spec_formatStages (w : World) (lo : Nat) (v : Value) (ss : List Stg) (hv : StgS w lo v ss) (hok : okSt ss = true) :
    Calls Tryz.prog 68 #[v] w fun e w' => e = .returned (.string ⟨(txt ss ss.length).toArray⟩) ∧ Below w.heap.size w w' := by
  obtain ⟨hst, h1, h5⟩ := okSt_iff.1 hok
  obtain ⟨ao, cap, rfl, hcap, hm⟩ := hv.form
  obtain ⟨b, off, rfl, _, hb, hx⟩ := hv.spot (by omega)
  have HX := Lib.hid hx
  have HST := Lib.hid hst
  have HL := Lib.hid (fun k (h : k ≤ ss.length) => txt_len hok k h)
  clear hv hx hst hok
  go_enter Tryz.func68, Tryz.ntmps68
  go_wp2_with fail
  go_loopw [3, 4] (fun out i wo => ∃ (k : Nat) (S : ByteArray), k ≤ ss.length ∧ i = .int .i64 k ∧ out = .string S ∧ Hid (Str8 S (txt ss k)) ∧ Below w.heap.size w wo) (fun out i _ => ss.length - (intOf i).toNat)
  case atStart => exact ⟨0, _, Nat.zero_le _, rfl, rfl, rfl, Below.refl _ _⟩
  case round =>
    obtain ⟨k, S, hk, rfl, rfl, HS, hB⟩ := hrel
    by_cases hlt : k < ss.length
    · obtain ⟨g1, ai, ci, g0, hIj⟩ := HX.out k hlt
      have c0 := (hB.cell (p := ⟨b, off + k * 2, none⟩) hb).trans g0
      have c1 := (hB.cell (p := ⟨b, off + k * 2 + 1, none⟩) hb).trans g1
      have hso := stOkT_iff.1 (HST.out k hlt)
      have hSl := HL.out k hk
      have htx : txt ss (k + 1) = txt ss k ++ sepT k ++ (mvT (ss.getD k s0).ph ++ (58 :: Lib.decDigits (ss.getD k s0).gr.toNat)) := rfl
      obtain ⟨s, hs⟩ : ∃ s, s = ss.getD k s0 := ⟨_, rfl⟩
      rw [← hs] at c0 c1 hIj hso htx g0 g1
      obtain ⟨ph, gr⟩ := s
      have g0' := g0
      have g1' := g1
      clear g0 g1
      simp only at c0 c1 hIj hso htx g0' g1'
      obtain ⟨hmv, hg5, hg40⟩ := hso
      obtain ⟨gn, rfl⟩ := Int.eq_ofNat_of_zero_le (show 0 ≤ gr by omega)
      rw [Int.toNat_natCast] at htx
      have hp8 := moves_len hmv
      have HMV : Hid (∀ j, j < ph.length → 0 ≤ ph.getD j 0 ∧ ph.getD j 0 ≤ 7) := fun j hj => moves_in hmv hj
      have HTX := Lib.hid htx
      have HIJ : Hid (0 < ph.length → ∃ bt ot, ai = some ⟨bt, ot, none⟩ ∧ bt < w.heap.size ∧ ∀ i, i < ph.length → w.cell? ⟨bt, ot + i, none⟩ = some (.int .i64 (ph.getD i 0))) := fun h => by
        obtain ⟨bt, ot, e, _, hbt, hxt⟩ := Rd.spot 0 hIj h
        exact ⟨bt, ot, e, hbt, hxt⟩
      obtain ⟨_, hci, hcm⟩ : (ph.length = ph.length ∧ ph.length ≤ ci ∧ ci ≤ 9223372036854775807) := by
        obtain ⟨a, c, e, h1, h2⟩ := Rd.form hIj
        cases e; exact ⟨rfl, h1, h2⟩
      have HG0 := Lib.hid g0'
      have HG1 := Lib.hid g1'
      clear hs htx hIj hmv g0' g1'
      have hkl : (k : Int) < (ss.length : Int) := by omega
      by_cases hk0 : 0 < k
      · have hk0i : (0 : Int) < (k : Int) := by omega
        obtain ⟨T, hT, kadd⟩ := addS S ⟨#[32]⟩ (by rw [HS.out.size]; omega) (by decide)
        have HT : Hid (Str8 T (txt ss k ++ sepT k)) := by
          have h2 : Str8 (⟨#[32]⟩ : ByteArray) (sepT k) := by unfold Str8 sepT; rw [if_pos hk0]
          exact Str8.app HS.out h2 hT
        have HTS : Hid ((txt ss k ++ sepT k).length ≤ 200) := by unfold Hid; have := sepT_len k; rw [List.length_append]; omega
        clear hT HS
        go_wp2_with fail
        go_loopw [3, 5] (fun out i wo => ∃ (j : Nat) (U : ByteArray), j ≤ ph.length ∧ i = .int .i64 j ∧ out = .string U ∧ Hid (Str8 U (txt ss k ++ sepT k ++ mvT (ph.take j))) ∧ Below w.heap.size w wo) (fun out i _ => ph.length - (intOf i).toNat)
        case atStart => exact ⟨0, _, Nat.zero_le _, rfl, rfl, by unfold Hid; simpa [mvT] using HT.out, hB⟩
        case round =>
          clear hB c0 c1
          obtain ⟨j, U, hj, rfl, rfl, HU, hB⟩ := hrel
          have c0 := (hB.cell (p := ⟨b, off + k * 2, none⟩) hb).trans HG0.out
          have c1 := (hB.cell (p := ⟨b, off + k * 2 + 1, none⟩) hb).trans HG1.out
          have hUs : U.size ≤ 300 := by
            rw [HU.out.size]
            have h1 := HTS.out
            rw [List.length_append]
            simp only [mvT, List.length_map, List.length_take]
            omega
          by_cases hjl : j < ph.length
          · obtain ⟨bt, ot, rfl, hbt, hxt⟩ := HIJ.out (by omega)
            have c2 := (hB.cell (p := ⟨bt, ot + j, none⟩) hbt).trans (hxt j hjl)
            have hmj := HMV.out j hjl
            have hms := mvT_snoc ph hjl
            obtain ⟨x, hx⟩ : ∃ x, x = ph.getD j 0 := ⟨_, rfl⟩
            rw [← hx] at c2 hmj hms
            obtain ⟨xn, rfl⟩ := Int.eq_ofNat_of_zero_le hmj.1
            rw [Int.toNat_natCast] at hms
            have wr1 : IntKind.i64.wrap ((97 : Int) + (xn : Int)) = ((97 + xn : Nat) : Int) := by rw [show (97 : Int) + (xn : Int) = ((97 + xn : Nat) : Int) by omega]; exact IntWalk.i64_in _ (by omega)
            obtain ⟨m, hm97⟩ : ∃ m, m = 97 + xn := ⟨_, rfl⟩
            rw [← hm97] at wr1 hms
            have wr2 : IntKind.u8.wrap (m : Int) = (m : Int) := IntWalk.u8_in _ (by omega)
            have hc := fun W g => conv1 W g m (by omega)
            obtain ⟨D, hD⟩ : ∃ D : ByteArray, D = ⟨#[UInt8.ofNat m]⟩ := ⟨_, rfl⟩
            rw [← hD] at hc
            obtain ⟨E, hE, kadd⟩ := addS U D (by omega) (by rw [hD]; show 1 ≤ 1000000; decide)
            have HE : Hid (Str8 E (txt ss k ++ sepT k ++ mvT (ph.take (j + 1)))) := by
              have h2 : Str8 D [UInt8.ofNat m] := hD
              have h3 := Str8.app HU.out h2 hE
              rw [List.append_assoc, ← hms] at h3
              exact h3
            have HBn : Hid (Below w.heap.size w (wr.alloc (.cells #[.int .u8 (m : Int)] 5))) := hB.alloc hB.size _
            have hbr : b < wr.heap.size := Nat.lt_of_lt_of_le hb hB.size
            have hbtr : bt < wr.heap.size := Nat.lt_of_lt_of_le hbt hB.size
            clear hD hE hms hx hmj hm97 hxt hUs
            go_wp2_with fail
            go_roundw
            case rel => exact ⟨j + 1, E, by omega, by go_num, rfl, HE, HBn.out⟩
            case measure => (simp only [intOf]; omega)
          · have hjj : j = ph.length := by omega
            obtain ⟨V, hV, kadd⟩ := addS U ⟨#[58]⟩ (by omega) (by decide)
            obtain ⟨D, hD⟩ : ∃ D : ByteArray, D = ⟨(Lib.decDigits gn).toArray⟩ := ⟨_, rfl⟩
            have hVs : V.size ≤ 400 := by
              have h2 : Str8 (⟨#[58]⟩ : ByteArray) [58] := rfl
              rw [(Str8.app HU.out h2 hV).size, List.length_append, ← HU.out.size]; simp; omega
            have hDs : D.size ≤ 10 := by
              have := dec_2 (n := gn) (by omega)
              rw [hD, ba_size]; omega
            obtain ⟨E, hE, kadd2⟩ := addS V D (by omega) (by omega)
            have HE : Hid (Str8 E (txt ss (k + 1))) := by
              have h2 : Str8 (⟨#[58]⟩ : ByteArray) [58] := rfl
              have h3 : Str8 D (Lib.decDigits gn) := hD
              have h4 := Str8.app (Str8.app HU.out h2 hV) h3 hE
              unfold Hid
              rw [HTX.out, show ph = ph.take j by rw [hjj, List.take_length]]
              simpa [List.append_assoc] using h4
            have HD := Lib.hid hD
            have hg100 : gn ≤ 1000000 := by omega
            clear hV hE hD hVs hDs hUs
            go_wp2_with (go_at_call 45; refine (spec_formatInt gn _ hg100).mono ?_; rintro e w4 ⟨rfl, hB4⟩; rw [← HD.out])
            have hB5 := hB.trans (hB4.mono hB.size)
            clear hB4 hB
            go_roundw
            case rel => exact ⟨k + 1, E, by omega, by go_num, rfl, HE, hB5⟩
            case measure => (simp only [intOf]; omega)
      · have hk0i : ¬ (0 : Int) < (k : Int) := by omega
        obtain ⟨T, hT⟩ : ∃ T, T = S := ⟨_, rfl⟩
        have HT : Hid (Str8 S (txt ss k ++ sepT k)) := by
          have h2 : sepT k = [] := by unfold sepT; rw [if_neg hk0]
          rw [h2, List.append_nil]; exact HS
        have HTS : Hid ((txt ss k ++ sepT k).length ≤ 200) := by unfold Hid; have := sepT_len k; rw [List.length_append]; omega
        clear hT HS
        go_wp2_with fail
        go_loopw [3, 5] (fun out i wo => ∃ (j : Nat) (U : ByteArray), j ≤ ph.length ∧ i = .int .i64 j ∧ out = .string U ∧ Hid (Str8 U (txt ss k ++ sepT k ++ mvT (ph.take j))) ∧ Below w.heap.size w wo) (fun out i _ => ph.length - (intOf i).toNat)
        case atStart => exact ⟨0, _, Nat.zero_le _, rfl, rfl, by unfold Hid; simpa [mvT] using HT.out, hB⟩
        case round =>
          clear hB c0 c1
          obtain ⟨j, U, hj, rfl, rfl, HU, hB⟩ := hrel
          have c0 := (hB.cell (p := ⟨b, off + k * 2, none⟩) hb).trans HG0.out
          have c1 := (hB.cell (p := ⟨b, off + k * 2 + 1, none⟩) hb).trans HG1.out
          have hUs : U.size ≤ 300 := by
            rw [HU.out.size]
            have h1 := HTS.out
            rw [List.length_append]
            simp only [mvT, List.length_map, List.length_take]
            omega
          by_cases hjl : j < ph.length
          · obtain ⟨bt, ot, rfl, hbt, hxt⟩ := HIJ.out (by omega)
            have c2 := (hB.cell (p := ⟨bt, ot + j, none⟩) hbt).trans (hxt j hjl)
            have hmj := HMV.out j hjl
            have hms := mvT_snoc ph hjl
            obtain ⟨x, hx⟩ : ∃ x, x = ph.getD j 0 := ⟨_, rfl⟩
            rw [← hx] at c2 hmj hms
            obtain ⟨xn, rfl⟩ := Int.eq_ofNat_of_zero_le hmj.1
            rw [Int.toNat_natCast] at hms
            have wr1 : IntKind.i64.wrap ((97 : Int) + (xn : Int)) = ((97 + xn : Nat) : Int) := by rw [show (97 : Int) + (xn : Int) = ((97 + xn : Nat) : Int) by omega]; exact IntWalk.i64_in _ (by omega)
            obtain ⟨m, hm97⟩ : ∃ m, m = 97 + xn := ⟨_, rfl⟩
            rw [← hm97] at wr1 hms
            have wr2 : IntKind.u8.wrap (m : Int) = (m : Int) := IntWalk.u8_in _ (by omega)
            have hc := fun W g => conv1 W g m (by omega)
            obtain ⟨D, hD⟩ : ∃ D : ByteArray, D = ⟨#[UInt8.ofNat m]⟩ := ⟨_, rfl⟩
            rw [← hD] at hc
            obtain ⟨E, hE, kadd⟩ := addS U D (by omega) (by rw [hD]; show 1 ≤ 1000000; decide)
            have HE : Hid (Str8 E (txt ss k ++ sepT k ++ mvT (ph.take (j + 1)))) := by
              have h2 : Str8 D [UInt8.ofNat m] := hD
              have h3 := Str8.app HU.out h2 hE
              rw [List.append_assoc, ← hms] at h3
              exact h3
            have HBn : Hid (Below w.heap.size w (wr.alloc (.cells #[.int .u8 (m : Int)] 5))) := hB.alloc hB.size _
            have hbr : b < wr.heap.size := Nat.lt_of_lt_of_le hb hB.size
            have hbtr : bt < wr.heap.size := Nat.lt_of_lt_of_le hbt hB.size
            clear hD hE hms hx hmj hm97 hxt hUs
            go_wp2_with fail
            go_roundw
            case rel => exact ⟨j + 1, E, by omega, by go_num, rfl, HE, HBn.out⟩
            case measure => (simp only [intOf]; omega)
          · have hjj : j = ph.length := by omega
            obtain ⟨V, hV, kadd⟩ := addS U ⟨#[58]⟩ (by omega) (by decide)
            obtain ⟨D, hD⟩ : ∃ D : ByteArray, D = ⟨(Lib.decDigits gn).toArray⟩ := ⟨_, rfl⟩
            have hVs : V.size ≤ 400 := by
              have h2 : Str8 (⟨#[58]⟩ : ByteArray) [58] := rfl
              rw [(Str8.app HU.out h2 hV).size, List.length_append, ← HU.out.size]; simp; omega
            have hDs : D.size ≤ 10 := by
              have := dec_2 (n := gn) (by omega)
              rw [hD, ba_size]; omega
            obtain ⟨E, hE, kadd2⟩ := addS V D (by omega) (by omega)
            have HE : Hid (Str8 E (txt ss (k + 1))) := by
              have h2 : Str8 (⟨#[58]⟩ : ByteArray) [58] := rfl
              have h3 : Str8 D (Lib.decDigits gn) := hD
              have h4 := Str8.app (Str8.app HU.out h2 hV) h3 hE
              unfold Hid
              rw [HTX.out, show ph = ph.take j by rw [hjj, List.take_length]]
              simpa [List.append_assoc] using h4
            have HD := Lib.hid hD
            have hg100 : gn ≤ 1000000 := by omega
            clear hV hE hD hVs hDs hUs
            go_wp2_with (go_at_call 45; refine (spec_formatInt gn _ hg100).mono ?_; rintro e w4 ⟨rfl, hB4⟩; rw [← HD.out])
            have hB5 := hB.trans (hB4.mono hB.size)
            clear hB4 hB
            go_roundw
            case rel => exact ⟨k + 1, E, by omega, by go_num, rfl, HE, hB5⟩
            case measure => (simp only [intOf]; omega)
    · obtain rfl : k = ss.length := by omega
      go_wp2_with fail
      go_ret
      exact ⟨by rw [HS.out]; rfl, hB⟩
end Go.Proofs.YtpaioaknppgggaaGreatDoor
