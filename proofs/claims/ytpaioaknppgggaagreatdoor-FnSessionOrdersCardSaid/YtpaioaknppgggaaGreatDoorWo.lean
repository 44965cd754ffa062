/- FnSessionOrders: the walk. -/
import Derived.Test.YtpaioaknppgggaaGreatDoorOp
import Derived.Deep.QuietTactic
import Derived.BigQuiet
namespace Go.Proofs.YtpaioaknppgggaaGreatDoor
open Go.RowKit
set_option linter.unusedVariables false
set_option linter.unusedSimpArgs false

theorem info_intO : (Tryz.prog.info? 3).map (fun i => (i.zero, i.size, i.bytes)) = some (some (.int .i64 0), 1, 8) := by kernel_rfl
def nint (n : Nat) : Value := .int .i64 (n : Int)
theorem ints_nint {w : World} {lo : Nat} {v : Value} {os : List Nat} (h : Own w lo 3 1 v os.length (os.map nint)) : Ints w 0 v (os.map fun n : Nat => (n : Int)) := by
  have h1 : Rd w 0 v 1 os.length (os.map nint) := h.rd.mono (Nat.zero_le _)
  unfold Ints
  rw [List.map_map, List.length_map]
  exact h1
theorem own_acc {w : World} {lo : Nat} {v : Value} {p : List Nat} {o k : Nat} (hm : o = k + 1) (h : Own w lo 3 1 v ((accO p o k).length + 1) ((accO p o k).map nint ++ [.int .i64 ((k : Int) + 1)])) :
    Own w lo 3 1 v (accO p o (k + 1)).length ((accO p o (k + 1)).map nint) := by
  subst hm
  rw [accO_hit, List.length_append, List.map_append]
  exact h
set_option maxRecDepth 100000 in
set_option maxHeartbeats 16000000 in
theorem fnSessionOrders_walk (w : World) (v : Value) (bs : List UInt8) (hv : Bytes w 0 v bs) (hg : GW w) :
    Calls Tryz.prog 5 #[v] w fun e w' => e = .returned (.bool true) ∧ Below w.heap.size w w' := by
  have HDR := Lib.hid (drawRunSession w v bs hv)
  obtain ⟨ao, cap, rfl, hcap, hm⟩ := hv.form
  have HG := Lib.hid hg
  clear hv hg
  by_cases hbig : 1048576 < bs.length
  · have db : (1048576 : Int) < ((bs.length : Nat) : Int) := by omega
    go_enter Tryz.func5, Tryz.ntmps5
    go_wp2_with fail
    go_ret
    exact ⟨rfl, Below.refl _ _⟩
  have db : ¬ (1048576 : Int) < ((bs.length : Nat) : Int) := by omega
  go_enter Tryz.func5, Tryz.ntmps5
  go_wp2_with fail
  go_at_call 8
  refine HDR.out.mono ?_
  rintro e w2 ⟨v2, ls, rfl, hO2, hfew, hB2⟩
  obtain ⟨bo, bc, rfl, _, _⟩ := hO2.form
  have HL := Lib.hid (lnsD_of_own hO2)
  have HFW := Lib.hid hfew
  have hlen15 := hfew.1
  have HB2 := Lib.hid hB2
  have HRD : Hid (∀ V, Below w2.heap.size w2 V → ∀ k, k ≤ ls.length → LnsR V 0 (.slice bo k bc) (ls.take k)) := fun V hb k hk => lns_take (lns_below HL.out hb) rfl hk
  have HBG : Hid (∀ k, ∀ x ∈ ls.take k, x.length ≤ 1000000000) := fun k x hx => few_big hfew (by decide) x (List.mem_of_mem_take hx)
  have HRI : Hid (∀ V, Below w2.heap.size w2 V → Calls Tryz.prog 9 #[.slice bo ls.length bc] V fun e w' => e = .returned (.string (bsO ls)) ∧ Below V.heap.size V w') := fun V hb =>
    runS_impl V _ ls (lns_below HL.out hb) (few_big HFW.out (by decide)) ((HG.out.below HB2.out).below hb)
  have HRS : Hid (∀ V, Below w2.heap.size w2 V → Calls Tryz.prog 10 #[.slice bo ls.length bc] V fun e w' => e = .returned (.string (bsO ls)) ∧ Below V.heap.size V w') := fun V hb =>
    runS_spec V _ ls (lns_below HL.out hb) (few_big HFW.out (by decide))
  obtain ⟨D, hD⟩ : ∃ D, D = bsO ls := ⟨_, rfl⟩
  rw [← hD] at HRI HRS
  have HD := Lib.hid hD
  obtain ⟨t1, t2⟩ := same_str D
  have hB0 := Below.refl w2.heap.size w2
  clear HDR hfew hO2 hB2 hD db hbig
  go_wp2_with (first
    | (go_at_call 10; refine (HRS.out _ hB3).mono ?_; rintro e w4 ⟨rfl, hB4⟩; have hB4 := hB3.trans (hB4.mono hB3.size))
    | (go_at_call 9; refine (HRI.out _ hB0).mono ?_; rintro e w3 ⟨rfl, hB3⟩))
  clear t1 t2 hB3 hB0 HRS HRI HRD HBG
  obtain ⟨n4, hn4⟩ : ∃ n4, n4 = w4.heap.size := ⟨_, rfl⟩
  obtain ⟨w5, hw5⟩ : ∃ w5, w5 = w4.alloc (.cells #[.string ⟨#[117, 112]⟩, .string ⟨#[100, 111, 119, 110]⟩, .string ⟨#[115, 116, 111, 112]⟩, .string ⟨#[111, 112, 101, 110]⟩, .string ⟨#[99, 108, 111, 115, 101]⟩, .string ⟨#[98, 111, 97, 114, 100]⟩, .string ⟨#[108, 101, 97, 118, 101]⟩] 9) := ⟨_, rfl⟩
  have hs5 : w5.heap.size = n4 + 1 := by rw [hw5, hn4]; simp
  have hwd : ∀ k, k < 7 → w5.cell? ⟨n4, k, none⟩ = some (strV (wordL.getD k [])) := by
    have h := Rd.made w4 (wordL.map strV) 9 0 1 7 rfl (Nat.zero_le _) (by decide)
    have e : w4.alloc (.cells (wordL.map strV).toArray 9) = w5 := hw5.symm
    rw [e, ← hn4] at h
    obtain ⟨b, off, hbo, _, _, hc⟩ := Rd.spot (xs := wordL) [] h (by decide)
    cases hbo
    intro k hk
    have := hc k hk
    rwa [Nat.zero_add] at this
  have HWD := Lib.hid hwd
  have hB5 : Below w2.heap.size w2 w5 := by rw [hw5]; exact hB4.alloc hB4.size _
  have hO6 : Own (w5.alloc (.cells #[] 3)) (n4 + 1) 3 1 (.slice (some ⟨n4 + 1, 0, none⟩) 0 0) 0 [] := by
    have h := Own.made w5 [] 3 (n4 + 1) 1 0 rfl (by omega) (by decide)
    rw [hs5] at h
    exact h
  have hB6 : Below (n4 + 1) w5 (w5.alloc (.cells #[] 3)) := (Below.refl _ _).alloc (by omega) _
  have hs4 := hB4.size
  rw [← hw5, ← hn4]
  have HN4 := Lib.hid hn4
  have HB5 := Lib.hid hB5
  clear hwd hB5 hw5 hn4 hB4
  first | rw [hs5] | skip
  go_loopw [6, 7] (fun ov iv V => ∃ i : Nat, i ≤ ls.length ∧ iv = .int .i64 i ∧ Own V (n4 + 1) 3 1 ov ((ls.take i).map orderO).length (((ls.take i).map orderO).map nint) ∧ Hid (∀ l ∈ ls.take i, orderO l ≠ 0) ∧ Below (n4 + 1) w5 V) (fun _ iv _ => ls.length - (intOf iv).toNat)
  case atStart => exact ⟨0, Nat.zero_le _, rfl, hO6, by unfold Hid; simp, hB6⟩
  case round =>
    clear hO6 hB6
    obtain ⟨i, hi, rfl, hO, HNZ, hB⟩ := hrel
    by_cases hlt : i < ls.length
    · have hltz : (i : Int) < (ls.length : Int) := by omega
      have h30 : (i : Int) < 30 := by omega
      obtain ⟨b, off, rfl, _, hb2, hc⟩ := HL.out.spot [] (by omega)
      obtain ⟨X, hX⟩ : ∃ X : ByteArray, X = ⟨(ls.getD i []).toArray⟩ := ⟨_, rfl⟩
      have hcx : w5.cell? ⟨b, off + i, none⟩ = some (.string X) := by
        rw [hX]; exact (HB5.out.cell (p := ⟨b, off + i, none⟩) hb2).trans (hc i hlt)
      have hb5 : b < n4 + 1 := by have := HN4.out; omega
      have SX : Hid (Str8 X (ls.getD i [])) := hX
      obtain ⟨o, ho⟩ : ∃ o, o = orderO (ls.getD i []) := ⟨_, rfl⟩
      have HO7 : Hid (o ≤ 7) := by unfold Hid; rw [ho]; exact orderO_le _
      obtain ⟨p, hp⟩ : ∃ p, p = (ls.take i).map orderO := ⟨_, rfl⟩
      have hpl : p.length = i := by rw [hp, List.length_map, List.length_take]; omega
      have HLE : Hid (o ≠ 0 → 3 * i + 3 ≤ (sesO ls).length) := fun h => orders_len hlt (by omega) (fun l hl => by
        rw [List.take_succ_eq_append_getElem hlt] at hl
        rcases List.mem_append.1 hl with hl | hl
        · exact HNZ.out l hl
        · simp at hl
          rw [hl]
          rw [ho, List.getD_eq_getElem?_getD, List.getElem?_eq_getElem hlt] at h
          exact h)
      have HOO := Lib.hid ho
      have HPP := Lib.hid hp
      rw [← hp] at hO
      have HSD : Hid (D.size = (sesO ls).length) := by unfold Hid; rw [HD.out]; exact (bsO_str ls).size
      clear hX hc ho hp hb2
      go_wp2_with fail
      go_loopw [6, 8] (fun ov kv V => ∃ k : Nat, k ≤ 7 ∧ kv = .int .i64 k ∧ Own V (n4 + 1) 3 1 ov (accO p o k).length ((accO p o k).map nint) ∧ Below (n4 + 1) w5 V) (fun _ kv _ => 7 - (intOf kv).toNat)
      case atStart => exact ⟨0, by omega, rfl, by rw [accO_zero]; exact hO, hB⟩
      case round =>
        clear hO hB
        obtain ⟨k, hk, rfl, hO, hB⟩ := hrel
        by_cases hk7 : k < 7
        · have hk7z : (k : Int) < 7 := by omega
          obtain ⟨Wk, hW⟩ : ∃ Wk : ByteArray, Wk = ⟨(wordL.getD k []).toArray⟩ := ⟨_, rfl⟩
          have hcw : wr.cell? ⟨n4, k, none⟩ = some (.string Wk) := by
            rw [hW]; exact (hB.cell (p := ⟨n4, k, none⟩) (by show n4 < n4 + 1; omega)).trans (HWD.out k hk7)
          have hcx2 := (hB.cell (p := ⟨b, off + i, none⟩) hb5).trans hcx
          have SW : Str8 Wk (wordL.getD k []) := hW
          have hwo := word_order (l := ls.getD i []) hk7
          have hlen : (accO p o k).length ≤ 100 := by
            unfold accO; split
            · rw [List.length_append]; simp only [List.length_cons, List.length_nil]; omega
            · omega
          have wk1 : IntKind.i64.wrap ((k : Int) + 1) = (k : Int) + 1 := IntWalk.i64_in _ (by omega)
          by_cases hm : o = k + 1
          · have hXW : X = Wk := by
              have h := SX.out; unfold Str8 at h
              rw [h, hW, hwo.2 (by rw [← HOO.out]; exact hm)]
            subst hXW
            obtain ⟨t1, t2⟩ := same_str X
            have w31 : IntKind.i64.wrap (3 * (i : Int)) = 3 * (i : Int) := IntWalk.i64_in _ (by omega)
            have w32 : IntKind.i64.wrap (3 * (i : Int) + 3) = 3 * (i : Int) + 3 := IntWalk.i64_in _ (by omega)
            have hle : 3 * (i : Int) + 3 ≤ ((D.size : Nat) : Int) := by have := HLE.out (by omega); have := HSD.out; omega
            have hOd := hO.drewN 1
            have hbs : n4 + 1 ≤ wr.heap.size := by have := hB.size; omega
            clear hwo hW SW
            go_wp2_with fail
            go_quiet (fail)
            go_wp2_with (at_builtin; refine wpList_append_one _ rfl _ _ 27 rfl 3 (.int .i64 0) 8 Tryz.underlying27 info_intO rfl (n4 + 1) _ _ _ rfl (hO.drewN _) _ _ rfl rfl (by omega) (by omega) hbs ?_; intro v8 w8 hO8 hg8 _; have hB8 := (below_drewN hB _).trans (below_of_grownBy hg8 hbs (fun q hq => (hO.wblk hq).1)))
            go_roundw
            case rel => exact ⟨k + 1, by omega, by go_num, own_acc hm hO8, hB8⟩
            case measure => simp [intOf]; omega
          · have hne : ls.getD i [] ≠ wordL.getD k [] := fun e => hm (by rw [HOO.out]; exact hwo.1 e)
            have t1 : (X.toList == Wk.toList) = false := by rw [str_list SX.out, str_list SW]; simpa using hne
            have eac := accO_miss p hm
            clear hwo hW SW hne
            go_wp2_with fail
            go_quiet (fail)
            go_wp2_with fail
            go_roundw
            case rel => exact ⟨k + 1, by omega, by go_num, by rw [eac]; exact hO.drewN _, below_drewN hB _⟩
            case measure => simp [intOf]; omega
        · have hk7z : ¬ (k : Int) < 7 := by omega
          have hk77 : k = 7 := by omega
          subst hk77
          obtain ⟨a8, c8, rfl, _, _⟩ := hO.form
          have hae := accO_end p HO7.out
          by_cases h0 : o = 0
          · have hl8 : (accO p o 7).length = i := by rw [accO_end p HO7.out, if_pos h0, hpl]
            have dl : (((accO p o 7).length : Nat) : Int) ≤ (i : Int) := by omega
            clear h0 hae
            go_wp2_with fail
            go_ret
            exact ⟨rfl, HB2.out.trans ((HB5.out.trans (hB.mono (by have := HN4.out; omega))).mono HB2.out.size)⟩
          · rw [if_neg h0] at hae
            have hl8 : (accO p o 7).length = i + 1 := by rw [accO_end p HO7.out, if_neg h0, List.length_append, hpl]; rfl
            have dl : ¬ (((accO p o 7).length : Nat) : Int) ≤ (i : Int) := by omega
            have hO9 : Own wr (n4 + 1) 3 1 (.slice a8 (accO p o 7).length c8) ((ls.take (i + 1)).map orderO).length (((ls.take (i + 1)).map orderO).map nint) := by
              rw [take_map_succ hlt, ← HPP.out, ← HOO.out, ← hae]; exact hO
            have HNZ2 : Hid (∀ l ∈ ls.take (i + 1), orderO l ≠ 0) := fun l hl => by
              rw [List.take_succ_eq_append_getElem hlt] at hl
              rcases List.mem_append.1 hl with hl | hl
              · exact HNZ.out l hl
              · simp at hl
                rw [hl]
                have h := h0
                rw [HOO.out, List.getD_eq_getElem?_getD, List.getElem?_eq_getElem hlt] at h
                exact h
            go_wp2_with fail
            case roundEnd => exact ⟨⟨i + 1, by omega, by go_num, hO9, HNZ2, hB⟩, by simp [intOf]; omega⟩
    · have hltz : ¬ (i : Int) < (ls.length : Int) := by omega
      have ek : ls.take i = ls := List.take_of_length_le (by omega)
      rw [ek] at hO HNZ
      obtain ⟨a8, c8, rfl, _, _⟩ := hO.form
      have HRC : Hid (Calls Tryz.prog 11 #[.agg #[.int .i64 0, .int .i64 0, .int .i64 0, .bool false], .slice a8 (ls.map orderO).length c8] wr (RunCRet wr (ranC car0 (ls.map orderO)))) :=
        impl_runCar wr _ (ls.map orderO) (ints_nint hO) (fun o ho => by
          obtain ⟨l, hl, rfl⟩ := List.mem_map.1 ho
          have := HNZ.out l hl; have := orderO_le l; omega) (by rw [List.length_map]; omega)
      have hNle : ranC car0 (ls.map orderO) ≤ ls.length := by have := ranC_le (ls.map orderO) car0; rwa [List.length_map] at this
      have HEND := Lib.hid (orders_end (ls := ls) (by omega) HNZ.out)
      obtain ⟨N, hN⟩ : ∃ N, N = ranC car0 (ls.map orderO) := ⟨_, rfl⟩
      rw [← hN] at HRC hNle HEND
      rw [List.length_map] at HRC
      have HB := Lib.hid (HB2.out.trans ((HB5.out.trans (hB.mono (by have := HN4.out; omega))).mono HB2.out.size))
      have hml : (ls.map orderO).length = ls.length := List.length_map _
      rw [hml]
      clear hO hN ek hB
      by_cases hNe : N = ls.length
      · have t1 : ((N : Int) == ((ls.length : Nat) : Int)) = true := by rw [hNe]; simp
        go_wp2_with (go_at_call 11; refine HRC.out.mono ?_; rintro e w9 ⟨c9, rfl, hB9⟩; have HB9 := Lib.hid (HB.out.trans (hB9.mono HB.out.size)); clear hB9)
        go_ret
        exact ⟨rfl, HB9.out.alloc HB9.out.size _⟩
      · have t1 : ((N : Int) == ((ls.length : Nat) : Int)) = false := beq_eq_false_iff_ne.mpr (by omega)
        obtain ⟨h1, h2⟩ := HEND.out hNe
        have hds : D.size = (sesO ls).length := by rw [HD.out]; exact (bsO_str ls).size
        obtain ⟨qa, hqa⟩ : ∃ qa : Nat, qa = 3 * N := ⟨_, rfl⟩
        obtain ⟨qb, hqb⟩ : ∃ qb : Nat, qb = 3 * N + 3 := ⟨_, rfl⟩
        obtain ⟨M, HM, ks⟩ := sl_mid (S := D) (by rw [HD.out]; exact bsO_str ls) (a := qa) (b := qb) (by omega) (by omega)
        rw [hqa, hqb, h2] at HM
        have tM : (M.toList == [110, 111, 10]) = true := by rw [str_list HM.out]; rfl
        have za : ((qa : Nat) : Int) = 3 * (N : Int) := by omega
        have zb : ((qb : Nat) : Int) = 3 * (N : Int) + 3 := by omega
        rw [za, zb] at ks
        have w31 : IntKind.i64.wrap (3 * (N : Int)) = 3 * (N : Int) := IntWalk.i64_in _ (by omega)
        have w32 : IntKind.i64.wrap (3 * (N : Int) + 3) = 3 * (N : Int) + 3 := IntWalk.i64_in _ (by omega)
        have hge : 3 * (N : Int) + 3 ≤ ((D.size : Nat) : Int) := by omega
        clear h1 h2 hds hqa hqb za zb HM
        go_wp2_with (go_at_call 11; refine HRC.out.mono ?_; rintro e w9 ⟨c9, rfl, hB9⟩; have HB9 := Lib.hid (HB.out.trans (hB9.mono HB.out.size)); clear hB9)
        go_ret
        exact ⟨rfl, HB9.out.alloc HB9.out.size _⟩
end Go.Proofs.YtpaioaknppgggaaGreatDoor
