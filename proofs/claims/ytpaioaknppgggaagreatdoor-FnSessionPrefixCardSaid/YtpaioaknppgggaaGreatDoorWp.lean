/- FnSessionPrefix: the walk. -/
import Derived.Test.YtpaioaknppgggaaGreatDoorWk1
namespace Go.Proofs.YtpaioaknppgggaaGreatDoor
open Go.RowKit
set_option linter.unusedVariables false
set_option linter.unusedSimpArgs false

set_option maxRecDepth 100000 in
set_option maxHeartbeats 16000000 in
theorem fnSessionPrefix_walk (w : World) (v : Value) (bs : List UInt8) (hv : Bytes w 0 v bs) (hg : GW w) :
    Calls Tryz.prog 3 #[v] w fun e w' => e = .returned (.bool true) ∧ Below w.heap.size w w' := by
  have HDR := Lib.hid (drawRunSession w v bs hv)
  obtain ⟨ao, cap, rfl, hcap, hm⟩ := hv.form
  have HG := Lib.hid hg
  clear hv hg
  by_cases hbig : 1048576 < bs.length
  · have db : (1048576 : Int) < ((bs.length : Nat) : Int) := by omega
    go_enter Tryz.func3, Tryz.ntmps3
    go_wp2_with fail
    go_ret
    exact ⟨rfl, Below.refl _ _⟩
  have db : ¬ (1048576 : Int) < ((bs.length : Nat) : Int) := by omega
  go_enter Tryz.func3, Tryz.ntmps3
  go_wp2_with fail
  go_at_call 8
  refine HDR.out.mono ?_
  rintro e w2 ⟨v2, ls, rfl, hO2, hfew, hB2⟩
  obtain ⟨bo, bc, rfl, _, _⟩ := hO2.form
  have HL := Lib.hid (lnsD_of_own hO2)
  have HFW := Lib.hid hfew
  have hlen15 := hfew.1
  have HB2 := Lib.hid hB2
  have HRD : Hid (∀ V, Below w2.heap.size w2 V → ∀ k, k ≤ ls.length → LnsR V 0 (.slice bo k bc) (ls.take k)) := fun V hb k hk => lns_take (lns_below HL.out hb) rfl hk
  have HBG : Hid (∀ k, ∀ x ∈ ls.take k, x.length ≤ 1000000000) := fun k x hx => few_big hfew (by decide) x (List.mem_of_mem_take hx)
  have HRI : Hid (∀ V, Below w2.heap.size w2 V → Calls Tryz.prog 9 #[.slice bo ls.length bc] V fun e w' => e = .returned (.string (bsO ls)) ∧ Below V.heap.size V w') := fun V hb =>
    runS_impl V _ ls (lns_below HL.out hb) (few_big HFW.out (by decide)) ((HG.out.below HB2.out).below hb)
  have HRS : Hid (∀ V, Below w2.heap.size w2 V → Calls Tryz.prog 10 #[.slice bo ls.length bc] V fun e w' => e = .returned (.string (bsO ls)) ∧ Below V.heap.size V w') := fun V hb =>
    runS_spec V _ ls (lns_below HL.out hb) (few_big HFW.out (by decide))
  obtain ⟨D, hD⟩ : ∃ D, D = bsO ls := ⟨_, rfl⟩
  rw [← hD] at HRI HRS
  have HD := Lib.hid hD
  obtain ⟨t1, t2⟩ := same_str D
  have hB0 := Below.refl w2.heap.size w2
  clear HDR hfew hO2 hB2 hD db hbig
  go_wp2_with (first
    | (go_at_call 10; refine (HRS.out _ hB3).mono ?_; rintro e w4 ⟨rfl, hB4⟩; have hB4 := hB3.trans (hB4.mono hB3.size))
    | (go_at_call 9; refine (HRI.out _ hB0).mono ?_; rintro e w3 ⟨rfl, hB3⟩))
  clear t1 t2 hB3 hB0
  go_loopw [5] (fun nv V => ∃ k : Nat, k ≤ ls.length ∧ nv = .int .i64 k ∧ Below w2.heap.size w2 V) (fun nv _ => ls.length - (intOf nv).toNat)
  case atStart => exact ⟨0, Nat.zero_le _, rfl, hB4⟩
  case round =>
    clear hB4
    obtain ⟨k, hk, rfl, hB⟩ := hrel
    by_cases hlt : k < ls.length
    · have hltz : (k : Int) < (ls.length : Int) := by omega
      obtain ⟨X, hX⟩ : ∃ X, X = bsO (ls.take k) := ⟨_, rfl⟩
      have HRK : Hid (Calls Tryz.prog 9 #[.slice bo k bc] wr fun e w' => e = .returned (.string X) ∧ Below wr.heap.size wr w') := by
        rw [hX]; exact runS_impl wr _ _ (HRD.out wr hB k hk) (HBG.out k) ((HG.out.below HB2.out).below hB)
      obtain ⟨r, hr⟩ := sesO_pre ls k
      have hsx : X.size = (sesO (ls.take k)).length := by rw [hX]; exact (bsO_str _).size
      have hsd : D.size = (sesO ls).length := by rw [HD.out]; exact (bsO_str _).size
      have hle : X.size ≤ D.size := by rw [hsx, hsd, hr, List.length_append]; omega
      obtain ⟨A, HA, ka⟩ := sl_to (S := D) (by rw [HD.out]; exact bsO_str ls) (n := X.size) (by omega)
      have hAX : A = X := by
        have h := HA.out
        rw [hsx, hr, List.take_left'  rfl] at h
        rw [hX]; exact h
      subst hAX
      obtain ⟨t1, t2⟩ := same_str A
      have dle : ¬ ((D.size : Nat) : Int) < ((A.size : Nat) : Int) := by omega
      clear HA hX hr hsx hsd
      go_wp2_with (go_at_call 9; refine HRK.out.mono ?_; rintro e w5 ⟨rfl, hB5⟩; have hB5 := hB.trans (hB5.mono hB.size))
      go_roundw
      case rel => exact ⟨k + 1, by omega, by go_num, hB5⟩
      case measure => simp [intOf]; omega
    · have hltz : ¬ (k : Int) < (ls.length : Int) := by omega
      go_wp2_with fail
      go_ret
      exact ⟨rfl, HB2.out.trans (hB.mono HB2.out.size)⟩
end Go.Proofs.YtpaioaknppgggaaGreatDoor
