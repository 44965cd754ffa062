/- FnStoppedTimeUnits: the walk. -/
import Derived.Test.YtfdnkfhldgcnmaaLog6
import Derived.Test.YtfdnkfhldgcnmaaLogD
import Derived.ProofKit
namespace Go.Proofs.Ytfdnkfhldgcnmaa
open Go.RowKit

theorem take_filter {es : List Ent} {k : Nat} (p : Ent → Bool) (h : k < es.length) : (es.take (k + 1)).filter p = (es.take k).filter p ++ if p (es.getD k e0) then [es.getD k e0] else [] := by
  have e : es.getD k e0 = es[k] := by simp [h]
  rw [List.take_succ_eq_append_getElem h, List.filter_append, e]
  congr 1
  by_cases hp : p es[k] = true
  · simp [hp]
  · simp [hp]

set_option maxHeartbeats 2000000 in
theorem fnUnits_walk (w : World) (v : Value) (bs : List UInt8) (hv : Bytes w 0 v bs) :
    Calls Try.prog 11 #[v] w fun e w' => e = .returned (.bool true) ∧ Below w.heap.size w w' := by
  obtain ⟨ao, cap, rfl, hcap, hm⟩ := hv.form
  by_cases hlen : bs.length ≤ 1048576
  · go_enter Try.func11, Try.ntmps11
    go_wp2_with fail
    go_at_call 30
    refine (drawStoppedTime _ _ bs hv).mono ?_; rintro e w1 ⟨v1, es, U, T, rfl, hr, hl31, hU, hT, hB⟩
    clear hv
    obtain ⟨ao1, cap1, rfl, hcap1, hm1⟩ := hr.form
    go_wp2_with fail
    go_at_call 29
    refine (impl_stoppedTime _ _ _ es U T hr).mono ?_; rintro e w2 ⟨rfl, hB2⟩
    have hr2 := Rd.below hr hB2 (Nat.le_refl _) (by decide)
    have hT2 := hB.trans (hB2.mono hB.size)
    clear hr hB2 hB
    go_wp2_with fail
    go_at_call 28
    refine (spec_stoppedTime _ _ _ es U T hr2).mono ?_; rintro e w3 ⟨rfl, hB3⟩
    have hr3 : Ents w3 0 _ es := Rd.below hr2 hB3 (Nat.le_refl _) (by decide)
    have hT3 := hT2.trans (hB3.mono hT2.size)
    clear hr2 hB3 hT2
    have hne : (!(stoppedT es U T == stoppedT es U T)) = false := by simp
    obtain ⟨b1, b2, _, b4⟩ := stopped_bd es U T
    by_cases hp : stoppedT es U T < 0
    · clear b4
      go_wp2_with fail
      go_at_call 28
      refine (spec_stoppedTime _ _ _ es U T hr3).mono ?_; rintro e w4 ⟨rfl, hB4⟩
      have hT4 := hT3.trans (hB4.mono hT3.size)
      go_wp2
      go_ret
      exact ⟨by simp, hT4⟩
    · have hok : validL es = true ∧ 0 ≤ U ∧ U ≤ 7 ∧ 0 ≤ T ∧ T ≤ 9999 := by
        apply Classical.byContradiction; intro h; have := b4 h; omega
      clear b4
      obtain ⟨hva, hU1, hU2, hT1, hT2⟩ := hok
      have dp : decide (stoppedT es U T < 0) = false := decide_eq_false hp
      have hf := Lib.hid (stopped_filter hva ⟨hU1, hU2⟩ (T := T) ⟨hT1, hT2⟩)
      clear hva
      have hO : Own (w3.alloc (.cells #[] 34)) w3.heap.size 34 3 (.slice (some ⟨w3.heap.size, 0, none⟩) 0 0) 0 [] := Own.made w3 [] _ w3.heap.size 3 0 rfl (Nat.le_refl _) (by decide)
      have hB3 : Below w3.heap.size w3 (w3.alloc (.cells #[] 34)) := (Below.refl _ _).alloc (Nat.le_refl _) _
      go_wp2_with fail
      go_loopw [7, 8] (fun v i wo => ∃ k : Nat, k ≤ es.length ∧ i = .int .i64 k ∧ Own wo w3.heap.size 34 3 v ((es.take k).filter fun e => decide (e.u = U)).length (((es.take k).filter fun e => decide (e.u = U)).flatMap entCells) ∧ Below w3.heap.size w3 wo) (fun _ i _ => es.length - (intOf i).toNat)
      case atStart => exact ⟨0, Nat.zero_le _, rfl, by simpa using hO, hB3⟩
      case round =>
        clear hO hB3
        obtain ⟨k, hk, rfl, hO, hB⟩ := hrel
        have hsz := hB.size
        by_cases hlt : k < es.length
        · obtain ⟨b, off, rfl, _, hb1, hc⟩ := Ents.spot (Rd.below hr3 hB (Nat.le_refl _) (by decide)) (by omega)
          obtain ⟨s1, s2, s3⟩ := hc k hlt
          have htf := take_filter (fun e => decide (e.u = U)) hlt
          have hle : ((es.take k).filter fun e => decide (e.u = U)).length ≤ 31 := Nat.le_trans (List.length_filter_le _ _) (by simp; omega)
          clear hc
          have HO := Lib.hid htf
          obtain ⟨fl, hfl⟩ : ∃ fl, fl = ((es.take k).filter fun e => decide (e.u = U)) := ⟨_, rfl⟩
          obtain ⟨en, hen⟩ : ∃ en, en = es.getD k e0 := ⟨_, rfl⟩
          rw [← hfl] at hO hle HO
          rw [← hen] at s1 s2 s3 HO
          clear hen htf hfl
          by_cases hu : en.u = U
          · have hu' : (en.u == U) = true := by simp [hu]
            have HT : Hid (((es.take (k + 1)).filter fun e => decide (e.u = U)) = fl ++ [⟨en.t, en.u, en.s⟩]) := by
              unfold Hid; rw [HO.out, if_pos (decide_eq_true hu)]
            clear HO hu
            go_wp2_with (at_builtin; refine wpList_append_ent _ rfl _ _ 25 rfl 34 Try.underlying25 info_entry w3.heap.size _ fl rfl hO _ _ _ _ rfl (by omega) (by omega) (by omega) ?_; intro v' w5 hO5 hg5 _)
            go_roundw
            case rel => exact ⟨k + 1, by omega, by go_num, by rw [HT.out]; exact hO5, hB.trans (below_of_grownBy hg5 (by omega) (fun k hk => (hO.wblk hk).1))⟩
            case measure => simp [intOf]; omega
          · have hu' : (en.u == U) = false := by simpa using hu
            have HT : Hid (((es.take (k + 1)).filter fun e => decide (e.u = U)) = fl) := by
              unfold Hid; rw [HO.out, if_neg (by simpa using hu)]; simp
            clear HO hu
            go_wp2
            go_roundw
            case rel => exact ⟨k + 1, by omega, by go_num, by rw [HT.out]; exact hO, hB⟩
            case measure => simp [intOf]; omega
        · have hall : (es.take k).filter (fun e => decide (e.u = U)) = es.filter (fun e => decide (e.u = U)) := by rw [List.take_of_length_le (by omega)]
          rw [hall] at hO
          clear hall
          go_wp2_with fail
          go_at_call 29
          refine (impl_stoppedTime _ _ _ _ U T hO.rd).mono ?_; rintro e w5 ⟨rfl, hB5⟩
          rw [hf.out]
          have hT5 := hT3.trans ((hB.trans (hB5.mono hsz)).mono hT3.size)
          go_wp2
          go_ret
          exact ⟨by simp, hT5⟩
  · go_enter Try.func11, Try.ntmps11
    go_wp2
    go_ret
    exact ⟨rfl, Below.refl _ _⟩
end Go.Proofs.Ytfdnkfhldgcnmaa
