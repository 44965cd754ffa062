/- FnRouteOfPart: the walk. -/
import Derived.Test.YtfacedmdpbddcaaTownD
import Derived.Test.YtfacedmdpbddcaaTownL6
import Derived.Test.YtfacedmdpbddcaaEqI
import Derived.ProofKit
import Derived.Deep.RegionHeld3
namespace Go.Proofs.Ytfacedmdpbddcaa
open Go.RowKit
set_option linter.unusedVariables false
set_option linter.unusedSimpArgs false

set_option maxRecDepth 100000 in
set_option maxHeartbeats 4000000 in
theorem fnRouteOfPart_walk (w : World) (v : Value) (bs : List UInt8) (hv : Bytes w 0 v bs) :
    Calls Try.prog 9 #[v] w fun e w' => e = .returned (.bool true) ∧ Below w.heap.size w w' := by
  obtain ⟨ao, cap, rfl, hcap, hm⟩ := hv.form
  by_cases hlen : bs.length ≤ 1048576
  · go_enter Try.func9, Try.ntmps9
    go_wp2_with fail
    go_at_call 25
    refine (drawRouteOf _ _ bs hv).mono ?_; rintro e w1 ⟨n, v1, rs, s, t, rfl, hr1, hl24, hn, hs, ht, hB⟩
    clear hv
    obtain ⟨ao1, cap1, rfl, hcap1, hm1⟩ := hr1.form
    go_wp2_with fail
    go_at_call 26
    refine (impl_routeOf _ 0 n _ rs s t hr1).mono ?_; rintro e w2 ⟨v2, rfl, hO2, hB2⟩
    have hr2 : Rods w2 0 _ rs := Rd.below hr1 hB2 (Nat.le_refl _) (by decide)
    have hT2 := hB.trans (hB2.mono hB.size)
    clear hr1 hB2 hB
    go_wp2_with fail
    go_at_call 27
    refine (spec_routeOf _ 0 n _ rs s t hr2).mono ?_; rintro e w3 ⟨v3, rfl, hO3, hB3⟩
    have hr3 : Rods w3 0 _ rs := Rd.below hr2 hB3 (Nat.le_refl _) (by decide)
    have hO23 := hO2.below hB3 (Nat.le_refl _)
    have hT3 := hT2.trans (hB3.mono hT2.size)
    clear hr2 hB3 hT2 hO2
    have hI3 : Ints w3 0 v2 (routeL n rs s t) := hO23.rd.mono (Nat.zero_le _)
    have hJ3 : Ints w3 0 v3 (routeL n rs s t) := hO3.rd.mono (Nat.zero_le _)
    go_wp2_with fail
    go_at_call 19
    refine (equalInts_same _ _ _ (routeL n rs s t) hI3 hJ3).mono ?_; rintro e w4 ⟨rfl, hB4⟩
    have hr4 : Rods w4 0 _ rs := Rd.below hr3 hB4 (Nat.le_refl _) (by decide)
    have hO4 := hO23.below hB4 (Nat.le_refl _)
    have hI4 : Ints w4 0 v2 (routeL n rs s t) := hO4.rd.mono (Nat.zero_le _)
    have hT4 := hT3.trans (hB4.mono hT3.size)
    clear hr3 hB4 hT3 hO23 hO3 hI3 hJ3
    obtain ⟨ao2, cap2, rfl, hcap2, hm2⟩ := hI4.form
    by_cases hz : (routeL n rs s t).length < 2
    · have hz1 : decide ((((routeL n rs s t).length : Nat) : Int) < 2) = true := decide_eq_true (by omega)
      clear hz
      go_wp2_with fail
      go_at_call 27
      refine (spec_routeOf _ 0 n _ rs s t hr4).mono ?_; rintro e w15 ⟨v5, rfl, hO5, hB5⟩
      have hT15 := hT4.trans (hB5.mono hT4.size)
      have hI15 : Ints w15 0 _ (routeL n rs s t) := Rd.below hI4 hB5 (Nat.le_refl _) (by decide)
      have hJ15 : Ints w15 0 v5 (routeL n rs s t) := hO5.rd.mono (Nat.zero_le _)
      clear hI4 hO5 hB5 hr4 hz1 hO4
      go_wp2_with fail
      go_at_call 19
      refine (equalInts_same _ _ _ (routeL n rs s t) hI15 hJ15).mono ?_; rintro e w16 ⟨rfl, hB6⟩
      go_wp2
      go_ret
      exact ⟨rfl, hT15.trans (hB6.mono hT15.size)⟩
    · have hz1 : decide ((((routeL n rs s t).length : Nat) : Int) < 2) = false := decide_eq_false (by omega)
      obtain ⟨N, S, T, rfl, rfl, rfl, hS, hT, hN8, hval, h0, e⟩ := routeL_pos (show (routeL n rs s t).length ≠ 0 by omega)
      have hTW : Town N rs T (restOf N rs T) := town_of hval (by omega) (by omega)
      have hne : (S : Int) ≠ T := by
        intro h; rw [e, Town.at_end _ h] at hz; simp at hz
      have hu := hTW.unfold_ (a := (S : Int)) (by omega) (by omega) h0 hne
      have hst := hTW.step (a := (S : Int)) (by omega) (by omega) h0 hne
      obtain ⟨m, hm'⟩ : ∃ m, m = nx rs (restOf N rs T) N S := ⟨_, rfl⟩
      rw [← hm'] at hu hst
      have hsub : routeL N rs m T = routeN rs (restOf N rs T) N T (restD (restOf N rs T) m).toNat m := by
        unfold routeL; rw [if_pos ⟨askR_iff.2 ⟨hval, ⟨hst.1, by omega⟩, by omega, by omega⟩, hst.2.2.1⟩]
      have he : routeL N rs S T = (S : Int) :: routeL N rs m T := by rw [hsub, e, hu]
      have hln : (routeL N rs S T).length = (routeL N rs m T).length + 1 := by rw [he]; simp
      have c1 : ∃ b off, ao2 = some ⟨b, off, none⟩ ∧ w4.cell? ⟨b, off + 1, none⟩ = some (.int .i64 m) ∧ b < w4.heap.size := by
        obtain ⟨b, off, rfl, _, hb, hc⟩ := hI4.spot 0 (by omega)
        have hh := routeN_head rs (restOf N rs T) N T (restD (restOf N rs T) m).toNat m
        refine ⟨b, off, rfl, ?_, hb⟩
        rw [hc 1 (by omega), he, hsub, hh]; rfl
      obtain ⟨b2, off2, rfl, c1, hb2⟩ := c1
      have hrest : Ints w4 0 (.slice (some ⟨b2, off2 + 1, none⟩) ((routeL N rs S T).length - 1) (cap2 - 1)) (routeL N rs m T) := by
        have := Rd.drop hI4 (k := 1) (a := some ⟨b2, off2 + 1, none⟩) (by omega) (fun _ => rfl) (by simp)
        rw [← List.map_drop, he, List.drop_one, List.tail_cons] at this
        unfold Ints
        rw [he]
        simpa using this
      obtain ⟨L, hL⟩ : ∃ L, L = (routeL N rs S T).length := ⟨_, rfl⟩
      obtain ⟨ml, hml⟩ : ∃ ml, ml = routeL N rs m T := ⟨_, rfl⟩
      rw [← hL] at hrest hz1 hcap2 hln ⊢
      rw [← hml] at hrest hln
      have hL2 : 2 ≤ L := by omega
      have HML := Lib.hid hml
      have g1 : (1 : Int) < (L : Int) := by omega
      have g2 : (1 : Int) ≤ (L : Int) := by omega
      have g3 : (L : Int) ≤ (cap2 : Int) := by omega
      have g4 : ¬ cap2 = 1 := by omega
      have g5 : ¬ 1 = cap2 := by omega
      have hld : L - 1 = ml.length := by omega
      clear hI4 hO4 e hu he hsub hTW h0 hst hne hz hL hml hm' hln
      go_wp2_with fail
      go_region_held3 (fun w' => w'.cell? ⟨b2, off2 + 1, none⟩ = some (.int .i64 m))
        (first | go_keep | exact (hB5.cell (p := ⟨b2, off2 + 1, none⟩) hb2).trans c1 | exact (hB7.cell (p := ⟨b2, off2 + 1, none⟩) hb2).trans c1)
        ((first
          | (go_at_call 26; refine (impl_routeOf _ 0 N _ rs m T (Rd.below hr4 (Below.drew (Below.refl w4.heap.size w4)) (Nat.le_refl _) (by decide))).mono ?_; rintro e w5 ⟨v5, rfl, hO5, hB5'⟩; have hB5 : Below w4.heap.size w4 w5 := (Below.drew (Below.refl w4.heap.size w4)).trans hB5')
          | (go_at_call 19; refine (equalInts_same _ _ _ ml (by rw [HML.out]; exact hO5.rd.mono (Nat.zero_le _)) (by have q : Ints w5 0 (.slice (some ⟨b2, off2 + 1, none⟩) (L - 1) (cap2 - 1)) ml := Rd.below hrest hB5 (Nat.le_refl _) (by decide); rw [hld] at q; exact q)).mono ?_; rintro e w7 ⟨rfl, hB7'⟩; have hB7 : Below w4.heap.size w4 w7 := hB5.trans (hB7'.mono hB5.size))))
      go_wp2
      go_ret
      exact ⟨rfl, hT4.trans (hB7.mono hT4.size)⟩
  · go_enter Try.func9, Try.ntmps9
    go_wp2
    go_ret
    exact ⟨rfl, Below.refl _ _⟩
end Go.Proofs.Ytfacedmdpbddcaa
