/- The draws of texts: of, mutate. -/
import Derived.Test.YtpaioaknppgggaaGreatDoorSsE
import Derived.Test.YtpaioaknppgggaaGreatDoorRdh
import Derived.Deep.RegionHeld3
import Derived.Deep.QuietTactic
import Derived.BigQuiet
namespace Go.Proofs.YtpaioaknppgggaaGreatDoor
open Go.RowKit
set_option linter.unusedVariables false
set_option linter.unusedSimpArgs false

theorem bytes_blk {w : World} {v : Value} {bs : List UInt8} (hv : Bytes w 0 v bs) : bs ≠ [] → ∀ k, v.ownBlock = some k → k < w.heap.size := by
  intro hne k hk
  obtain ⟨_, ao, cap, rfl, _, _, _, hc⟩ := hv
  obtain ⟨b, off, rfl, _, hcell⟩ := hc (by cases bs <;> simp_all)
  cases hk
  exact World.block_lt_of_cell? w ⟨b, off + 0, none⟩ (hcell 0 (by cases bs <;> simp_all))
def smallS (l : List Value) : Bool := l.all fun v => match v with | .string S => decide (S.size ≤ 100) | _ => false
theorem smallS_out : ∀ l, smallS l = true → ∃ ss : List ByteArray, l = ss.map Value.string ∧ ∀ S ∈ ss, S.size ≤ 100
  | [], _ => ⟨[], rfl, by simp⟩
  | v :: l, h => by
    unfold smallS at h
    rw [List.all_cons, Bool.and_eq_true] at h
    obtain ⟨ss, rfl, h2⟩ := smallS_out l h.2
    cases v
    case string S => exact ⟨S :: ss, rfl, by
      intro x hx
      rcases List.mem_cons.1 hx with rfl | hx
      · exact of_decide_eq_true h.1
      · exact h2 x hx⟩
    all_goals exact absurd h.1 (by simp)

theorem of_B {hi : Nat} (w : World) (rb p : Nat) (v : Value) (ss : List ByteArray) (hr : Rdh hi w rb p) (hp : p ≤ 1000000000) (hv : Rd w (rb + 1) v 1 ss.length (ss.map Value.string)) (hne : 0 < ss.length) (hne' : ss.length ≤ 1000) :
    Calls Tryz.prog 17 #[.pointer (some ⟨rb, 0, none⟩), v] w fun e w' => ∃ S : ByteArray, e = .returned (.string S) ∧ Hid (S ∈ ss) ∧ Rdh hi w' rb (p + 1) ∧ w.grownBy w' (some rb) := by
  obtain ⟨ao, cap, rfl, hcap, hm⟩ := hv.form
  obtain ⟨b, off, rfl, hb, hb2, hc⟩ := Rd.spot ⟨#[]⟩ hv hne
  clear hv
  go_enter Tryz.func17, Tryz.ntmps17
  go_wp2_with (go_at_call 18; refine (pick_h _ _ _ _ hr hp (by omega)).mono ?_; rintro e w' ⟨x, rfl, ⟨hx0, hx1, hx2⟩, hr', hg⟩; have hx3 := hx1 (by omega); clear hx1
               obtain ⟨S, hS⟩ : ∃ S, S = ss.getD x.toNat ⟨#[]⟩ := ⟨_, rfl⟩
               have hcx : w'.cell? ⟨b, off + x.toNat, none⟩ = some (.string S) := by
                 rw [hS, ← hc x.toNat (by omega)]; exact World.cell?_of_block (hg.block b hb2 (fun e => by have := Option.some.inj e; omega))
               have HM : Hid (S ∈ ss) := by
                 unfold Hid; rw [hS, List.getD_eq_getElem?_getD, List.getElem?_eq_getElem (by omega)]; exact List.getElem_mem _
               clear hS hc)
  go_ret
  exact ⟨_, rfl, HM, hr', hg⟩

/-- of a list that was written out in the call. -/
theorem of_L {hi : Nat} (w : World) (rb p : Nat) (cs : Array Value) (t : TypeId) (n : Nat) (hn : cs.size = n) (hs : smallS cs.toList = true) (hr : Rdh hi w rb p) (hp : p ≤ 1000000000) (hne : 0 < n) (hne' : n ≤ 1000) :
    Calls Tryz.prog 17 #[.pointer (some ⟨rb, 0, none⟩), .slice (some ⟨w.heap.size, 0, none⟩) n n] (w.alloc (.cells cs t))
      fun e w' => ∃ S : ByteArray, e = .returned (.string S) ∧ S.size ≤ 100 ∧ Rdh hi w' rb (p + 1) ∧ w.grownBy w' (some rb) := by
  have hlt := hr.lt
  obtain ⟨ss, hss, hsm⟩ := smallS_out _ hs
  obtain ⟨cl⟩ := cs
  simp only at hss
  subst hss
  have hl : ss.length = n := by rw [← hn]; simp
  subst hl
  refine (of_B _ rb p _ ss (hr.grown (World.grownBy_alloc w _ none) (fun k hk => by cases hk)) hp (Rd.made w (ss.map Value.string) t (rb + 1) 1 ss.length (by simp) (by omega) (by unfold maxLen; omega)) hne hne').mono ?_
  rintro e w' ⟨x, rfl, hx, hr', hg⟩
  exact ⟨x, rfl, hsm x hx, hr', grownBy_trans (World.grownBy_alloc w _ _) hg (fun x h => .inl h)⟩

/-- The same, where an order is drawn behind it. -/
theorem of_LD {hi : Nat} (w : World) (rb p : Nat) (cs : Array Value) (t : TypeId) (n : Nat) (hn : cs.size = n) (hs : smallS cs.toList = true) (hr : Rdh hi w rb p) (hp : p ≤ 1000000000) (hne : 0 < n) (hne' : n ≤ 1000) :
    Calls Tryz.prog 17 #[.pointer (some ⟨rb, 0, none⟩), .slice (some ⟨w.heap.size, 0, none⟩) n n] (w.alloc (.cells cs t)).drew
      fun e w' => ∃ S : ByteArray, e = .returned (.string S) ∧ S.size ≤ 100 ∧ Rdh hi w' rb (p + 1) ∧ w.grownBy w' (some rb) := by
  have hlt := hr.lt
  obtain ⟨ss, hss, hsm⟩ := smallS_out _ hs
  obtain ⟨cl⟩ := cs
  simp only at hss
  subst hss
  have hl : ss.length = n := by rw [← hn]; simp
  subst hl
  have hr2 := (hr.grown (World.grownBy_alloc w (.cells (ss.map Value.string).toArray t) none) (fun k hk => by cases hk)).grown (row := none) (w' := (w.alloc (.cells (ss.map Value.string).toArray t)).drew) ⟨rfl, rfl, rfl, Nat.le_refl _, fun _ _ _ => rfl⟩ (fun _ e => by cases e)
  have hd : (w.alloc (.cells (ss.map Value.string).toArray t)).grownBy (w.alloc (.cells (ss.map Value.string).toArray t)).drew (some rb) := ⟨rfl, rfl, rfl, Nat.le_refl _, fun _ _ _ => rfl⟩
  refine (of_B _ rb p _ ss hr2 hp (Rd.drewN (Rd.made w (ss.map Value.string) t (rb + 1) 1 ss.length (by simp) (by omega) (by unfold maxLen; omega)) 1) hne hne').mono ?_
  rintro e w' ⟨x, rfl, hx, hr', hg⟩
  exact ⟨x, rfl, hsm x hx, hr', grownBy_trans (grownBy_trans (World.grownBy_alloc w _ _) hd (fun x h => .inl h)) hg (fun x h => .inl h)⟩

def MutRet (hi : Nat) (w : World) (rb p : Nat) (S : ByteArray) (e : Ending) (w' : World) : Prop :=
  ∃ (A : ByteArray) (p' : Nat), e = .returned (.string A) ∧ A.size ≤ S.size + 100 ∧ p' ≤ p + 3 ∧ Rdh hi w' rb p' ∧ w.grownBy w' (some rb)
theorem app_size (A B C : ByteArray) (h : A ++ B = C) : C.size = A.size + B.size := by rw [← h, ByteArray.size_append]

set_option maxRecDepth 100000 in
set_option maxHeartbeats 8000000 in
theorem mutate_h {hi : Nat} (w : World) (rb p : Nat) (S : ByteArray) (hr : Rdh hi w rb p) (hp : p ≤ 900000000) (hsz : S.size ≤ 100000) :
    Calls Tryz.prog 19 #[.pointer (some ⟨rb, 0, none⟩), .string S] w (MutRet hi w rb p S) := by
  have hS : Str8 S S.data.toList := str8_self S
  have hl : S.data.toList.length = S.size := hS.size.symm
  obtain ⟨l, hll⟩ : ∃ l, l = S.data.toList := ⟨_, rfl⟩
  rw [← hll] at hS hl
  clear hll
  have HS := Lib.hid hS
  clear hS
  go_enter Tryz.func19, Tryz.ntmps19
  go_wp2_with fail
  go_at_call 18
  refine (pick_h _ _ _ _ hr (by omega) (by omega)).mono ?_; rintro e w1 ⟨k, rfl, ⟨hk0, hk1, hk2⟩, hr1, hg1⟩
  have hk3 := hk1 (by omega)
  clear hk1
  obtain ⟨n, rfl⟩ : ∃ n : Nat, k = n := ⟨k.toNat, by omega⟩
  go_wp2_with fail
  go_at_call 18
  refine (pick_h _ _ _ 5 hr1 (by omega) (by omega)).mono ?_; rintro e w2 ⟨x, rfl, ⟨hx0, hx1, hx2⟩, hr2, hg2⟩
  have hg := grownBy_trans hg1 hg2 (fun x hx => .inl hx)
  have HR := Lib.hid hr2
  have HG := Lib.hid hg
  have hlt := hr2.lt
  clear hr hr1 hr2 hg1 hg2 hg hx1
  obtain ⟨A, HA, ka⟩ := sl_to HS.out (n := n) (by omega)
  have hA : A.size ≤ S.size := by rw [HA.out.size, ← hl, List.length_take]; omega
  by_cases h0 : x = 0
  · have t0 : (x == 0) = true := by rw [h0]; rfl
    clear h0
    by_cases hkl : n < S.size
    · have dk : ((n : Nat) : Int) < ((S.size : Nat) : Int) := by omega
      obtain ⟨q, hq⟩ : ∃ q : Nat, q = n + 1 := ⟨_, rfl⟩
      obtain ⟨B, HB, kb⟩ := sl_from HS.out (n := q) (by omega)
      have hB : A.size + B.size ≤ S.size := by rw [HA.out.size, HB.out.size, ← hl, List.length_take, List.length_drop]; omega
      have hq2 : ((q : Nat) : Int) = ((n : Nat) : Int) + 1 := by omega
      rw [hq2] at kb
      have hwr : IntKind.i64.wrap ((n : Int) + 1) = (n : Int) + 1 := IntWalk.i64_in _ (by omega)
      clear hq hq2
      have HLD : Hid (∀ (cs : Array Value) (t : TypeId), cs.size = 8 → smallS cs.toList = true → Calls Tryz.prog 17 #[.pointer (some ⟨rb, 0, none⟩), .slice (some ⟨w2.heap.size, 0, none⟩) 8 8] (w2.alloc (.cells cs t)).drew
          fun e w' => ∃ D C C2 : ByteArray, e = .returned (.string D) ∧ (∀ W : World, (Op.stringOp .add A D).run Tryz.prog W = .ok (.string C) W) ∧ (∀ W : World, (Op.stringOp .add C B).run Tryz.prog W = .ok (.string C2) W) ∧ C2.size ≤ S.size + 100 ∧ Rdh hi w' rb (p + 1 + 1 + 1) ∧ w.grownBy w' (some rb)) := by
        intro cs t h8 hs8
        refine (of_LD w2 rb _ cs t 8 h8 hs8 HR.out (by omega) (by decide) (by decide)).mono ?_
        rintro e w3 ⟨D, rfl, hD, hr3, hg3⟩
        obtain ⟨C, hC, kc⟩ := addS A D (by omega) (by omega)
        have hCs := app_size _ _ _ hC
        obtain ⟨C2, hC2, kc2⟩ := addS C B (by omega) (by omega)
        have hCs2 := app_size _ _ _ hC2
        exact ⟨D, C, C2, rfl, kc, kc2, by omega, hr3, grownBy_trans HG.out hg3 (fun x hx => .inl hx)⟩
      have hgz := HG.out.size
      go_wp2_with fail
      go_region_held3 (fun w' => w.heap.size ≤ w'.heap.size)
        (first | exact hgz | exact hz3 | (show _ ≤ (World.alloc _ _).heap.size; simp only [World.size_alloc]; omega) | assumption)
        ((go_at_call 17; (with_reducible refine (HLD.out _ _ (by kernel_rfl) (by kernel_rfl)).mono ?_); rintro e w3 ⟨D, C, C2, rfl, kc, kc2, hs3, hr3, hG3⟩; have hz3 := hG3.size; have HR3 := Lib.hid hr3; have HG3 := Lib.hid hG3; clear hr3 hG3))
      go_wp2_with fail
      go_ret
      exact ⟨C2, _, rfl, by omega, by omega, HR3.out, HG3.out⟩
    · have dk : ¬ ((n : Nat) : Int) < ((S.size : Nat) : Int) := by omega
      go_wp2_with fail
      go_ret
      exact ⟨S, _, rfl, by omega, by omega, HR.out, HG.out⟩
  · have t0 : (x == 0) = false := beq_eq_false_iff_ne.mpr h0
    by_cases h1 : x = 1
    · have t1 : (x == 1) = true := by rw [h1]; rfl
      clear h0 h1
      go_wp2_with fail
      go_ret
      exact ⟨A, _, rfl, by omega, by omega, HR.out, HG.out⟩
    · have t1 : (x == 1) = false := beq_eq_false_iff_ne.mpr h1
      by_cases h2 : x = 2
      · have t2 : (x == 2) = true := by rw [h2]; rfl
        clear h0 h1 h2
        go_wp2_with fail
        go_at_call 17
        with_reducible refine (of_L _ _ _ _ _ 6 rfl (by kernel_rfl) HR.out (by omega) (by decide) (by decide)).mono ?_
        rintro e w3 ⟨D, rfl, hD, hr3, hg3⟩; obtain ⟨C, hC, kc⟩ := addS S D (by omega) (by omega); have hCs := app_size _ _ _ hC; have hG3 := grownBy_trans HG.out hg3 (fun x hx => .inl hx); have HR3 := Lib.hid hr3; have HG3 := Lib.hid hG3; clear hC hr3 hg3 hG3
        go_wp2_with fail
        go_ret
        exact ⟨C, _, rfl, by omega, by omega, HR3.out, HG3.out⟩
      · have t2 : (x == 2) = false := beq_eq_false_iff_ne.mpr h2
        clear h0 h1 h2
        go_wp2_with fail
        go_ret
        exact ⟨S, _, rfl, by omega, by omega, HR.out, HG.out⟩

end Go.Proofs.YtpaioaknppgggaaGreatDoor
