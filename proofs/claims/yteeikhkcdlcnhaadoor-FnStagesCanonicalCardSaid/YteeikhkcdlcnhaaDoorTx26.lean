/- FnStagesCanonical: the draw of a text, and the walk. -/
import Derived.Test.YteeikhkcdlcnhaaDoorTx25
namespace Go.Proofs.YteeikhkcdlcnhaaDoor
open Go.RowKit
set_option linter.unusedVariables false
set_option linter.unusedSimpArgs false

def smallS (l : List Value) : Bool := l.all fun v => match v with | .string S => decide (S.size ≤ 100) | _ => false
theorem smallS_out : ∀ l, smallS l = true → ∃ ss : List ByteArray, l = ss.map Value.string ∧ ∀ S ∈ ss, S.size ≤ 100
  | [], _ => ⟨[], rfl, by simp⟩
  | v :: l, h => by
    unfold smallS at h
    rw [List.all_cons, Bool.and_eq_true] at h
    obtain ⟨ss, rfl, h2⟩ := smallS_out l h.2
    cases v
    case string S => exact ⟨S :: ss, rfl, by
      intro x hx
      rcases List.mem_cons.1 hx with rfl | hx
      · exact of_decide_eq_true h.1
      · exact h2 x hx⟩
    all_goals exact absurd h.1 (by simp)

theorem of_B {hi : Nat} (w : World) (rb p : Nat) (v : Value) (ss : List ByteArray) (hr : Rdh hi w rb p) (hp : p ≤ 1000000000) (hv : Rd w (rb + 1) v 1 ss.length (ss.map Value.string)) (hne : 0 < ss.length) (hne' : ss.length ≤ 1000) :
    Calls Tryd.prog 41 #[.pointer (some ⟨rb, 0, none⟩), v] w fun e w' => ∃ S : ByteArray, e = .returned (.string S) ∧ Hid (S ∈ ss) ∧ Rdh hi w' rb (p + 1) ∧ w.grownBy w' (some rb) := by
  obtain ⟨ao, cap, rfl, hcap, hm⟩ := hv.form
  obtain ⟨b, off, rfl, hb, hb2, hc⟩ := Rd.spot ⟨#[]⟩ hv hne
  clear hv
  go_enter Tryd.func41, Tryd.ntmps41
  go_wp2_with (go_at_call 39; refine (pick_h _ _ _ _ hr hp (by omega)).mono ?_; rintro e w' ⟨x, rfl, ⟨hx0, hx1, hx2⟩, hr', hg⟩; have hx3 := hx1 (by omega); clear hx1
               obtain ⟨S, hS⟩ : ∃ S, S = ss.getD x.toNat ⟨#[]⟩ := ⟨_, rfl⟩
               have hcx : w'.cell? ⟨b, off + x.toNat, none⟩ = some (.string S) := by
                 rw [hS, ← hc x.toNat (by omega)]; exact World.cell?_of_block (hg.block b hb2 (fun e => by have := Option.some.inj e; omega))
               have HM : Hid (S ∈ ss) := by
                 unfold Hid; rw [hS, List.getD_eq_getElem?_getD, List.getElem?_eq_getElem (by omega)]; exact List.getElem_mem _
               clear hS hc)
  go_ret
  exact ⟨_, rfl, HM, hr', hg⟩

/-- of a list that was written out in the call. -/
theorem of_L {hi : Nat} (w : World) (rb p : Nat) (cs : Array Value) (t : TypeId) (n : Nat) (hn : cs.size = n) (hs : smallS cs.toList = true) (hr : Rdh hi w rb p) (hp : p ≤ 1000000000) (hne : 0 < n) (hne' : n ≤ 1000) :
    Calls Tryd.prog 41 #[.pointer (some ⟨rb, 0, none⟩), .slice (some ⟨w.heap.size, 0, none⟩) n n] (w.alloc (.cells cs t))
      fun e w' => ∃ S : ByteArray, e = .returned (.string S) ∧ S.size ≤ 100 ∧ Rdh hi w' rb (p + 1) ∧ w.grownBy w' (some rb) := by
  have hlt := hr.lt
  obtain ⟨ss, hss, hsm⟩ := smallS_out _ hs
  obtain ⟨cl⟩ := cs
  simp only at hss
  subst hss
  have hl : ss.length = n := by rw [← hn]; simp
  subst hl
  refine (of_B _ rb p _ ss (hr.grown (World.grownBy_alloc w _ none) (fun k hk => by cases hk)) hp (Rd.made w (ss.map Value.string) t (rb + 1) 1 ss.length (by simp) (by omega) (by unfold maxLen; omega)) hne hne').mono ?_
  rintro e w' ⟨x, rfl, hx, hr', hg⟩
  exact ⟨x, rfl, hsm x hx, hr', grownBy_trans (World.grownBy_alloc w _ _) hg (fun x h => .inl h)⟩

/-- The same, where an order is drawn behind it. -/
theorem of_LD {hi : Nat} (w : World) (rb p : Nat) (cs : Array Value) (t : TypeId) (n : Nat) (hn : cs.size = n) (hs : smallS cs.toList = true) (hr : Rdh hi w rb p) (hp : p ≤ 1000000000) (hne : 0 < n) (hne' : n ≤ 1000) :
    Calls Tryd.prog 41 #[.pointer (some ⟨rb, 0, none⟩), .slice (some ⟨w.heap.size, 0, none⟩) n n] (w.alloc (.cells cs t)).drew
      fun e w' => ∃ S : ByteArray, e = .returned (.string S) ∧ S.size ≤ 100 ∧ Rdh hi w' rb (p + 1) ∧ w.grownBy w' (some rb) := by
  have hlt := hr.lt
  obtain ⟨ss, hss, hsm⟩ := smallS_out _ hs
  obtain ⟨cl⟩ := cs
  simp only at hss
  subst hss
  have hl : ss.length = n := by rw [← hn]; simp
  subst hl
  have hr2 := (hr.grown (World.grownBy_alloc w (.cells (ss.map Value.string).toArray t) none) (fun k hk => by cases hk)).grown (row := none) (w' := (w.alloc (.cells (ss.map Value.string).toArray t)).drew) ⟨rfl, rfl, rfl, Nat.le_refl _, fun _ _ _ => rfl⟩ (fun _ e => by cases e)
  have hd : (w.alloc (.cells (ss.map Value.string).toArray t)).grownBy (w.alloc (.cells (ss.map Value.string).toArray t)).drew (some rb) := ⟨rfl, rfl, rfl, Nat.le_refl _, fun _ _ _ => rfl⟩
  refine (of_B _ rb p _ ss hr2 hp (Rd.drewN (Rd.made w (ss.map Value.string) t (rb + 1) 1 ss.length (by simp) (by omega) (by unfold maxLen; omega)) 1) hne hne').mono ?_
  rintro e w' ⟨x, rfl, hx, hr', hg⟩
  exact ⟨x, rfl, hsm x hx, hr', grownBy_trans (grownBy_trans (World.grownBy_alloc w _ _) hd (fun x h => .inl h)) hg (fun x h => .inl h)⟩

def MutRet (hi : Nat) (w : World) (rb p : Nat) (S : ByteArray) (e : Ending) (w' : World) : Prop :=
  ∃ (A : ByteArray) (p' : Nat), e = .returned (.string A) ∧ A.size ≤ S.size + 100 ∧ p' ≤ p + 3 ∧ Rdh hi w' rb p' ∧ w.grownBy w' (some rb)
theorem app_size (A B C : ByteArray) (h : A ++ B = C) : C.size = A.size + B.size := by rw [← h, ByteArray.size_append]

set_option maxRecDepth 100000 in
set_option maxHeartbeats 8000000 in
theorem mutate_h {hi : Nat} (w : World) (rb p : Nat) (S : ByteArray) (hr : Rdh hi w rb p) (hp : p ≤ 900000000) (hsz : S.size ≤ 100000) :
    Calls Tryd.prog 40 #[.pointer (some ⟨rb, 0, none⟩), .string S] w (MutRet hi w rb p S) := by
  have hS : Str8 S S.data.toList := str8_self S
  have hl : S.data.toList.length = S.size := hS.size.symm
  obtain ⟨l, hll⟩ : ∃ l, l = S.data.toList := ⟨_, rfl⟩
  rw [← hll] at hS hl
  clear hll
  have HS := Lib.hid hS
  clear hS
  go_enter Tryd.func40, Tryd.ntmps40
  go_wp2_with fail
  go_at_call 39
  refine (pick_h _ _ _ _ hr (by omega) (by omega)).mono ?_; rintro e w1 ⟨k, rfl, ⟨hk0, hk1, hk2⟩, hr1, hg1⟩
  have hk3 := hk1 (by omega)
  clear hk1
  obtain ⟨n, rfl⟩ : ∃ n : Nat, k = n := ⟨k.toNat, by omega⟩
  go_wp2_with fail
  go_at_call 39
  refine (pick_h _ _ _ 5 hr1 (by omega) (by omega)).mono ?_; rintro e w2 ⟨x, rfl, ⟨hx0, hx1, hx2⟩, hr2, hg2⟩
  have hg := grownBy_trans hg1 hg2 (fun x hx => .inl hx)
  have HR := Lib.hid hr2
  have HG := Lib.hid hg
  have hlt := hr2.lt
  clear hr hr1 hr2 hg1 hg2 hg hx1
  obtain ⟨A, HA, ka⟩ := sl_to HS.out (n := n) (by omega)
  have hA : A.size ≤ S.size := by rw [HA.out.size, ← hl, List.length_take]; omega
  by_cases h0 : x = 0
  · have t0 : (x == 0) = true := by rw [h0]; rfl
    clear h0
    by_cases hkl : n < S.size
    · have dk : ((n : Nat) : Int) < ((S.size : Nat) : Int) := by omega
      obtain ⟨q, hq⟩ : ∃ q : Nat, q = n + 1 := ⟨_, rfl⟩
      obtain ⟨B, HB, kb⟩ := sl_from HS.out (n := q) (by omega)
      have hB : A.size + B.size ≤ S.size := by rw [HA.out.size, HB.out.size, ← hl, List.length_take, List.length_drop]; omega
      have hq2 : ((q : Nat) : Int) = ((n : Nat) : Int) + 1 := by omega
      rw [hq2] at kb
      have hwr : IntKind.i64.wrap ((n : Int) + 1) = (n : Int) + 1 := IntWalk.i64_in _ (by omega)
      clear hq hq2
      have HLD : Hid (∀ (cs : Array Value) (t : TypeId), cs.size = 8 → smallS cs.toList = true → Calls Tryd.prog 41 #[.pointer (some ⟨rb, 0, none⟩), .slice (some ⟨w2.heap.size, 0, none⟩) 8 8] (w2.alloc (.cells cs t)).drew
          fun e w' => ∃ D C C2 : ByteArray, e = .returned (.string D) ∧ (∀ W : World, (Op.stringOp .add A D).run Tryd.prog W = .ok (.string C) W) ∧ (∀ W : World, (Op.stringOp .add C B).run Tryd.prog W = .ok (.string C2) W) ∧ C2.size ≤ S.size + 100 ∧ Rdh hi w' rb (p + 1 + 1 + 1) ∧ w.grownBy w' (some rb)) := by
        intro cs t h8 hs8
        refine (of_LD w2 rb _ cs t 8 h8 hs8 HR.out (by omega) (by decide) (by decide)).mono ?_
        rintro e w3 ⟨D, rfl, hD, hr3, hg3⟩
        obtain ⟨C, hC, kc⟩ := addS A D (by omega) (by omega)
        have hCs := app_size _ _ _ hC
        obtain ⟨C2, hC2, kc2⟩ := addS C B (by omega) (by omega)
        have hCs2 := app_size _ _ _ hC2
        exact ⟨D, C, C2, rfl, kc, kc2, by omega, hr3, grownBy_trans HG.out hg3 (fun x hx => .inl hx)⟩
      have hgz := HG.out.size
      go_wp2_with fail
      go_region_held3 (fun w' => w.heap.size ≤ w'.heap.size)
        (first | exact hgz | exact hz3 | (show _ ≤ (World.alloc _ _).heap.size; simp only [World.size_alloc]; omega) | assumption)
        ((go_at_call 41; (with_reducible refine (HLD.out _ _ (by kernel_rfl) (by kernel_rfl)).mono ?_); rintro e w3 ⟨D, C, C2, rfl, kc, kc2, hs3, hr3, hG3⟩; have hz3 := hG3.size; have HR3 := Lib.hid hr3; have HG3 := Lib.hid hG3; clear hr3 hG3))
      go_wp2_with fail
      go_ret
      exact ⟨C2, _, rfl, by omega, by omega, HR3.out, HG3.out⟩
    · have dk : ¬ ((n : Nat) : Int) < ((S.size : Nat) : Int) := by omega
      go_wp2_with fail
      go_ret
      exact ⟨S, _, rfl, by omega, by omega, HR.out, HG.out⟩
  · have t0 : (x == 0) = false := beq_eq_false_iff_ne.mpr h0
    by_cases h1 : x = 1
    · have t1 : (x == 1) = true := by rw [h1]; rfl
      clear h0 h1
      go_wp2_with fail
      go_ret
      exact ⟨A, _, rfl, by omega, by omega, HR.out, HG.out⟩
    · have t1 : (x == 1) = false := beq_eq_false_iff_ne.mpr h1
      by_cases h2 : x = 2
      · have t2 : (x == 2) = true := by rw [h2]; rfl
        clear h0 h1 h2
        go_wp2_with fail
        go_at_call 41
        with_reducible refine (of_L _ _ _ _ _ 6 rfl (by kernel_rfl) HR.out (by omega) (by decide) (by decide)).mono ?_
        rintro e w3 ⟨D, rfl, hD, hr3, hg3⟩; obtain ⟨C, hC, kc⟩ := addS S D (by omega) (by omega); have hCs := app_size _ _ _ hC; have hG3 := grownBy_trans HG.out hg3 (fun x hx => .inl hx); have HR3 := Lib.hid hr3; have HG3 := Lib.hid hG3; clear hC hr3 hg3 hG3
        go_wp2_with fail
        go_ret
        exact ⟨C, _, rfl, by omega, by omega, HR3.out, HG3.out⟩
      · have t2 : (x == 2) = false := beq_eq_false_iff_ne.mpr h2
        clear h0 h1 h2
        go_wp2_with fail
        go_ret
        exact ⟨S, _, rfl, by omega, by omega, HR.out, HG.out⟩

theorem fmtO_len (ss : List Stg) : (fmtO ss).length ≤ 105 := by
  unfold fmtO
  split
  · rename_i h
    have h1 := txt_len h ss.length (Nat.le_refl _)
    have h5 := (okSt_iff.1 h).2.2
    omega
  · simp
def DrawPs (w : World) (e : Ending) (w' : World) : Prop := ∃ S : ByteArray, e = .returned (.string S) ∧ S.size ≤ 1000 ∧ Below w.heap.size w w'
set_option maxRecDepth 100000 in
set_option maxHeartbeats 8000000 in
theorem drawParseStages (w : World) (v : Value) (bs : List UInt8) (hv : Bytes w 0 v bs) :
    Calls Tryd.prog 18 #[v] w (DrawPs w) := by
  obtain ⟨ao, cap, rfl, _, _⟩ := hv.form
  have HBB := Lib.hid (bytes_blk hv)
  have HV := Lib.hid hv
  clear hv
  obtain ⟨n0, hn0⟩ : ∃ n0, n0 = w.heap.size := ⟨_, rfl⟩
  go_enter Tryd.func18, Tryd.ntmps18
  go_wp2_with fail
  go_at_call 37
  refine (newReader_B w w.heap.size _ bs HV.out HBB.out (Nat.le_refl _)).mono ?_; rintro e w1 ⟨rfl, hr1, hB1⟩
  have hr1 : Rdh w.heap.size w1 w.heap.size 0 := hr1
  have HR := Lib.hid hr1
  have HB := Lib.hid hB1
  clear hr1 hB1
  rw [← hn0]
  have hw1 : w1.heap.size = w1.heap.size := rfl
  rw [← hn0] at HR HB
  have HN := Lib.hid hn0
  clear hn0 hw1
  go_wp2_with fail
  go_at_call 36
  refine (anyPlan_any _ _ _ HR.out (by omega)).mono ?_; rintro e w2 ⟨v2, pl, p2, rfl, hP2, hD2, hp2, hr2, hg2⟩
  obtain ⟨vc, vs, rfl, hc2, hs2⟩ := hP2
  obtain ⟨b4, d4, rfl, _, _⟩ := hc2.form
  obtain ⟨b5, d5, rfl, _, _⟩ := hs2.form
  have HS2 := Lib.hid (hs2.mono (Nat.zero_le _))
  have HB2 := Lib.hid (HB.out.trans (below_of_grownBy hg2 (B := n0) (by rw [HN.out]; exact HB.out.size) (fun k hk => by cases hk; exact Nat.le_refl _)))
  have HR2 := Lib.hid hr2
  clear hc2 hs2 hD2 hr2 hg2
  have hfd := fun W => plan_st b4 pl.cl.length d4 b5 pl.st.length d5 W
  go_wp2_with fail
  go_at_call 8
  refine (spec_format _ _ _ _ HS2.out).mono ?_; rintro e w3 ⟨rfl, hB3⟩
  obtain ⟨D, hD⟩ : ∃ D : ByteArray, D = ⟨(fmtO pl.st).toArray⟩ := ⟨_, rfl⟩
  have hDs : D.size ≤ 105 := by rw [hD, ba_size]; exact fmtO_len _
  rw [← hD]
  clear hD
  have hlt := HR2.out.lt
  have HR3 := Lib.hid (HR2.out.below hB3 hlt)
  have HB3 := Lib.hid (HB2.out.trans (hB3.mono (by rw [HN.out]; exact HB2.out.size)))
  clear hB3 hfd
  obtain ⟨S0, hS0⟩ : ∃ S : ByteArray, S = D := ⟨D, rfl⟩
  go_wp2_with fail
  go_at_call 39
  refine (pick_h _ _ _ 3 HR3.out (by omega) (by omega)).mono ?_; rintro e w4 ⟨x, rfl, _, hr4, hg4⟩
  have HR4 := Lib.hid hr4
  have HB4 := Lib.hid (HB3.out.trans (below_of_grownBy hg4 (B := n0) (by rw [HN.out]; exact HB3.out.size) (fun k hk => by cases hk; exact Nat.le_refl _)))
  clear hr4 hg4 hS0 S0
  have fin : ∀ (A : ByteArray) (W : World) (q : Nat), A.size ≤ 205 → q ≤ 100000 → Rdh n0 W n0 q → Below n0 w W → True := fun _ _ _ _ _ _ _ => trivial
  clear fin
  by_cases h0 : x = 0
  · have t0 : (x == 0) = true := by rw [h0]; rfl
    clear h0
    go_wp2_with fail
    go_at_call 40
    refine (mutate_h _ _ _ D HR4.out (by omega) (by omega)).mono ?_; rintro e w5 ⟨A, p5, rfl, hA, hp5, hr5, hg5⟩
    have HR5 := Lib.hid hr5
    have HB5 := Lib.hid (HB4.out.trans (below_of_grownBy hg5 (B := n0) (by rw [HN.out]; exact HB4.out.size) (fun k hk => by cases hk; exact Nat.le_refl _)))
    clear hr5 hg5
    go_wp2_with fail
    go_at_call 39
    refine (pick_h _ _ _ 12 HR5.out (by omega) (by omega)).mono ?_; rintro e w6 ⟨y, rfl, _, hr6, hg6⟩
    have HR6 := Lib.hid hr6
    have HB6 := Lib.hid (HB5.out.trans (below_of_grownBy hg6 (B := n0) (by rw [HN.out]; exact HB5.out.size) (fun k hk => by cases hk; exact Nat.le_refl _)))
    clear hr6 hg6
    by_cases h1 : y = 0
    · have t1 : (y == 0) = true := by rw [h1]; rfl
      clear h1
      go_wp2_with fail
      go_at_call 41
      with_reducible refine (of_L _ _ _ _ _ 12 rfl (by kernel_rfl) HR6.out (by omega) (by decide) (by decide)).mono ?_
      rintro e w7 ⟨B, rfl, hBs, hr7, hg7⟩
      have HB7 := Lib.hid (HB6.out.trans (below_of_grownBy hg7 (B := n0) (by rw [HN.out]; exact HB6.out.size) (fun k hk => by cases hk; exact Nat.le_refl _)))
      clear hr7 hg7
      go_wp2_with fail
      go_ret
      exact ⟨B, rfl, by omega, by rw [← HN.out]; exact HB7.out⟩
    · have t1 : (y == 0) = false := beq_eq_false_iff_ne.mpr h1
      clear h1
      go_wp2_with fail
      go_ret
      exact ⟨A, rfl, by omega, by rw [← HN.out]; exact HB6.out⟩
  · have t0 : (x == 0) = false := beq_eq_false_iff_ne.mpr h0
    clear h0
    go_wp2_with fail
    go_at_call 39
    refine (pick_h _ _ _ 12 HR4.out (by omega) (by omega)).mono ?_; rintro e w6 ⟨y, rfl, _, hr6, hg6⟩
    have HR6 := Lib.hid hr6
    have HB6 := Lib.hid (HB4.out.trans (below_of_grownBy hg6 (B := n0) (by rw [HN.out]; exact HB4.out.size) (fun k hk => by cases hk; exact Nat.le_refl _)))
    clear hr6 hg6
    by_cases h1 : y = 0
    · have t1 : (y == 0) = true := by rw [h1]; rfl
      clear h1
      go_wp2_with fail
      go_at_call 41
      with_reducible refine (of_L _ _ _ _ _ 12 rfl (by kernel_rfl) HR6.out (by omega) (by decide) (by decide)).mono ?_
      rintro e w7 ⟨B, rfl, hBs, hr7, hg7⟩
      have HB7 := Lib.hid (HB6.out.trans (below_of_grownBy hg7 (B := n0) (by rw [HN.out]; exact HB6.out.size) (fun k hk => by cases hk; exact Nat.le_refl _)))
      clear hr7 hg7
      go_wp2_with fail
      go_ret
      exact ⟨B, rfl, by omega, by rw [← HN.out]; exact HB7.out⟩
    · have t1 : (y == 0) = false := beq_eq_false_iff_ne.mpr h1
      clear h1
      go_wp2_with fail
      go_ret
      exact ⟨D, rfl, by omega, by rw [← HN.out]; exact HB6.out⟩

theorem parU_none {l : List UInt8} (hp : parseO l = none) {w : World} {e : Ending} {w' : World} (h : ParRet l w e w') : ParU [] false w e w' := by
  obtain ⟨v, ok, rfl, h | ⟨rfl, _, rfl⟩, hB⟩ := h
  · obtain ⟨_, x, hx, _⟩ := h; rw [hp] at hx; cases hx
  · exact ⟨_, rfl, ownStg_nil _ _, hB⟩
theorem parU_some {l : List UInt8} {ss : List Stg} (hp : parseO l = some ss) {w : World} {e : Ending} {w' : World} (h : ParRet l w e w') : ParU ss true w e w' := by
  obtain ⟨v, ok, rfl, ⟨rfl, x, hx, hO⟩ | ⟨_, hx, _⟩, hB⟩ := h
  · rw [hp] at hx; cases hx; exact ⟨v, rfl, hO, hB⟩
  · rw [hp] at hx; cases hx

set_option maxRecDepth 100000 in
set_option maxHeartbeats 8000000 in
theorem fnStagesCanonical_walk (w : World) (v : Value) (bs : List UInt8) (hv : Bytes w 0 v bs) :
    Calls Tryd.prog 6 #[v] w fun e w' => e = .returned (.bool true) ∧ Below w.heap.size w w' := by
  obtain ⟨ao, cap, rfl, _, _⟩ := hv.form
  have HV := Lib.hid hv
  clear hv
  by_cases hbig : 1048576 < bs.length
  · have d1 : (1048576 : Int) < (bs.length : Int) := by omega
    go_enter Tryd.func6, Tryd.ntmps6
    go_wp2_with fail
    go_ret
    exact ⟨rfl, Below.refl _ _⟩
  have d1 : ¬ (1048576 : Int) < (bs.length : Int) := by omega
  clear hbig
  go_enter Tryd.func6, Tryd.ntmps6
  go_wp2_with fail
  go_at_call 18
  refine (drawParseStages _ _ bs HV.out).mono ?_; rintro e w1 ⟨S, rfl, hsz, hB1⟩
  have HB1 := Lib.hid hB1
  clear hB1
  have hS : Str8 S S.data.toList := str8_self S
  have hl : S.data.toList.length ≤ 1000000000 := by rw [← hS.size]; omega
  have dd : (S.toList == S.toList) = true := ba_beq.2 rfl
  cases hp : parseO S.data.toList with
  | none =>
    have HSP : Hid (∀ w', Calls Tryd.prog 12 #[.string S] w' (ParU [] false w')) := fun w' => (spec_parse w' S _ hS hl).mono (fun _ _ h => parU_none hp h)
    have HIM : Hid (∀ w', Calls Tryd.prog 13 #[.string S] w' (ParU [] false w')) := fun w' => (impl_parse w' S _ hS hl).mono (fun _ _ h => parU_none hp h)
    clear hS hl hp
    go_wp2_with fail
    go_at_call 13
    refine (HIM.out _).mono ?_; rintro e w2 ⟨v2, rfl, hO2, hB2⟩
    have HO2 := Lib.hid (hO2.stg.mono (Nat.zero_le _))
    have HB2 := Lib.hid (HB1.out.trans (hB2.mono HB1.out.size))
    clear hO2 hB2
    go_wp2_with fail
    go_at_call 12
    refine (HSP.out _).mono ?_; rintro e w3 ⟨v3, rfl, hO3, hB3⟩
    have HO3 := Lib.hid (hO3.stg.mono (Nat.zero_le _))
    have HO2 := Lib.hid (HO2.out.below hB3 (Nat.le_refl _))
    have HB3 := Lib.hid (HB2.out.trans (hB3.mono HB2.out.size))
    clear hO3 hB3
    go_wp2_with (go_at_call 17; refine (equalStages_same _ _ _ [] HO2.out HO3.out).mono ?_; rintro e w5 ⟨rfl, hB5⟩; have HB5 := Lib.hid (HB3.out.trans (hB5.mono HB3.out.size)); clear hB5)
    go_ret
    exact ⟨rfl, HB5.out⟩
  | some ss =>
    have HSP : Hid (∀ w', Calls Tryd.prog 12 #[.string S] w' (ParU ss true w')) := fun w' => (spec_parse w' S _ hS hl).mono (fun _ _ h => parU_some hp h)
    have HIM : Hid (∀ w', Calls Tryd.prog 13 #[.string S] w' (ParU ss true w')) := fun w' => (impl_parse w' S _ hS hl).mono (fun _ _ h => parU_some hp h)
    have h5 := (parse_small hp).1
    have hF : (⟨(fmtO ss).toArray⟩ : ByteArray) = S := by
      obtain ⟨k1, k2, k3⟩ := (parse_spec _ _).2 hp
      rw [← k3] at k1 k2
      unfold fmtO
      rw [if_pos k1, k2]
    have HF := Lib.hid hF
    have d5 : ((ss.length : Nat) : Int) ≤ 5 := by omega
    clear hS hl hp hF
    go_wp2_with fail
    go_at_call 13
    refine (HIM.out _).mono ?_; rintro e w2 ⟨v2, rfl, hO2, hB2⟩
    obtain ⟨a2, c2, rfl, _, _⟩ := hO2.stg.form
    have HO2 := Lib.hid (hO2.stg.mono (Nat.zero_le _))
    have HB2 := Lib.hid (HB1.out.trans (hB2.mono HB1.out.size))
    clear hO2 hB2
    go_wp2_with fail
    go_at_call 12
    refine (HSP.out _).mono ?_; rintro e w3 ⟨v3, rfl, hO3, hB3⟩
    have HO3 := Lib.hid (hO3.stg.mono (Nat.zero_le _))
    have HO2 := Lib.hid (HO2.out.below hB3 (Nat.le_refl _))
    have HB3 := Lib.hid (HB2.out.trans (hB3.mono HB2.out.size))
    clear hO3 hB3
    go_wp2_with (first
      | (go_at_call 17; refine (equalStages_same _ _ _ ss HO2.out HO3.out).mono ?_; rintro e w5 ⟨rfl, hB5⟩; have HO5 := Lib.hid (HO2.out.below hB5 (Nat.le_refl _)); have HB5 := Lib.hid (HB3.out.trans (hB5.mono HB3.out.size)); clear hB5)
      | (go_at_call 10; refine (impl_format _ _ _ ss HO5.out).mono ?_; rintro e w6 ⟨rfl, hB6⟩; rw [HF.out]; have HB6 := Lib.hid (HB5.out.trans (hB6.mono HB5.out.size)); clear hB6))
    go_ret
    exact ⟨rfl, HB6.out⟩
end Go.Proofs.YteeikhkcdlcnhaaDoor
