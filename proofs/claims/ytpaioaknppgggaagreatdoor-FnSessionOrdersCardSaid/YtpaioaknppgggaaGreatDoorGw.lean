/- What the laid variables and the world's shape give. -/
import Derived.Test.YtpaioaknppgggaaGreatDoorRows
import Derived.Test.YtpaioaknppgggaaGreatDoorSsE
import Derived.Test.YtpaioaknppgggaaGreatDoorOpen
import Derived.LaidSub
import Derived.MakeChecks
import Derived.Shelf.Vars
import Derived.HandedShaped
namespace Go.Proofs.YtpaioaknppgggaaGreatDoor
open Go.RowKit
set_option linter.unusedVariables false
set_option linter.unusedSimpArgs false

theorem gw_of {W : World} (hL : laidMetH Tryz.prog Rows.fnExactRunSessionRow.laid W) (hsh : W.ShapedOpen Tryz.prog) : GW W := by
  refine ⟨?_, ?_⟩
  · have h1 := laidMetH.filter (fun x => x.1 == "internal/strconv.uint64pow10") hL
    have h2 : laidMetH Tryz.prog [("internal/strconv.uint64pow10", Rows.laid_internal_strconv_uint64pow10)] W := h1
    rw [MakeChecks.laidMetH_plain _ _ _ (by kernel_rfl)] at h2
    exact Lib.tabIs_of_head (t := 131) (e := 115) (n := 20) rfl rfl Tryz.underlying131 Tryz.underlying115 (by kernel_rfl) (by kernel_rfl) h2
  · exact Go.Proofs.cell_of_shapedOpen_int (zero := #[.int .i64 0]) (t := 3) hsh (of_decide_eq_true (by kernel_rfl)) (by kernel_rfl) rfl (by kernel_rfl) (by kernel_rfl) Tryz.underlying3
section
variable {H : Type} {enc : TypeId × Value → H} {P : Program} {w : World} {base : Nat} {spare : Nat → Bool} {held : Bool}
theorem open_Lns {t e : TypeId} {fuel : Nat} {v : Value} {x : DataW H × List MemPlace} (ht : P.underlying t = some (.slice e)) (he : P.underlying e = some .string) (hc : P.cellsOf e = 1) (h : DataW.trod enc P w base spare held fuel t [v] = some x) :
    ∃ xs : List (List UInt8), LnsR w 0 v xs ∧ ∀ x ∈ xs, x.length ≤ maxLen := by
  obtain ⟨n, V, hr, hV⟩ := open_Rd1 ht hc h
  obtain ⟨xs, h1, h2, h3⟩ := range_map_eq (f := strV) (V := V) (n := n) (fun i hi => by
    obtain ⟨m, y, hy⟩ := hV i hi
    obtain ⟨s, hs, _⟩ := DataW.trod_string he hy
    refine ⟨s.data.toList, ?_⟩
    simp at hs
    rw [hs]; unfold strV; simp)
  refine ⟨xs, by unfold LnsR; rw [h1, ← h2]; exact hr, fun x hx => ?_⟩
  obtain ⟨i, hi, e⟩ := h3 x hx
  obtain ⟨m, y, hy⟩ := hV i hi
  obtain ⟨s, hs, _, hm⟩ := DataW.trod_string he hy
  simp at hs
  rw [e] at hs
  unfold strV at hs
  have hs2 : (⟨x.toArray⟩ : ByteArray) = s := by simpa using hs
  rw [← hs2] at hm
  simpa [ByteArray.size] using hm
end
section
variable {H : Type} {enc : TypeId × Value → H}
/-- From a contract at every world that meets the listed variables AND has the program's shape, to the form's claim. -/
theorem hand_both {a : Assume} {C : Checked} {os : Os} {f : FuncId} {fn : Func} {s : ChangeSpec} {conds : List PathCond} {apart fresh handsOn again : Bool} {X : World → Array Value → Prop}
    (hX : ∀ (w w' : World) (args : Array Value), w.heap = w'.heap → X w args → X w' args)
    (own : ownKnob C.prog.godebug = none) (started : os.Started) (noInit : C.prog.inits.idxOf? f = none) (hfn : C.prog.funcs[f]? = some fn)
    (witness : ∃ (w : World) (tape : Tape) (i : Input), w.os = os ∧ (w.forCall tape i).Shaped C.prog ∧ i.vars = [] ∧ Input.okWide C.prog (w.forCall tape i) .any w.heap.size f i ∧
      ((s.pre enc C.prog fn conds apart (w.forCall tape i).memory i.args ∧ X (w.forCall tape i).memory i.args) ∧ sizedMet enc C.prog fn (OpenSpec.ofChange s) apart (w.forCall tape i).memory i.args) ∧ a.holds C.prog (lone (Frame.enter C.prog f i.args .normal) [] (w.forCall tape i)))
    (contract : ∀ (W : World) (base : Nat) (args : Array Value) (ds gs : List (DataW H)) (before : List MemPlace),
      (∀ (j : Nat) t v, fn.params[j]? = some t → args[j]? = some v → Value.okWide C.prog W .any base t v) →
      DataW.Whole enc C.prog fn.params.toList s.vars apart W args.toList ds gs before → X W args → W.ShapedOpen C.prog →
      Calls C.prog f args W fun e W' => ∃ v, e = .returned v ∧ s.post enc C.prog fn apart fresh handsOn again W args v W') :
    ReturnsInHanded a C os f .any (fun w args => (s.pre enc C.prog fn conds apart w args ∧ X w args) ∧ sizedMet enc C.prog fn (OpenSpec.ofChange s) apart w args) (s.post enc C.prog fn apart fresh handsOn again) := by
  refine returnsInHanded_of_calls own started noInit witness ?_
  intro w tape i _ hsh _ hok hpre _
  obtain ⟨_, _, _, fn', hfn', _, _, _, _, hval⟩ := hok
  cases Option.some.inj (hfn'.symm.trans hfn)
  obtain ⟨⟨⟨ds, gs, before, hw, _⟩, hx⟩, _⟩ := hpre
  refine (contract (w.forCall tape i) w.heap.size i.args ds gs before hval (DataW.Whole.of_heap (w' := w.forCall tape i) (by rfl) hw) (hX _ _ _ (by rfl) hx) hsh).mono ?_
  rintro e W' ⟨v, rfl, hp⟩
  exact ChangeSpec.post_blind hp
end
end Go.Proofs.YtpaioaknppgggaaGreatDoor
