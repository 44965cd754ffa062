/- splitWords: the reference's. -/
import Derived.Test.YtpaioaknppgggaaGreatDoorTx19
namespace Go.Proofs.YtpaioaknppgggaaGreatDoor
open Go.RowKit
set_option linter.unusedVariables false
set_option linter.unusedSimpArgs false

def strV (x : List UInt8) : Value := .string ⟨x.toArray⟩
def WdRet (l : List UInt8) (w : World) (e : Ending) (w' : World) : Prop :=
  ∃ v : Value, e = .returned v ∧ Own w' w.heap.size 9 1 v (words l).length ((words l).map strV) ∧ Below w.heap.size w w'
theorem info_str : (Tryz.prog.info? 9).map (fun i => (i.zero, i.size, i.bytes)) = some (some (.string ⟨#[]⟩), 1, 16) := by kernel_rfl
theorem sl_mid {S : ByteArray} {l : List UInt8} (h : Str8 S l) {a b : Nat} (hab : a ≤ b) (hb : b ≤ l.length) : ∃ A, Hid (Str8 A ((l.take b).drop a)) ∧ ∀ W, (Instr.slice 9 (.string S) (some (.int .i64 (a : Int))) (some (.int .i64 (b : Int))) none).run Tryz.prog W = .ok (.string A) W := by
  refine ⟨S.extract a b, str_ext h a b, fun W => ?_⟩
  rw [run_slice_string_if W 9 S .i64 .i64 (a : Int) (b : Int) Tryz.underlying9, if_pos ⟨by omega, by rw [h.size]; omega⟩, if_pos ⟨by omega, by omega⟩]; simp
theorem words_cut {l : List UInt8} {f k : Nat} (hfk : f ≤ k) (hk : k < l.length) (hb : l.getD k 0 = 32) (hn : 32 ∉ (l.take k).drop f) : words (l.drop f) = (l.take k).drop f :: words (l.drop (k + 1)) := by
  have e : l.drop f = (l.take k).drop f ++ 32 :: l.drop (k + 1) := by
    have hd : l.drop k = 32 :: l.drop (k + 1) := by
      rw [List.drop_eq_getElem_cons hk, ← hb, List.getD_eq_getElem?_getD, List.getElem?_eq_getElem hk]; rfl
    rw [← hd]
    have h1 := List.drop_append_of_le_length (l₁ := l.take k) (l₂ := l.drop k) (i := f) (by rw [List.length_take]; omega)
    rw [List.take_append_drop] at h1
    exact h1
  rw [e, words_app hn]

set_option maxRecDepth 100000 in
set_option maxHeartbeats 16000000 in
theorem spec_splitWords (w : World) (S : ByteArray) (l : List UInt8) (hS : Str8 S l) (hl63 : l.length ≤ 1000000000) :
    Calls Tryz.prog 39 #[.string S] w (WdRet l w) := by
  have HS := Lib.hid hS
  have hsa : (S.size : Int) = (l.length : Int) := by rw [hS.size]
  clear hS
  go_enter Tryz.func39, Tryz.ntmps39
  go_wp2_with fail
  go_loopw [3, 4, 5] (fun v fv i wo => ∃ k f : Nat, ∃ ws : List (List UInt8), f ≤ k ∧ k ≤ l.length ∧ i = .int .i64 k ∧ fv = .int .i64 f ∧ Hid (words l = ws ++ words (l.drop f) ∧ 32 ∉ (l.take k).drop f) ∧ ws.length ≤ f ∧ Own wo w.heap.size 9 1 v ws.length (ws.map strV) ∧ Below w.heap.size w wo) (fun v fv i _ => l.length - (intOf i).toNat)
  case atStart => exact ⟨0, 0, [], Nat.le_refl _, Nat.zero_le _, rfl, rfl, ⟨rfl, by simp⟩, Nat.zero_le _, Own.made w [] 9 w.heap.size 1 0 rfl (Nat.le_refl _) (by decide), (Below.refl _ _).alloc (Nat.le_refl _) _⟩
  case round =>
    obtain ⟨k, f, ws, hfk, hk, rfl, rfl, HA, hwf, hO, hBw⟩ := hrel
    have hsz := hBw.size
    by_cases hkl : k < l.length
    · have kx := fun W => idx_at HS.out hkl W
      obtain ⟨b, hb⟩ : ∃ b, b = l.getD k 0 := ⟨_, rfl⟩
      rw [← hb] at kx
      have hbl : b.toNat < 256 := b.toNat_lt
      have hb32 : b = 32 ↔ b.toNat = 32 := ⟨fun e => by rw [e]; rfl, fun e => UInt8.toNat_inj.1 (by rw [e]; rfl)⟩
      obtain ⟨bn, hbn⟩ : ∃ bn, bn = b.toNat := ⟨_, rfl⟩
      rw [← hbn] at kx hbl hb32
      have hkl2 : (k : Int) < (l.length : Int) := by omega
      by_cases h32 : bn = 32
      · have d32 : ((bn : Int) == 32) = true := by rw [h32]; rfl
        obtain ⟨A, HAA, ks⟩ := sl_mid HS.out hfk hk
        have hwc := words_cut hfk hkl (by rw [← hb]; exact hb32.2 h32) HA.out.2
        obtain ⟨m, hm⟩ : ∃ m, m = (l.take k).drop f := ⟨_, rfl⟩
        rw [← hm] at HAA hwc
        have HNEW : Hid (words l = (ws ++ [m]) ++ words (l.drop (k + 1)) ∧ 32 ∉ (l.take (k + 1)).drop (k + 1)) := by
          refine ⟨?_, ?_⟩
          · rw [HA.out.1, hwc, List.append_assoc]; rfl
          · rw [List.drop_eq_nil_of_le (by rw [List.length_take]; omega)]; simp
        have hcell : ws.map strV ++ [Value.string A] = (ws ++ [m]).map strV := by
          have := HAA.out
          unfold Str8 at this
          rw [this, List.map_append]; rfl
        have HCE := Lib.hid hcell
        clear hb hbn hb32 hwc hm hcell HAA
        go_wp2_with (at_builtin; refine wpList_append_one _ rfl _ _ 23 rfl 9 (.string ⟨#[]⟩) 16 Tryz.underlying23 info_str rfl w.heap.size _ _ _ rfl hO _ _ rfl rfl (by omega) (by omega) hsz ?_; intro v' w8 hO8 hg8 _)
        have hB8 := hBw.trans (below_of_grownBy hg8 hsz (fun q hq => (hO.wblk hq).1))
        rw [HCE.out] at hO8
        clear hO hg8 hBw
        go_roundw
        case rel => exact ⟨k + 1, k + 1, ws ++ [m], Nat.le_refl _, by omega, by go_num, by go_num, HNEW, by simp; omega, by simpa using hO8, hB8⟩
        case measure => (simp only [intOf]; omega)
      · have d32 : ((bn : Int) == 32) = false := beq_eq_false_iff_ne.mpr (by omega)
        have HNEW : Hid (words l = ws ++ words (l.drop f) ∧ 32 ∉ (l.take (k + 1)).drop f) := by
          refine ⟨HA.out.1, ?_⟩
          rw [take_snoc1 l hkl, List.drop_append_of_le_length (by rw [List.length_take]; omega), ← hb]
          intro h
          rcases List.mem_append.1 h with h | h
          · exact HA.out.2 h
          · have := List.mem_singleton.1 h
            exact h32 (hb32.1 this.symm)
        clear hb hbn hb32
        go_wp2_with fail
        go_roundw
        case rel => exact ⟨k + 1, f, ws, by omega, by omega, by go_num, rfl, HNEW, hwf, hO, hBw⟩
        case measure => (simp only [intOf]; omega)
    · have hkk : k = l.length := by omega
      obtain ⟨A, HAA, ks⟩ := sl_from HS.out (n := f) (by omega)
      obtain ⟨m, hm⟩ : ∃ m, m = l.drop f := ⟨_, rfl⟩
      have HW : Hid (words l = ws ++ [m]) := by
        have h9 := HA.out
        rw [hkk, List.take_length, ← hm] at h9
        unfold Hid; rw [h9.1, words_one h9.2]
      rw [← hm] at HAA
      have hcell : ws.map strV ++ [Value.string A] = (ws ++ [m]).map strV := by
        have := HAA.out
        unfold Str8 at this
        rw [this, List.map_append]; rfl
      have HCE := Lib.hid hcell
      have hkl2 : ¬ (k : Int) < (l.length : Int) := by omega
      clear hkk hm hcell HAA HA
      go_wp2_with (at_builtin; refine wpList_append_one _ rfl _ _ 23 rfl 9 (.string ⟨#[]⟩) 16 Tryz.underlying23 info_str rfl w.heap.size _ _ _ rfl hO _ _ rfl rfl (by omega) (by omega) hsz ?_; intro v' w8 hO8 hg8 _)
      have hB8 := hBw.trans (below_of_grownBy hg8 hsz (fun q hq => (hO.wblk hq).1))
      rw [HCE.out] at hO8
      go_ret
      refine ⟨v', rfl, ?_, hB8⟩
      rw [HW.out]
      simpa using hO8
end Go.Proofs.YtpaioaknppgggaaGreatDoor
