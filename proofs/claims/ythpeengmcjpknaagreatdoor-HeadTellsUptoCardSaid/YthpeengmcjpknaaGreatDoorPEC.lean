/- What is read of a text, whatever the text; the first call of chapter 8. -/
import Derived.Test.YthpeengmcjpknaaGreatDoorPEB
import Derived.Test.YthpeengmcjpknaaGreatDoorPM4
set_option linter.unusedSimpArgs false
set_option linter.unusedVariables false
namespace Go.Proofs.YthpeengmcjpknaaGreatDoor
open Go.V Go.RowKit
def txE (t : Str) : Int := parseE isName t
def zDm : Dm := ⟨0, 0, 0, 0, 0⟩
def txD (t : Str) : Dm := if txE t = 0 then (ofP t).getD zDm else zDm
def txL (t : Str) : List Seg := if txE t = 0 then parseL t else []
section
variable {w : World} {k : Value → World → Prop}
theorem parse_u (t : Str) (hG : GMax w) (hk : ∀ (y : Sl) w', OwM w' y (txL t) (fun b => w.heap.size ≤ b ∧ b < w'.heap.size) → Fr Non w w' → k (.tuple (List.toArray [.agg (List.toArray (mc (mD (txD t) y))), .int .i64 (txE t)])) w') :
    Cl Tryz.prog 22 [.string (mkS t)] w k := by
  refine tparse_spec t hG (fun d y w' ho h0 hy f => ?_) (fun w' h0 f => ?_)
  · have h0' : txE t = 0 := h0
    have e1 : txD t = d := by unfold txD; rw [if_pos h0', ho]; rfl
    have e2 : txL t = parseL t := by unfold txL; rw [if_pos h0']
    have := hk y w' (by rw [e2]; exact hy) f
    rw [e1, h0'] at this
    exact this
  · have h0' : ¬ txE t = 0 := h0
    have e1 : txD t = zDm := by unfold txD; rw [if_neg h0']
    have e2 : txL t = [] := by unfold txL; rw [if_neg h0']
    have := hk ⟨none, 0, 0⟩ w' (by rw [e2]; exact Own.nil _ _ _ _ _) f
    rw [e1] at this
    exact this
theorem msgVar {w1 : World} (m : Mh) {b : Nat} {w2 : World} (hb : b = w1.heap.size) (hw : w2 = w1.alloc (.cells (List.toArray [.int .u8 0, .int .u8 0, .int .u8 0, .int .u8 0, .int .u8 0, .slice none 0 0]) 26)) :
    mayCells w2 ⟨b, 0, none⟩ 0 6 ∧ ∀ w3, w3 = setCells w2 ⟨b, 0, none⟩ 0 (mc m) → Blk w3 b 26 (mc m) ∧ Fr Non w1 w3 := by
  have hB : Blk w2 b 26 (mc zM) := hb ▸ hw ▸ Blk.new w1 _ _
  have f2 : Fr Non w1 w2 := hw ▸ (Fr.refl Non w1).alloc _
  refine ⟨mayCells_of hB 0 6 (by simp [mc]), ?_⟩
  rintro w3 rfl
  exact ⟨hB.setAll rfl, f2.setAll hB (vs := mc m) rfl (fun h => absurd h (by omega))⟩
theorem msgAts {w1 : World} {m : Mh} {b : Nat} (h : Blk w1 b 26 (mc m)) : cellsAt w1 ⟨b, 0, none⟩ 0 (mc m) := h.ats _ 0 0 (fun q v hq => by simpa using hq)
def tA : Str := [77, 83, 72, 124, 94, 126, 92, 38, 124, 65, 94, 66, 38, 67, 126, 68, 13, 80, 73, 68, 124, 124, 13, 10]
end
end Go.Proofs.YthpeengmcjpknaaGreatDoor
