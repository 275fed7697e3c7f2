/- The first call of head's laws. -/
import Derived.Test.YthpeengmcjpknaaGreatDoorPU3
import Derived.Test.YthpeengmcjpknaaGreatDoorPEC
import Derived.Test.YthpeengmcjpknaaGreatDoorPVT
set_option linter.unusedSimpArgs false
set_option linter.unusedVariables false
namespace Go.Proofs.YthpeengmcjpknaaGreatDoor
open Go.V Go.RowKit
def dDef : Dm := ⟨124, 94, 126, 92, 38⟩
theorem okDef : OkD dDef := (validD_iff dDef).1 (by decide)
theorem dvDef : dvD dDef = [.int .u8 124, .int .u8 94, .int .u8 126, .int .u8 92, .int .u8 38] := by kernel_rfl
def tmS : Str := [50, 48, 48, 48, 48, 49, 48, 49, 48, 48, 48, 48, 48, 48]
def alM : List Seg := mkL dDef ([65], [66]) ([67], []) [65, 68, 84] [65, 48, 49] [55] [50, 46, 53] tmS
theorem alM1 : prE (mD dDef ⟨none, 0, 0⟩) alM = 0 := by kernel_rfl
theorem alM2 : prS (mD dDef ⟨none, 0, 0⟩) alM = [77, 83, 72, 124, 94, 126, 92, 38, 124, 65, 124, 66, 124, 67, 124, 124, 50, 48, 48, 48, 48, 49, 48, 49, 48, 48, 48, 48, 48, 48, 124, 124, 65, 68, 84, 94, 65, 48, 49, 124, 55, 124, 80, 124, 50, 46, 53, 13] := by kernel_rfl
theorem alM3 : bkM alM ≤ 100000 := by decide +kernel
theorem alM4 : chkE (mD dDef ⟨none, 0, 0⟩) alM = 0 ∧ hd alM 10 1 = [55] := by
  obtain ⟨hv, _, _, _, _, _, _, h9, _, h10, _⟩ := mk_ok okDef ⟨none, 0, 0⟩ ([65], [66]) ([67], []) [65, 68, 84] [65, 48, 49] [55] [50, 46, 53] tmS
  have hv : validM (mD dDef ⟨none, 0, 0⟩) alM = true := hv
  have h9 : hd alM 9 1 = [65, 68, 84] := h9
  have h10 : hd alM 10 1 = [55] := h10
  refine ⟨?_, h10⟩
  unfold chkE chkB
  rw [if_pos hv, h9, h10]; rfl
section
variable {w : World} {k : Value → World → Prop}
theorem alive10_spec (hG : GMax w) (hk : ∀ w', Fr Non w w' → k (.bool true) w') : Cl Tryz.prog 31 [] w k := by
  refine f31_ok ?_
  unfold f31
  refine default_spec fun w1 f1 => ⟨_, _, _, _, _, rfl, ?_⟩
  rw [show dC 124 94 126 92 38 = dvD dDef from dvDef.symm]
  refine make_spec dDef okDef ([65], [66]) ([67], []) [65, 68, 84] [65, 48, 49] [55] [50, 46, 53] tmS (by decide) (hG.fr f1 (fun h => h)) fun y w8 hy f8 => ⟨_, _, _, _, _, y, _, rfl, ?_⟩
  have hR8 : RM w8 y alM := OwM.rd hy
  intro b17 w18 hb17 hw18
  obtain ⟨m1, n1⟩ := msgVar (mD dDef y) hb17 hw18
  refine ⟨m1, fun w19 hw19 => ?_⟩
  obtain ⟨hX, f19⟩ := n1 w19 hw19
  have hbB : bkM alM ≤ BB := by have := alM3; unfold BB; omega
  have k19 := (f1.trans' f8).trans' f19
  have hR19 : RM w19 y alM := hR8.fr f19
  refine ⟨_, _, _, _, _, y, msgAts hX, tprint_spec (mD dDef y) alM hR19 hbB (Dg_mD dDef y) fun w26 f26 => ⟨_, _, rfl, fun _ => ⟨fun _ => ⟨fun _ => ⟨_, _, _, _, _, y, msgAts (hX.fr f26 (fun h => h)), hcheck_spec (mD dDef y) alM (hR19.fr f26) (SmM_of hbB) (Dg_mD dDef y) fun w36 f36 => ⟨_, rfl, fun _ => ⟨_, _, _, _, _, y, msgAts (hX.fr (f26.trans' f36) (fun h => h)), control_spec (mD dDef y) alM (hR19.fr (f26.trans' f36)) (SmM_of hbB) fun w45 f45 => ⟨_, rfl, ?_⟩⟩, fun h => ?_⟩⟩, fun h => ?_⟩, fun h => ?_⟩, fun h => (by cases h)⟩⟩
  · rw [alM4.2]; exact hk _ (k19.trans' ((f26.trans' f36).trans' f45))
  · rw [show chkE (mD dDef y) alM = 0 from alM4.1] at h; cases h
  · rw [show prS (mD dDef y) alM = prS (mD dDef ⟨none, 0, 0⟩) alM from rfl, alM2] at h; simp at h
  · rw [show prE (mD dDef y) alM = 0 from alM1] at h; cases h
end
end Go.Proofs.YthpeengmcjpknaaGreatDoor
