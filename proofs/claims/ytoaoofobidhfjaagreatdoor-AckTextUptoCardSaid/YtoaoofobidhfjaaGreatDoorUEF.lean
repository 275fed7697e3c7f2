/- What is printed is read as the canonical message. -/
import Derived.Test.YtoaoofobidhfjaaGreatDoorUEC
set_option linter.unusedSimpArgs false
set_option linter.unusedVariables false
namespace Go.Proofs.YtoaoofobidhfjaaGreatDoor
open Go.V Go.RowKit
theorem prE_ok {m : Mh} {l : List Seg} (h : prE m l = 0) : validM m l = true ∧ (Go.V.printP (dmM m) l).length ≤ 65536 ∧ prS m l = Go.V.printP (dmM m) l := by
  have h2 : prS m l = Go.V.printP (dmM m) l := by unfold prS; rw [if_pos h]
  unfold prE at h
  by_cases hv : validM m l = true
  · rw [if_pos hv] at h
    by_cases hl : 65536 < (Go.V.printP (dmM m) l).length
    · rw [if_pos hl] at h; cases h
    · exact ⟨hv, by omega, h2⟩
  · rw [if_neg hv] at h; cases h
theorem prE_val {m : Mh} {l : List Seg} (hv : validM m l = true) (h : prE m l ≠ 0) : prE m l = 2 ∧ 65536 < (Go.V.printP (dmM m) l).length := by
  unfold prE at h ⊢
  rw [if_pos hv] at h ⊢
  by_cases hl : 65536 < (Go.V.printP (dmM m) l).length
  · rw [if_pos hl]; exact ⟨rfl, hl⟩
  · rw [if_neg hl] at h; exact absurd rfl h
theorem print_back {m : Mh} {l : List Seg} (hd : Dg m) (h : prE m l = 0) : txE (prS m l) = 0 ∧ txD (prS m l) = dmM m ∧ txL (prS m l) = canM l := by
  obtain ⟨hv, hl, e⟩ := prE_ok h
  obtain ⟨p1, p2, p3⟩ := parse_print nmOk nm_msh (okM_of hd hv) hl
  have h0 : txE (prS m l) = 0 := by rw [e]; exact p1
  refine ⟨h0, ?_, ?_⟩
  · unfold txD; rw [if_pos h0, e, p2]; rfl
  · unfold txL; rw [if_pos h0, e, p3]
theorem dlB_mD (d : Dm) (x y : Sl) : dlB (mD d x) (mD d y) = true := by unfold dlB mD; simp
end Go.Proofs.YtoaoofobidhfjaaGreatDoor
