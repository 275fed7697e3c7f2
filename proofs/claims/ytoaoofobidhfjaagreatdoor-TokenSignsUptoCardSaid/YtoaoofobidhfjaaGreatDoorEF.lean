/- What is printed is read as the canonical message. -/
import Derived.Test.YtoaoofobidhfjaaGreatDoorEE
set_option linter.unusedSimpArgs false
set_option linter.unusedVariables false
namespace Go.Proofs.YtoaoofobidhfjaaGreatDoor
open Go.V Go.RowKit
theorem prE_ok {m : Mh} {l : List Seg} (h : prE m l = 0) : validM m l = true ∧ (Go.V.printP (dmM m) l).length ≤ 65536 ∧ prS m l = Go.V.printP (dmM m) l := by
  have h2 : prS m l = Go.V.printP (dmM m) l := by unfold prS; rw [if_pos h]
  unfold prE at h
  by_cases hv : validM m l = true
  · rw [if_pos hv] at h
    by_cases hl : 65536 < (Go.V.printP (dmM m) l).length
    · rw [if_pos hl] at h; cases h
    · exact ⟨hv, by omega, h2⟩
  · rw [if_neg hv] at h; cases h
theorem prE_val {m : Mh} {l : List Seg} (hv : validM m l = true) (h : prE m l ≠ 0) : prE m l = 2 ∧ 65536 < (Go.V.printP (dmM m) l).length := by
  unfold prE at h ⊢
  rw [if_pos hv] at h ⊢
  by_cases hl : 65536 < (Go.V.printP (dmM m) l).length
  · rw [if_pos hl]; exact ⟨rfl, hl⟩
  · rw [if_neg hl] at h; exact absurd rfl h
theorem prE_of {m : Mh} {l : List Seg} (hv : validM m l = true) (hl : (Go.V.printP (dmM m) l).length ≤ 65536) : prE m l = 0 := by
  unfold prE; rw [if_pos hv, if_neg (by omega)]
theorem print_back {m : Mh} {l : List Seg} (hd : Dg m) (h : prE m l = 0) : txE (prS m l) = 0 ∧ txD (prS m l) = dmM m ∧ txL (prS m l) = canM l := by
  obtain ⟨hv, hl, e⟩ := prE_ok h
  obtain ⟨p1, p2, p3⟩ := parse_print nmOk nm_msh (okM_of hd hv) hl
  have h0 : txE (prS m l) = 0 := by rw [e]; exact p1
  refine ⟨h0, ?_, ?_⟩
  · unfold txD; rw [if_pos h0, e, p2]; rfl
  · unfold txL; rw [if_pos h0, e, p3]
theorem dlB_dm {m : Mh} (hd : Dg m) (x y : Sl) : dlB (mD (dmM m) x) { m with s := y } = true := by
  have h := mD_dm hd
  have e1 : (mD (dmM m) m.s).d1 = m.d1 := by rw [h]
  have e2 : (mD (dmM m) m.s).d2 = m.d2 := by rw [h]
  have e3 : (mD (dmM m) m.s).d3 = m.d3 := by rw [h]
  have e4 : (mD (dmM m) m.s).d4 = m.d4 := by rw [h]
  have e5 : (mD (dmM m) m.s).d5 = m.d5 := by rw [h]
  unfold dlB mD
  simp only [Bool.and_eq_true, beq_iff_eq]
  exact ⟨e1, e2, e3, e4, e5, trivial⟩
theorem dlB_mD (d : Dm) (x y : Sl) : dlB (mD d x) (mD d y) = true := by unfold dlB mD; simp
theorem tx_valid {t : Str} (h : txE t = 0) (x : Sl) : validM (mD (txD t) x) (txL t) = true := valid_of (Dg_mD _ _) (by rw [dm_mD]; exact (txE_ok h).1)
end Go.Proofs.YtoaoofobidhfjaaGreatDoor
