/- Whether a message can be, in plain words. -/
import Derived.Test.YthpeengmcjpknaaGreatDoorPE1
set_option linter.unusedSimpArgs false
set_option linter.unusedVariables false
namespace Go.Proofs.YthpeengmcjpknaaGreatDoor
open Go.V Go.RowKit
theorem nmc_ok (b : UInt8) (h : nmc b = true) : mayU b = false ∧ eolP b = false := by
  revert h; revert b
  apply all_u8
  decide +kernel
theorem nmOk : NmOk isName := by
  intro s h
  unfold isName at h
  simp only [Bool.and_eq_true, decide_eq_true_eq, List.all_eq_true] at h
  exact ⟨h.1, fun b hb => nmc_ok b (h.2.2 b hb)⟩
theorem nm_msh : isName msh = true := by decide
theorem isB_iff (f : Fldt) (v : Str) : isB f v = true ↔ f = one1' v := by unfold isB one1'; simp
theorem okM_of {m : Mh} {l : List Seg} (hd : Dg m) (h : validM m l = true) : OkM isName (dmM m) l := by
  unfold validM at h
  simp only [Bool.and_eq_true, decide_eq_true_eq, List.all_eq_true, List.mem_range] at h
  obtain ⟨h1, h2, h3, h4, h5⟩ := h
  have hsg : OkD (dmM m) := by
    rw [← mD_dm hd, dvB_eq] at h1
    exact (validD_iff _).1 h1
  have hat : ∀ i (hi : i < l.length), isName l[i].name = true ∧ ((l[i].name == msh) = decide (i = 0)) ∧ fitsG l[i] = true := by
    intro i hi
    have := h4 i hi
    unfold okI at this
    rw [List.getElem?_eq_getElem hi] at this
    simp only [okAt, Bool.and_eq_true, beq_iff_eq] at this
    exact ⟨this.1, by simpa using this.2.1, this.2.2⟩
  cases l with
  | nil => simp at h2
  | cons g gs =>
    have h0 := hat 0 (by simp)
    unfold headB at h5
    simp only [Bool.and_eq_true, decide_eq_true_eq, isB_iff] at h5
    obtain ⟨p1, p2, p3⟩ := h5
    refine ⟨hsg, h3, ?_, g, gs, rfl, ?_, ?_, ?_⟩
    · intro x hx
      obtain ⟨i, hi, rfl⟩ := List.getElem_of_mem hx
      exact ⟨(hat i hi).1, (hat i hi).2.2⟩
    · have := h0.2.1
      simpa using this
    · cases hf : g.flds with
      | nil => rw [hf] at p1; simp at p1
      | cons a t =>
        cases t with
        | nil => rw [hf] at p1; simp at p1
        | cons b r =>
          rw [hf] at p2 p3
          simp only [List.getD_cons_zero, List.getD_cons_succ] at p2 p3
          exact ⟨r, by rw [p2, p3]; rfl⟩
    · intro x hx
      obtain ⟨i, hi, rfl⟩ := List.getElem_of_mem hx
      have := (hat (i + 1) (by simp; omega)).2.1
      simp only [List.getElem_cons_succ, Nat.add_eq_zero_iff, Nat.succ_ne_self, and_false, decide_false, beq_eq_false_iff_ne] at this
      simpa using this
theorem valid_of {m : Mh} {l : List Seg} (hd : Dg m) (h : OkM isName (dmM m) l) : validM m l = true := by
  obtain ⟨g, gs, rfl, hn, ⟨r, hf⟩, hx⟩ := h.hd
  unfold validM
  simp only [Bool.and_eq_true, decide_eq_true_eq, List.all_eq_true, List.mem_range]
  refine ⟨?_, by simp, h.len, ?_, ?_⟩
  · rw [← mD_dm hd, dvB_eq]; exact (validD_iff _).2 h.sg
  · intro i hi
    unfold okI
    rw [List.getElem?_eq_getElem hi]
    obtain ⟨n1, n2⟩ := h.nms _ (List.getElem_mem hi)
    simp only [okAt, n1, n2, Bool.true_and, Bool.and_true, beq_iff_eq]
    cases i with
    | zero => simp [hn]
    | succ i =>
      have := hx ((g :: gs)[i + 1]) (by simp only [List.getElem_cons_succ]; exact List.getElem_mem _)
      simp at this ⊢; exact this
  · unfold headB
    simp only [Bool.and_eq_true, decide_eq_true_eq, isB_iff]
    rw [hf]
    exact ⟨by simp, rfl, rfl⟩
end Go.Proofs.YthpeengmcjpknaaGreatDoor
