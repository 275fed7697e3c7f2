/- The law PathCounts. -/
import Derived.Test.YthpeengmcjpknaaGreatDoorPM2
set_option linter.unusedSimpArgs false
set_option linter.unusedVariables false
namespace Go.Proofs.YthpeengmcjpknaaGreatDoor
open Go.V Go.RowKit
theorem cnt_take_le (name : Str) (l : List Seg) (n : Nat) : cnt name (l.take n) ≤ cnt name l := List.Sublist.countP_le (List.take_sublist n l)
theorem occ_ex (name : Str) : ∀ (l : List Seg) (n : Nat), 1 ≤ n → n ≤ cnt name l → ∃ i g, l[i]? = some g ∧ g.name = name ∧ cnt name (l.take (i + 1)) = n
  | [], n, h1, h2 => by simp [cnt] at h2; omega
  | g :: l, n, h1, h2 => by
    by_cases hg : g.name = name
    · by_cases hn : n = 1
      · exact ⟨0, g, rfl, hg, by simp [cnt, hg, hn]⟩
      · obtain ⟨i, g2, e1, e2, e3⟩ := occ_ex name l (n - 1) (by omega) (by simp [cnt, hg] at h2 ⊢; omega)
        refine ⟨i + 1, g2, by simpa using e1, e2, ?_⟩
        simp only [List.take_succ_cons, cnt, List.countP_cons, hg, beq_self_eq_true, if_true] at e3 ⊢
        omega
    · obtain ⟨i, g2, e1, e2, e3⟩ := occ_ex name l n h1 (by simp [cnt, hg] at h2 ⊢; omega)
      refine ⟨i + 1, g2, by simpa using e1, e2, ?_⟩
      have : (g.name == name) = false := by simpa using hg
      simp only [List.take_succ_cons, cnt, List.countP_cons, this] at e3 ⊢
      simpa using e3
theorem atF_isSome (name : Str) (l : List Seg) {occ : Int} (h : 1 ≤ occ) : (atF name occ l).isSome = decide (occ ≤ (cnt name l : Nat)) := by
  rw [Bool.eq_iff_iff, decide_eq_true_eq]
  unfold atF
  rw [List.find?_isSome]
  constructor
  · rintro ⟨i, _, hi⟩
    obtain ⟨g, _, _, e⟩ := of_decide_eq_true hi
    have := cnt_take_le name l (i + 1)
    omega
  · intro hle
    obtain ⟨i, g, e1, e2, e3⟩ := occ_ex name l occ.toNat (by omega) (by omega)
    refine ⟨i, ?_, decide_eq_true ⟨g, e1, e2, by omega⟩⟩
    have := (List.getElem?_eq_some_iff.1 e1).1
    simpa using this
end Go.Proofs.YthpeengmcjpknaaGreatDoor
