/- Functions of the program that read messages by paths. -/
import Derived.Test.YtoaoofobidhfjaaGreatDoorUM1
set_option linter.unusedSimpArgs false
set_option linter.unusedVariables false
namespace Go.Proofs.YtoaoofobidhfjaaGreatDoor
open Go.V Go.RowKit
def nthD {α : Type} (l : List (List α)) (n : Int) : List α := if 1 ≤ n ∧ n ≤ l.length then l.getD (n - 1).toNat [] else []
theorem nthD_in {α : Type} {l : List (List α)} {n : Int} (h1 : 1 ≤ n) (h2 : n ≤ l.length) : ∃ h : (n - 1).toNat < l.length, nthD l n = l[(n - 1).toNat] := by
  have : (n - 1).toNat < l.length := by omega
  refine ⟨this, ?_⟩
  unfold nthD; rw [if_pos ⟨h1, h2⟩, List.getD_eq_getElem?_getD, List.getElem?_eq_getElem this]; rfl
theorem nthD_out {α : Type} {l : List (List α)} {n : Int} (h : ¬ (1 ≤ n ∧ n ≤ l.length)) : nthD l n = [] := by unfold nthD; rw [if_neg h]
def getP (l : List Seg) (p : Pa) : Str :=
  if validP p = true then (if p.fld = 0 then [] else match atF p.seg p.occ l with
    | some i => nthD (nthD (nthD (nthD ((l[i]?.map Seg.flds).getD []) p.fld) p.rep) p.cmp) p.sub
    | none => []) else []
theorem atF_lt {name : Str} {occ : Int} {l : List Seg} {i : Nat} (h : atF name occ l = some i) : i < l.length := by
  unfold atF at h
  have := List.mem_of_find?_eq_some h
  simpa using this
theorem atI_neg (o : Option Nat) : decide (atI o < 0) = o.isNone := by
  cases o with
  | none => rfl
  | some i => exact decide_eq_false (show ¬ ((i : Int) < 0) by omega)
section
variable {w : World} {k : Value → World → Prop}
theorem nthD_all {α : Type} {l : List (List α)} {n : Int} {P : List α → Prop} (h0 : P []) (h : ∀ x ∈ l, P x) : P (nthD l n) := by
  by_cases hh : 1 ≤ n ∧ n ≤ (l.length : Int)
  · obtain ⟨hi, he⟩ := nthD_in hh.1 hh.2
    rw [he]; exact h _ (List.getElem_mem hi)
  · rw [nthD_out hh]; exact h0
theorem SmF0 : SmF [] := ⟨Nat.zero_le _, fun r h => by cases h⟩
theorem SmR0 : SmR [] := ⟨Nat.zero_le _, fun r h => by cases h⟩
theorem SmC0 : SmC [] := ⟨Nat.zero_le _, fun r h => by cases h⟩
end
end Go.Proofs.YtoaoofobidhfjaaGreatDoor
