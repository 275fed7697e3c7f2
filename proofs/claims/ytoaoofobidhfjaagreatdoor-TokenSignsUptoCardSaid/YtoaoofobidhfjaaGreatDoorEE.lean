/- How great what is read of a text can be. -/
import Derived.Test.YtoaoofobidhfjaaGreatDoorEC
set_option linter.unusedSimpArgs false
set_option linter.unusedVariables false
namespace Go.Proofs.YtoaoofobidhfjaaGreatDoor
open Go.V Go.RowKit
theorem split_sum (b : UInt8) : ∀ s : Str, ((splitP b s).map fun v => v.length + 1).sum = s.length + 1
  | [] => by simp [splitP]
  | a :: r => by
    have ih := split_sum b r
    unfold splitP
    split
    · simp only [List.map_cons, List.sum_cons, List.length_nil, List.length_cons, ih]; omega
    · cases h : splitP b r with
      | nil => exact absurd h (splitP_ne _ _)
      | cons x l =>
        rw [h] at ih
        simp only [List.map_cons, List.sum_cons, List.length_cons] at ih ⊢; omega
theorem sum_le {α : Type} {f g : α → Nat} (C : Nat) (h : ∀ a, f a ≤ C * g a) : ∀ l : List α, (l.map f).sum ≤ C * (l.map g).sum
  | [] => by simp
  | a :: l => by
    have h1 := h a
    have h2 := sum_le C h l
    simp only [List.map_cons, List.sum_cons, Nat.mul_add]; omega
theorem bk_cut {α : Type} {f : α → Nat} {g : Str → α} (C : Nat) (h : ∀ v, f (g v) ≤ C * (v.length + 1)) (b : UInt8) (s : Str) : bkL f (cutP b g s) ≤ (C + 1) * (s.length + 1) := by
  have h0 : 1 ≤ s.length + 1 := by omega
  have hmul : (C + 1) * (s.length + 1) = C * (s.length + 1) + (s.length + 1) := by rw [Nat.add_mul, Nat.one_mul]
  unfold cutP bkL
  split
  · simp; omega
  · have := sum_le (f := fun v => f (g v)) (g := fun v : Str => v.length + 1) C h (splitP b s)
    rw [split_sum] at this
    rw [List.map_map]
    show ((splitP b s).map fun v => f (g v)).sum + 1 ≤ _
    omega
theorem bk_rdC (d : Dm) (s : Str) : bkC (rdC d s) ≤ 2 * (s.length + 1) := bk_cut 1 (fun v => by have := readP_len d v.length v (Nat.le_refl _); unfold bkS; omega) d.s s
theorem bk_rdR (d : Dm) (s : Str) : bkR (rdR d s) ≤ 3 * (s.length + 1) := bk_cut 2 (bk_rdC d) d.c s
theorem bk_rdF (d : Dm) (s : Str) : bkF (rdF d s) ≤ 4 * (s.length + 1) := bk_cut 3 (bk_rdR d) d.r s
theorem sum_dropL {α : Type} (f : α → Nat) : ∀ (n : Nat) (l : List α), ((l.drop n).map f).sum ≤ (l.map f).sum := sum_drop f
theorem bk_seg (d : Dm) (j : Nat) (p : Str) : bkG (segAt d j p) ≤ 6 * (p.length + 1) + 60 := by
  obtain ⟨r, hr⟩ := nmOf_cons d p
  have hn : (nmOf d p).length ≤ p.length := split_mem d.f p _ (by rw [hr]; simp)
  have hsum : ∀ n, (((splitP d.f p).drop n).map fun v => bkF (rdF d v)).sum ≤ 4 * (p.length + 1) := fun n => by
    have h1 := sum_le (f := fun v => bkF (rdF d v)) (g := fun v : Str => v.length + 1) 4 (bk_rdF d) ((splitP d.f p).drop n)
    have h2 := sum_drop (fun v : Str => v.length + 1) n (splitP d.f p)
    rw [split_sum] at h2
    omega
  have ho : ∀ v : Str, bkF (one1' v) = v.length + 4 := fun v => by simp [one1', bkF, bkR, bkC, bkL, bkS]
  unfold segAt bkG bkS
  split
  · show (nmOf d p).length + 1 + bkL bkF (one1' [d.f] :: one1' [d.c, d.r, d.e, d.s] :: ((splitP d.f p).drop 2).map (rdF d)) + 1 ≤ _
    have h3 := hsum 2
    unfold bkL
    simp only [List.map_cons, List.sum_cons, List.map_map, ho, List.length_cons, List.length_nil]
    have e : ((((splitP d.f p).drop 2).map (bkF ∘ rdF d)).sum) = (((splitP d.f p).drop 2).map fun v => bkF (rdF d v)).sum := rfl
    omega
  · show (nmOf d p).length + 1 + bkL bkF (((splitP d.f p).drop 1).map (rdF d)) + 1 ≤ _
    have h3 := hsum 1
    unfold bkL
    simp only [List.map_map]
    have e : ((((splitP d.f p).drop 1).map (bkF ∘ rdF d)).sum) = (((splitP d.f p).drop 1).map fun v => bkF (rdF d v)).sum := rfl
    omega
theorem bk_sg (d : Dm) (ps : List Str) (B : Nat) (h : ∀ p ∈ ps, p.length ≤ B) : ∀ j, ((sgU d ps j).map bkG).sum ≤ j * (6 * (B + 1) + 60)
  | 0 => by simp [sgU]
  | j + 1 => by
    have ih := bk_sg d ps B h j
    show ((sgU d ps j ++ _).map bkG).sum ≤ _
    rw [List.map_append, List.sum_append, Nat.add_mul, Nat.one_mul]
    cases hp : ps[j]? with
    | none => simp; omega
    | some p =>
      have h1 := bk_seg d j p
      have h2 := h p (List.mem_of_getElem? hp)
      simp only [List.map_cons, List.map_nil, List.sum_cons, List.sum_nil]; omega
/-- The bulk of what is read. -/
theorem bk_txL (t : Str) : bkM (txL t) ≤ BB := by
  unfold txL
  by_cases h : txE t = 0
  · rw [if_pos h]
    have hl := parse_len h
    obtain ⟨d, ho, _, _⟩ := parse_okM nmOk h
    unfold parseL
    rw [ho]
    have hn := lines_len t
    have h1 := bk_sg d (linesP t) 65536 (fun p hp => by have := lines_sub t p hp; omega) (linesP t).length
    rw [sgU_all] at h1
    have h2 := bkM_can (segsP d (linesP t))
    have h3 : (linesP t).length * (6 * (65536 + 1) + 60) ≤ 65537 * (6 * (65536 + 1) + 60) := Nat.mul_le_mul_right _ (by omega)
    have h4 : bkM (segsP d (linesP t)) = ((segsP d (linesP t)).map bkG).sum + 1 := rfl
    have h5 : 65537 * (6 * (65536 + 1) + 60) + 1 ≤ BB := by decide
    exact Nat.le_trans h2 (by omega)
  · rw [if_neg h]; decide
end Go.Proofs.YtoaoofobidhfjaaGreatDoor
