/- The program's number behind a sign, and the document's. -/
import Derived.Test.YtpkkbbdffhcpaaaDoorSE
set_option linter.unusedSimpArgs false
set_option linter.unusedVariables false
namespace Go.Proofs.YtpkkbbdffhcpaaaDoor
open Go.V Go.RowKit
theorem like_sq (s : Str) : (rstep s 91).2.2 = !(rnum [91] [93] s false).2.2 ∧ ((rstep s 91).2.2 = true → (rstep s 91).1 = (rnum [91] [93] s false).1 ∧ (rstep s 91).2.1 = (rnum [91] [93] s false).2.1) := by
  cases s with
  | nil => simp [rstep, rnum]
  | cons c x =>
    by_cases hc : c = 91
    · subst hc
      have hp : ([91] : Str).isPrefixOf (91 :: x) = true := by simp
      unfold rstep rnum
      rw [if_pos hp]
      simp only [List.length_cons, List.length_nil, List.drop_succ_cons, List.drop_zero, if_true, Bool.false_or]
      generalize numOf (x.takeWhile isDig) = nv
      generalize x.dropWhile isDig = y
      by_cases h1 : (nv.2 != 0 || (decide (nv.1 < 1) || decide (200 < nv.1))) = true
      · rw [if_pos h1]
        have : (nv.2 != 0 || (decide (nv.1 < 1) || (decide (200 < nv.1) || !(([93] : Str).isPrefixOf y)))) = true := by
          simp only [Bool.or_eq_true] at h1 ⊢
          rcases h1 with h | h | h
          · exact .inl h
          · exact .inr (.inl h)
          · exact .inr (.inr (.inl h))
        simp [this]
      · rw [if_neg h1]
        have h1 := Bool.eq_false_iff.2 h1
        simp only [Bool.or_eq_false_iff] at h1
        obtain ⟨e1, e2, e3⟩ := h1
        cases y with
        | nil => simp [e1, e2, e3]
        | cons d y =>
          by_cases hd : d = 93
          · subst hd; simp [e1, e2, e3]
          · have hd' : ¬ (93 : UInt8) = d := fun e => hd e.symm
            have hb : (d != 93) = true := by simpa using hd
            have hb2 : ((93 : UInt8) == d) = false := by simpa using hd'
            simp [e1, e2, e3, hb, hb2, hd, hd', List.isPrefixOf]
    · have hc' : ¬ (91 : UInt8) = c := fun e => hc e.symm
      simp [rstep, rnum, hc, hc']
theorem like_sg (g : UInt8) (hg : g ≠ 91) (s : Str) : (rstep s g).2.2 = !(rnum [g] [] s false).2.2 ∧ ((rstep s g).2.2 = true → (rstep s g).1 = (rnum [g] [] s false).1 ∧ (rstep s g).2.1 = (rnum [g] [] s false).2.1) := by
  cases s with
  | nil => simp [rstep, rnum]
  | cons c x =>
    by_cases hc : c = g
    · subst hc
      have hp : ([c] : Str).isPrefixOf (c :: x) = true := by simp
      unfold rstep rnum
      rw [if_pos hp]
      simp only [List.length_cons, List.length_nil, List.drop_succ_cons, List.drop_zero, if_true, Bool.false_or, if_neg hg]
      generalize numOf (x.takeWhile isDig) = nv
      generalize x.dropWhile isDig = y
      by_cases h1 : (nv.2 != 0 || (decide (nv.1 < 1) || decide (200 < nv.1))) = true
      · rw [if_pos h1]; simp only [Bool.or_eq_true] at h1; rcases h1 with h | h | h <;> simp [h]
      · rw [if_neg h1]
        have h1 := Bool.eq_false_iff.2 h1
        simp only [Bool.or_eq_false_iff] at h1
        obtain ⟨e1, e2, e3⟩ := h1
        simp [e1, e2, e3]
    · have hc' : ¬ g = c := fun e => hc e.symm
      simp [rstep, rnum, hc, hc']
theorem rnum_bad (op en s : Str) : (rnum op en s true).2.2 = true := by unfold rnum; split <;> simp
end Go.Proofs.YtpkkbbdffhcpaaaDoor
