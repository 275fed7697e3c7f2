/- The document's digits read as a number. -/
import Derived.Test.YtpkkbbdffhcpaaaDoorS3
set_option linter.unusedSimpArgs false
set_option linter.unusedVariables false
namespace Go.Proofs.YtpkkbbdffhcpaaaDoor
open Go.V Go.RowKit
section
variable {w : World} {k : Value → World → Prop}
theorem rnumber_spec (s : Str) (hs : s.length ≤ 1000000000000000) (hk : k (.tuple (List.toArray [.int .i64 (numOf s).1, .int .i64 (numOf s).2])) w) : Cl Tryd.prog 57 [.string (mkS s)] w k := by
  refine f57_ok ?_
  unfold f57
  have e : (((s.getD ((0 : Int)).toNat 0).toNat : Int) == 48) = decide (s.getD 0 0 = 48) := u8_eq _ 48 (by decide)
  refine ⟨fun v w' => w' = w ∧ v = decide (numBad s), ?_, fun h => ?_, fun h => ⟨fun h2 => ?_, fun h2 => ⟨⟨by omega, ?_⟩, fun h3 => ?_, fun h3 => ?_⟩⟩⟩
  case refine_2 =>
    have h := of_decide_eq_true h
    exact ⟨rfl, by have : s = [] := List.eq_nil_of_length_eq_zero (by omega)
                   simp [numBad, this]⟩
  case refine_3 =>
    have h2 := of_decide_eq_true h2
    exact ⟨rfl, by have : 10 < s.length := by omega
                   simp [numBad, this]⟩
  case refine_4 => have := of_decide_eq_false h; omega
  case refine_5 =>
    have h := of_decide_eq_false h
    have h2 := of_decide_eq_false h2
    rw [e] at h3
    have h3 := of_decide_eq_true h3
    have hn : ¬ s = [] := fun e => by simp [e] at h
    have h10 : ¬ 10 < s.length := by omega
    refine ⟨rfl, ?_⟩
    by_cases h1 : 1 < s.length
    · have h1' : (1 : Int) < (s.length : Int) := by omega
      rw [decide_eq_true h1', decide_eq_true (show numBad s from .inr (.inr ⟨h1, h3⟩))]
    · have h1' : ¬ (1 : Int) < (s.length : Int) := by omega
      rw [decide_eq_false h1', decide_eq_false (show ¬ numBad s from fun hb => by rcases hb with hb | hb | hb; · exact hn hb
                                                                                  · exact h10 hb
                                                                                  · exact h1 hb.1)]
  case refine_6 =>
    have h := of_decide_eq_false h
    have h2 := of_decide_eq_false h2
    rw [e] at h3
    have h3 := of_decide_eq_false h3
    have hn : ¬ s = [] := fun e => by simp [e] at h
    have h10 : ¬ 10 < s.length := by omega
    refine ⟨rfl, ?_⟩
    rw [decide_eq_false (show ¬ numBad s from fun hb => by rcases hb with hb | hb | hb; · exact hn hb
                                                           · exact h10 hb
                                                           · exact h3 hb.2)]
  rintro v w4 ⟨rfl, rfl⟩
  refine ⟨fun hv => ?_, fun hv => ?_⟩
  · have hv := of_decide_eq_true hv
    simp only [numOf, hv, if_true] at hk
    exact hk
  have hv := of_decide_eq_false hv
  have h10 : s.length ≤ 10 := by unfold numBad at hv; omega
  refine ⟨fun m v i w' => ∃ j : Nat, i = j ∧ j ≤ s.length ∧ m = s.length - j ∧ w' = w4 ∧ v = dval (s.take j) ∧ (s.take j).all isDig = true, ⟨s.length, 0, rfl, by omega, by omega, rfl, rfl, rfl⟩, ?_⟩
  rintro m v i w' ⟨j, rfl, hj, rfl, rfl, rfl, hd⟩
  obtain ⟨b1, b2⟩ := dval_bnd _ hd
  have hp0 : 10 ^ (s.take j).length ≤ 10 ^ 10 := Nat.pow_le_pow_right (by omega) (by simp; omega)
  have hp : (10 : Int) ^ (s.take j).length ≤ 10 ^ 10 := by have := Int.ofNat_le.2 hp0; rw [Int.natCast_pow] at this; exact this
  refine ⟨fun h => ?_, fun h => ?_⟩
  · have hjl : j < s.length := by have := of_decide_eq_true h; omega
    have e1 : s.getD ((j : Int)).toNat 0 = s[j] := by simp [hjl]
    rw [e1]
    refine ⟨fun v w'' => w'' = w' ∧ v = !isDig s[j], ?_, ⟨by omega, by omega⟩, fun h => ⟨rfl, ?_⟩, fun h => ⟨⟨by omega, by omega⟩, rfl, ?_⟩⟩
    · rintro v w'' ⟨rfl, rfl⟩
      refine ⟨fun hv2 => ?_, fun hv2 => ⟨⟨by omega, by omega⟩, ?_⟩⟩
      · have hv2 : isDig s[j] = false := by simpa using hv2
        have := all_take_false hjl hv2
        simp only [numOf, hv, if_false, this] at hk
        exact hk
      · have hv2 : isDig s[j] = true := by simpa using hv2
        have hc := hv2
        simp only [isDig, decide_eq_true_eq] at hc
        refine ⟨s.length - (j + 1), by omega, j + 1, by rw [w64_id (by omega) (by omega)]; push_cast; rfl, by omega, rfl, rfl, ?_, ?_⟩
        · rw [List.take_succ_eq_append_getElem hjl, dval_snoc, wu8_id (by omega) (by omega), w64_id (x := dval (s.take j) * 10) (by omega) (by omega), w64_id (x := (s[j].toNat : Int) - 48) (by omega) (by omega), w64_id (by omega) (by omega), Int.mul_comm]
        · rw [List.take_succ_eq_append_getElem hjl, List.all_append, hd]; simp [hv2]
    · have h := of_decide_eq_true h
      have : isDig s[j] = false := by simp only [isDig, decide_eq_false_iff_not]; omega
      simp [this]
    · have h := of_decide_eq_false h
      by_cases h57 : (57 : Int) < (s[j].toNat : Int)
      · have : isDig s[j] = false := by simp only [isDig, decide_eq_false_iff_not]; omega
        simp [this, h57]
      · have : isDig s[j] = true := by simp only [isDig, decide_eq_true_eq]; omega
        simp [this, h57]
  · obtain rfl : j = s.length := by have := of_decide_eq_false h; omega
    rw [List.take_length] at hd ⊢
    refine ⟨fun h => ?_, fun h => ?_⟩
    · have h := of_decide_eq_true h
      simp only [numOf, hv, if_false, hd, if_true, h] at hk; exact hk
    · have h := of_decide_eq_false h
      simp only [numOf, hv, if_false, hd, if_true, h] at hk; exact hk
end
end Go.Proofs.YtpkkbbdffhcpaaaDoor
