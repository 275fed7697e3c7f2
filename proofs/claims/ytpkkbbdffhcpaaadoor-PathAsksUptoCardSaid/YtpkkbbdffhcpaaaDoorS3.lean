/- Digits read as a number. -/
import Derived.Test.YtpkkbbdffhcpaaaDoorS2
set_option linter.unusedSimpArgs false
set_option linter.unusedVariables false
namespace Go.Proofs.YtpkkbbdffhcpaaaDoor
open Go.V Go.RowKit
theorem wu8_id {x : Int} (h0 : 0 ≤ x) (h1 : x < 256) : IntKind.u8.wrap x = x := by
  simp [IntKind.wrap, IntKind.signed, IntKind.bits]
  omega
def isDig (c : UInt8) : Bool := decide (48 ≤ c.toNat ∧ c.toNat ≤ 57)
def dval (s : Str) : Int := s.foldl (fun v c => 10 * v + ((c.toNat : Int) - 48)) 0
theorem dval_snoc (s : Str) (c : UInt8) : dval (s ++ [c]) = 10 * dval s + ((c.toNat : Int) - 48) := by simp [dval]
theorem dval_bnd (s : Str) (hs : s.all isDig = true) : 0 ≤ dval s ∧ dval s + 1 ≤ 10 ^ s.length := by
  have key : ∀ (n : Nat) (s : Str), s.length = n → s.all isDig = true → 0 ≤ dval s ∧ dval s + 1 ≤ 10 ^ s.length := by
    intro n
    induction n with
    | zero => intro s h _; obtain rfl := List.eq_nil_of_length_eq_zero h; simp [dval]
    | succ n ih =>
      intro s h hd
      obtain ⟨t, c, rfl⟩ : ∃ t c, s = t ++ [c] := ⟨s.dropLast, s.getLast (by intro e; simp [e] at h), (List.dropLast_concat_getLast _).symm⟩
      simp only [List.all_append, List.all_cons, List.all_nil, Bool.and_true, Bool.and_eq_true] at hd
      obtain ⟨h1, h2⟩ := ih t (by simpa using h) hd.1
      have hc := hd.2
      simp only [isDig, decide_eq_true_eq] at hc
      rw [dval_snoc]
      simp only [List.length_append, List.length_cons, List.length_nil, Nat.zero_add, Int.pow_succ]
      omega
  exact key _ s rfl hs
def numBad (s : Str) : Prop := s = [] ∨ 10 < s.length ∨ (1 < s.length ∧ s.getD 0 0 = 48)
instance (s : Str) : Decidable (numBad s) := by unfold numBad; infer_instance
def numOf (s : Str) : Int × Int := if numBad s then (0, 11) else if s.all isDig = true then (if 2147483647 < dval s then (0, 11) else (dval s, 0)) else (0, 11)
theorem all_take_false {s : Str} {j : Nat} (hj : j < s.length) (h : isDig s[j] = false) : ¬ s.all isDig = true := fun ha => by
  have := List.all_eq_true.1 ha s[j] (List.getElem_mem hj)
  rw [h] at this; cases this
section
variable {w : World} {k : Value → World → Prop}
theorem number_spec (s : Str) (hs : s.length ≤ 1000000000000000) (hk : k (.tuple (List.toArray [.int .i64 (numOf s).1, .int .i64 (numOf s).2])) w) : Cl Tryd.prog 54 [.string (mkS s)] w k := by
  refine f54_ok ?_
  unfold f54
  refine ⟨fun v w' => w' = w ∧ v = decide (numBad s), ?_, fun h => ?_, fun h => ⟨fun h2 => ?_, fun h2 => ⟨fun h3 => ?_, fun h3 => ?_⟩⟩⟩
  case refine_2 => exact ⟨rfl, by have : s = [] := by simpa using h
                                  simp [numBad, this]⟩
  case refine_3 =>
    have h2 := of_decide_eq_true h2
    exact ⟨rfl, by have : 10 < s.length := by omega
                   simp [numBad, this]⟩
  case refine_4 =>
    have h : ¬ s = [] := by simpa using h
    have h2 := of_decide_eq_false h2
    have h3 := of_decide_eq_true h3
    have e : (((s.getD ((0 : Int)).toNat 0).toNat : Int) == 48) = decide (s.getD 0 0 = 48) := u8_eq _ 48 (by decide)
    refine ⟨⟨by omega, by omega⟩, rfl, ?_⟩
    rw [e, decide_eq_decide]
    have h10 : ¬ 10 < s.length := by omega
    have h1 : 1 < s.length := by omega
    simp only [numBad, h, h10, h1, false_or, true_and]
  case refine_5 =>
    have h : ¬ s = [] := by simpa using h
    have h2 := of_decide_eq_false h2
    have h3 := of_decide_eq_false h3
    refine ⟨rfl, ?_⟩
    have h10 : ¬ 10 < s.length := by omega
    have h1 : ¬ 1 < s.length := by omega
    simp [numBad, h, h10, h1]
  rintro v w4 ⟨rfl, rfl⟩
  refine ⟨fun hv => ?_, fun hv => ?_⟩
  · have hv := of_decide_eq_true hv
    simp only [numOf, hv, if_true] at hk
    exact hk
  have hv := of_decide_eq_false hv
  have h10 : s.length ≤ 10 := by unfold numBad at hv; omega
  refine ⟨fun m v i w' => ∃ j : Nat, i = j ∧ j ≤ s.length ∧ m = s.length - j ∧ w' = w4 ∧ v = dval (s.take j) ∧ (s.take j).all isDig = true, ⟨s.length, 0, rfl, by omega, by omega, rfl, rfl, rfl⟩, ?_⟩
  rintro m v i w' ⟨j, rfl, hj, rfl, rfl, rfl, hd⟩
  obtain ⟨b1, b2⟩ := dval_bnd _ hd
  have hp0 : 10 ^ (s.take j).length ≤ 10 ^ 10 := Nat.pow_le_pow_right (by omega) (by simp; omega)
  have hp : (10 : Int) ^ (s.take j).length ≤ 10 ^ 10 := by have := Int.ofNat_le.2 hp0; rw [Int.natCast_pow] at this; exact this
  refine ⟨fun h => ?_, fun h => ?_⟩
  · have hjl : j < s.length := by have := of_decide_eq_true h; omega
    have e1 : s.getD ((j : Int)).toNat 0 = s[j] := by simp [hjl]
    rw [e1]
    refine ⟨fun v w'' => w'' = w' ∧ v = !isDig s[j], ?_, ⟨by omega, by omega⟩, fun h => ⟨rfl, ?_⟩, fun h => ⟨⟨by omega, by omega⟩, rfl, ?_⟩⟩
    · rintro v w'' ⟨rfl, rfl⟩
      refine ⟨fun hv2 => ?_, fun hv2 => ⟨⟨by omega, by omega⟩, ?_⟩⟩
      · have hv2 : isDig s[j] = false := by simpa using hv2
        have := all_take_false hjl hv2
        simp only [numOf, hv, if_false, this] at hk
        exact hk
      · have hv2 : isDig s[j] = true := by simpa using hv2
        have hc := hv2
        simp only [isDig, decide_eq_true_eq] at hc
        refine ⟨s.length - (j + 1), by omega, j + 1, by rw [w64_id (by omega) (by omega)]; push_cast; rfl, by omega, rfl, rfl, ?_, ?_⟩
        · rw [List.take_succ_eq_append_getElem hjl, dval_snoc, wu8_id (by omega) (by omega), w64_id (x := 10 * _) (by omega) (by omega), w64_id (x := (s[j].toNat : Int) - 48) (by omega) (by omega), w64_id (by omega) (by omega)]
        · rw [List.take_succ_eq_append_getElem hjl, List.all_append, hd]; simp [hv2]
    · have h := of_decide_eq_true h
      have : isDig s[j] = false := by simp only [isDig, decide_eq_false_iff_not]; omega
      simp [this]
    · have h := of_decide_eq_false h
      by_cases h57 : (57 : Int) < (s[j].toNat : Int)
      · have : isDig s[j] = false := by simp only [isDig, decide_eq_false_iff_not]; omega
        simp [this, h57]
      · have : isDig s[j] = true := by simp only [isDig, decide_eq_true_eq]; omega
        simp [this, h57]
  · obtain rfl : j = s.length := by have := of_decide_eq_false h; omega
    rw [List.take_length] at hd ⊢
    refine ⟨fun h => ?_, fun h => ?_⟩
    · have h := of_decide_eq_true h
      simp only [numOf, hv, if_false, hd, if_true, h] at hk; exact hk
    · have h := of_decide_eq_false h
      simp only [numOf, hv, if_false, hd, if_true, h] at hk; exact hk
end
end Go.Proofs.YtpkkbbdffhcpaaaDoor
