/- Parts of texts, in Go's library. -/
import Derived.Test.YtpkkbbdffhcpaaaDoorFA
import Derived.Test.YtpkkbbdffhcpaaaDoorFB
import Derived.Test.YtpkkbbdffhcpaaaDoorV4
set_option linter.unusedSimpArgs false
set_option linter.unusedVariables false
namespace Go.Proofs.YtpkkbbdffhcpaaaDoor
open Go.V Go.RowKit
theorem upN {w w1 w2 : World} {F : Nat → Prop} (h : Fr Non w w1) (k : Fr F w1 w2) (hF : ∀ g, F g → w.heap.size ≤ g) : Fr Non w w2 := h.trans k fun b hb hf => by have := hF b hf; omega
theorem u8_eq (c : UInt8) (n : Nat) (hn : n < 256) : ((c.toNat : Int) == (n : Int)) = decide (c = UInt8.ofNat n) := by
  rw [Bool.eq_iff_iff]
  simp only [beq_iff_eq, decide_eq_true_eq]
  constructor
  · intro h
    have : c.toNat = n := by omega
    rw [← this]; simp
  · rintro rfl
    simp [Nat.mod_eq_of_lt hn]
theorem u8_eqc (c d : UInt8) : ((c.toNat : Int) == (d.toNat : Int)) = decide (c = d) := by
  rw [Bool.eq_iff_iff]
  simp only [beq_iff_eq, decide_eq_true_eq]
  exact ⟨fun h => UInt8.toNat_inj.1 (by omega), fun h => by rw [h]⟩
theorem sub_pre (s p : Str) : sub s 0 (p.length : Int) = s.take p.length := by simp [sub]
theorem sub_suf (s : Str) (j : Nat) : sub s (j : Int) (s.length : Int) = s.drop j := by
  unfold sub
  simp only [Int.toNat_natCast]
  exact List.take_of_length_le (by simp)
theorem pre_eq (s p : Str) : (s.take p.length == p) = p.isPrefixOf s := by
  rw [Bool.eq_iff_iff, beq_iff_eq, List.isPrefixOf_iff_prefix, List.prefix_iff_eq_take]
  exact ⟨fun h => h.symm, fun h => h.symm⟩
def headIs (c : UInt8) : Str → Bool
  | [] => false
  | d :: _ => decide (d = c)
section
variable {w : World} {k : Value → World → Prop}
theorem hasPrefix_spec (s p : Str) (hk : k (.bool (p.isPrefixOf s)) w) : Cl Tryd.prog 55 [.string (mkS s), .string (mkS p)] w k := by
  refine f55_ok ?_
  unfold f55
  refine ⟨fun h => ⟨⟨by omega, by omega, by have := of_decide_eq_true h; omega⟩, ?_⟩, fun h => ?_⟩
  · rw [sub_pre, pre_eq]; exact hk
  · have h := of_decide_eq_false h
    have : p.isPrefixOf s = false := by
      rw [Bool.eq_false_iff]
      intro hp
      have := (List.isPrefixOf_iff_prefix.1 hp).length_le
      omega
    rw [this] at hk; exact hk
theorem strHasPrefix_spec (s p : Str) (hk : k (.bool (p.isPrefixOf s)) w) : Cl Tryd.prog 28 [.string (mkS s), .string (mkS p)] w k := by
  refine f28_ok ?_
  unfold f28
  exact hasPrefix_spec s p ⟨_, rfl, hk⟩
theorem cutPrefix_spec (s p : Str) (hk : k (.tuple (List.toArray [.string (mkS (if p.isPrefixOf s then s.drop p.length else s)), .bool (p.isPrefixOf s)])) w) : Cl Tryd.prog 53 [.string (mkS s), .string (mkS p)] w k := by
  refine f53_ok ?_
  unfold f53
  refine f83_ok ?_
  unfold f83
  refine hasPrefix_spec s p ⟨_, rfl, fun h => ?_, fun h => ?_⟩
  · have h : p.isPrefixOf s = false := by simpa using h
    rw [h] at hk
    exact ⟨s, false, rfl, hk⟩
  · have h : p.isPrefixOf s = true := by simpa using h
    rw [h] at hk
    have := (List.isPrefixOf_iff_prefix.1 h).length_le
    refine ⟨⟨by omega, by omega, by omega⟩, ?_⟩
    rw [sub_suf]
    exact ⟨_, true, rfl, hk⟩
/-- The bytes at the front that are c are taken off. -/
theorem trimLeftByte_spec (s : Str) (c : UInt8) (hk : k (.string (mkS (s.dropWhile (· == c)))) w) : Cl Tryd.prog 84 [.string (mkS s), .int .u8 (c.toNat : Int)] w k := by
  refine f84_ok ?_
  unfold f84
  refine ⟨fun m t w' => m = t.length ∧ w' = w ∧ t.dropWhile (· == c) = s.dropWhile (· == c), ⟨s.length, rfl, rfl, rfl⟩, ?_⟩
  rintro m t w' ⟨rfl, rfl, ht⟩
  refine ⟨fun v w'' => w'' = w' ∧ v = headIs c t, ?_, fun h => ?_, fun h => ⟨rfl, ?_⟩⟩
  · rintro v w'' ⟨rfl, rfl⟩
    cases t with
    | nil => exact ⟨fun h => by simp [headIs] at h, fun _ => by rw [← ht] at hk; exact hk⟩
    | cons d t =>
      refine ⟨fun h => ?_, fun h => ?_⟩
      · have h : d = c := by simpa [headIs] using h
        refine ⟨⟨by omega, by simp; omega, by omega⟩, t.length, by simp, ?_⟩
        rw [show (1 : Int) = ((1 : Nat) : Int) from rfl, sub_suf]
        exact ⟨rfl, rfl, by rw [← ht]; simp [h]⟩
      · have h : ¬ d = c := by simpa [headIs] using h
        have e : (d :: t).dropWhile (· == c) = d :: t := by simp [h]
        rw [← ht, e] at hk; exact hk
  · have h := of_decide_eq_true h
    cases t with
    | nil => simp at h
    | cons d t =>
      refine ⟨⟨by omega, h⟩, rfl, ?_⟩
      rw [show (d :: t).getD ((0 : Int)).toNat 0 = d from rfl, u8_eqc]; rfl
  · have h := of_decide_eq_false h
    cases t with
    | nil => rfl
    | cons d t => exact absurd h (by simp)
end
end Go.Proofs.YtpkkbbdffhcpaaaDoor
