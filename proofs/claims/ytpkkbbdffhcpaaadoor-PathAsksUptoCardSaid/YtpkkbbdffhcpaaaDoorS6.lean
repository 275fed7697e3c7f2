/- Names of segments. -/
import Derived.Test.YtpkkbbdffhcpaaaDoorS5
set_option linter.unusedSimpArgs false
set_option linter.unusedVariables false
namespace Go.Proofs.YtpkkbbdffhcpaaaDoor
open Go.V Go.RowKit
def great (c : UInt8) : Bool := decide (65 ≤ c.toNat ∧ c.toNat ≤ 90)
def nmSet : Str := [65, 66, 67, 68, 69, 70, 71, 72, 73, 74, 75, 76, 77, 78, 79, 80, 81, 82, 83, 84, 85, 86, 87, 88, 89, 90, 48, 49, 50, 51, 52, 53, 54, 55, 56, 57]
def nmc (c : UInt8) : Bool := great c || isDig c
theorem nm_fin : ∀ n : Fin 256, nmSet.contains (UInt8.ofNat n.val) = nmc (UInt8.ofNat n.val) := by decide +kernel
theorem nm_contains (c : UInt8) : nmSet.contains c = nmc c := by
  have := nm_fin ⟨c.toNat, c.toNat_lt⟩
  simpa using this
def isName (s : Str) : Bool := decide (s.length = 3) && (great (s.getD 0 0) && s.all nmc)
theorem tw_all (p : UInt8 → Bool) : ∀ (s : Str), ∀ c ∈ s.takeWhile p, p c = true
  | [], c, h => by simp at h
  | d :: s, c, h => by
    rw [List.takeWhile_cons] at h
    split at h
    · rename_i hd
      rcases List.mem_cons.1 h with rfl | h
      · exact hd
      · exact tw_all p s c h
    · simp at h
theorem dw_nil (p : UInt8 → Bool) : ∀ (s : Str), (∀ c ∈ s, p c = true) → s.dropWhile p = []
  | [], _ => rfl
  | d :: s, h => by rw [List.dropWhile_cons, if_pos (h d (by simp))]; exact dw_nil p s (fun c hc => h c (by simp [hc]))
theorem trim_all (p : UInt8 → Bool) (s : Str) : ((trimR p s).dropWhile p == []) = s.all p := by
  rw [Bool.eq_iff_iff, beq_iff_eq]
  constructor
  · intro h
    have h1 : (trimR p s).all p = true := by
      rw [List.all_eq_true]
      intro c hc
      have := List.takeWhile_append_dropWhile (p := p) (l := trimR p s)
      rw [h, List.append_nil] at this
      rw [← this] at hc
      exact tw_all p _ c hc
    have h2 : trimR p s = [] := by
      by_cases he : trimR p s = []
      · exact he
      · exfalso
        have hne : s.reverse.dropWhile p ≠ [] := fun e => he (by simp [trimR, e])
        have hh := List.head_dropWhile_not p hne
        have hm : (s.reverse.dropWhile p).head hne ∈ trimR p s := by unfold trimR; rw [List.mem_reverse]; exact List.head_mem hne
        have := List.all_eq_true.1 h1 _ hm
        rw [this] at hh; cases hh
    have h3 : s.reverse.dropWhile p = [] := by simpa [trimR] using h2
    rw [List.all_eq_true]
    intro c hc
    have := List.takeWhile_append_dropWhile (p := p) (l := s.reverse)
    rw [h3, List.append_nil] at this
    have hc' : c ∈ s.reverse.takeWhile p := by rw [this]; simpa using hc
    exact tw_all p _ c hc'
  · intro h
    have h3 : s.reverse.dropWhile p = [] := by
      refine dw_nil p _ fun c hc => ?_
      exact List.all_eq_true.1 h c (by simpa using hc)
    simp [trimR, h3]
section
variable {w : World} {k : Value → World → Prop}
theorem isName_spec (s : Str) (hs : s.length ≤ 1000000000000000) (hk : ∀ w', Fr Non w w' → k (.bool (isName s)) w') : Cl Tryd.prog 29 [.string (mkS s)] w k := by
  refine f29_ok ?_
  unfold f29
  refine ⟨fun v w' => w' = w ∧ v = !(decide (s.length = 3) && great (s.getD 0 0)), ?_, fun h => ⟨rfl, ?_⟩, fun h => ⟨⟨by omega, ?_⟩, fun h2 => ⟨rfl, ?_⟩, fun h2 => ⟨⟨by omega, ?_⟩, rfl, ?_⟩⟩⟩
  case refine_2 =>
    have h : ¬ s.length = 3 := fun e => by simp [e] at h
    simp [h]
  case refine_3 =>
    have h : s.length = 3 := by simp at h; omega
    omega
  case refine_4 =>
    have h2 := of_decide_eq_true h2
    have : great (s.getD 0 0) = false := by
      rw [show s.getD ((0 : Int)).toNat 0 = s.getD 0 0 from rfl] at h2
      simp only [great, decide_eq_false_iff_not]
      omega
    rw [this]; simp
  case refine_5 =>
    have h : s.length = 3 := by simp at h; omega
    omega
  case refine_6 =>
    have h : s.length = 3 := by simp at h; omega
    have h2 := of_decide_eq_false h2
    have e0 : s.getD ((0 : Int)).toNat 0 = s.getD 0 0 := rfl
    rw [e0] at h2 ⊢
    by_cases h3 : (90 : Int) < ((s.getD 0 0).toNat : Int)
    · have : great (s.getD 0 0) = false := by simp only [great, decide_eq_false_iff_not]; omega
      rw [this, decide_eq_true h3]; simp
    · have : great (s.getD 0 0) = true := by simp only [great, decide_eq_true_eq]; omega
      rw [this, decide_eq_false h3, decide_eq_true h]; rfl
  rintro v w4 ⟨rfl, rfl⟩
  refine ⟨fun h => ?_, fun h => ?_⟩
  · have h : (decide (s.length = 3) && great (s.getD 0 0)) = false := (Bool.not_eq_true' _).mp h
    have e : isName s = false := by unfold isName; rw [← Bool.and_assoc, h]; rfl
    have := hk w4 (Fr.refl _ _)
    rw [e] at this; exact this
  · have h : (decide (s.length = 3) && great (s.getD 0 0)) = true := (Bool.not_eq_false' _).mp h
    have e : isName s = s.all nmc := by unfold isName; rw [← Bool.and_assoc, h]; rfl
    refine trim_spec s nmSet hs (by decide) (by decide) (by decide) fun w1 f1 => ⟨_, rfl, ?_⟩
    have hf : nmSet.contains = nmc := funext nm_contains
    rw [trim_all, hf, ← e]
    exact hk _ f1
theorem rname_spec (s : Str) (hs : s.length ≤ 1000000000000000) (hk : k (.bool (isName s)) w) : Cl Tryd.prog 30 [.string (mkS s)] w k := by
  refine f30_ok ?_
  unfold f30
  refine ⟨fun h => ?_, fun h => ?_⟩
  · have h : ¬ s.length = 3 := fun e => by simp [e] at h
    have e : isName s = false := by simp [isName, h]
    rw [e] at hk; exact hk
  have h : s.length = 3 := by simp at h; omega
  let ok : Nat → Bool := fun q => great (s.getD q 0) || (!(decide (q = 0)) && isDig (s.getD q 0))
  have hname : isName s = (ok 0 && (ok 1 && ok 2)) := by
    obtain ⟨a, b, c, rfl⟩ : ∃ a b c, s = [a, b, c] := by
      match s, h with
      | [a, b, c], _ => exact ⟨a, b, c, rfl⟩
    simp only [isName, ok, nmc, List.length_cons, List.length_nil, List.all_cons, List.all_nil, List.getD_cons_zero, List.getD_cons_succ]
    cases great a <;> cases great b <;> cases great c <;> cases isDig a <;> cases isDig b <;> cases isDig c <;> rfl
  refine ⟨fun m i w' => ∃ j : Nat, i = j ∧ j ≤ 3 ∧ m = 3 - j ∧ w' = w ∧ ∀ q, q < j → ok q = true, ⟨3, 0, rfl, by omega, by omega, rfl, fun q hq => by omega⟩, ?_⟩
  rintro m i w6 ⟨j, rfl, hj, rfl, rfl, hall⟩
  refine ⟨fun hlt => ?_, fun hge => ?_⟩
  · have hjl : j < 3 := by have := of_decide_eq_true hlt; omega
    have e0 : s.getD ((j : Int)).toNat 0 = s.getD j 0 := rfl
    simp only [e0]
    refine ⟨fun v w' => w' = w6 ∧ v = great (s.getD j 0), ?_, ⟨by omega, by omega⟩, fun h => ⟨⟨by omega, by omega⟩, rfl, ?_⟩, fun h => ⟨rfl, ?_⟩⟩
    case refine_2 => have h := of_decide_eq_true h
                     simp only [great, decide_eq_decide]; omega
    case refine_3 => have h := of_decide_eq_false h
                     symm; simp only [great, decide_eq_false_iff_not]; omega
    rintro gr w9 ⟨rfl, rfl⟩
    refine ⟨fun v w' => w' = w9 ∧ v = isDig (s.getD j 0), ?_, ⟨by omega, by omega⟩, fun h => ⟨⟨by omega, by omega⟩, rfl, ?_⟩, fun h => ⟨rfl, ?_⟩⟩
    case refine_2 => have h := of_decide_eq_true h
                     simp only [isDig, decide_eq_decide]; omega
    case refine_3 => have h := of_decide_eq_false h
                     symm; simp only [isDig, decide_eq_false_iff_not]; omega
    rintro dg w12 ⟨rfl, rfl⟩
    refine ⟨fun v w' => w' = w12 ∧ v = !ok j, ?_, fun h => ⟨fun h2 => ⟨rfl, ?_⟩, fun h2 => ⟨rfl, ?_⟩⟩, fun h => ⟨rfl, ?_⟩⟩
    · rintro v w15 ⟨rfl, rfl⟩
      refine ⟨fun hb => ?_, fun hb => ?_⟩
      · have hb : ok j = false := by simpa using hb
        have e : isName s = false := by
          rw [hname]
          have : j = 0 ∨ j = 1 ∨ j = 2 := by omega
          rcases this with rfl | rfl | rfl <;> simp [hb]
        rw [e] at hk; exact hk
      · have hb : ok j = true := by simpa using hb
        refine ⟨3 - (j + 1), by omega, j + 1, by rw [w64_id (by omega) (by omega)]; push_cast; rfl, by omega, rfl, rfl, fun q hq => ?_⟩
        by_cases hqj : q = j
        · rw [hqj]; exact hb
        · exact hall q (by omega)
    · have h : great (s.getD j 0) = false := by simpa using h
      have h2 : j = 0 := by simpa using h2
      subst h2
      simp only [ok, h]; rfl
    · have h : great (s.getD j 0) = false := by simpa using h
      have h2 : ¬ j = 0 := by simpa using h2
      simp only [ok, h, h2]; simp
    · have h : great (s.getD j 0) = true := by simpa using h
      simp only [ok, h]; rfl
  · obtain rfl : j = 3 := by have := of_decide_eq_false hge; omega
    have e : isName s = true := by rw [hname, hall 0 (by omega), hall 1 (by omega), hall 2 (by omega)]; rfl
    rw [e] at hk; exact hk
end
end Go.Proofs.YtpkkbbdffhcpaaaDoor
