/- The document's step over a sign and its number. -/
import Derived.Test.YtpkkbbdffhcpaaaDoorS8
set_option linter.unusedSimpArgs false
set_option linter.unusedVariables false
namespace Go.Proofs.YtpkkbbdffhcpaaaDoor
open Go.V Go.RowKit
/-- What the document makes of a text at a sign. -/
def rstep (s : Str) (sign : UInt8) : Int × Str × Bool :=
  match s with
  | [] => (1, [], true)
  | c :: x => if c = sign then
      (if ((numOf (x.takeWhile isDig)).2 != 0 || (decide ((numOf (x.takeWhile isDig)).1 < 1) || decide (200 < (numOf (x.takeWhile isDig)).1))) = true then (0, [], false)
       else if sign = 91 then (if (x.dropWhile isDig).isEmpty || (x.dropWhile isDig).getD 0 0 != 93 then (0, [], false) else ((numOf (x.takeWhile isDig)).1, (x.dropWhile isDig).drop 1, true))
       else ((numOf (x.takeWhile isDig)).1, x.dropWhile isDig, true))
    else (1, c :: x, true)
section
variable {w : World} {k : Value → World → Prop}
theorem rstep_spec (s : Str) (sign : UInt8) (hs : s.length ≤ 1000000000000000)
    (hk : ∀ w', Fr Non w w' → k (.tuple (List.toArray [.int .i64 (rstep s sign).1, .string (mkS (rstep s sign).2.1), .bool (rstep s sign).2.2])) w') :
    Cl Tryd.prog 31 [.string (mkS s), .int .u8 (sign.toNat : Int)] w k := by
  refine f31_ok ?_
  unfold f31
  have hk0 := hk w (Fr.refl _ _)
  cases s with
  | nil =>
    refine ⟨fun v w' => v = true ∧ w' = w, ?_, fun _ => ⟨rfl, rfl⟩, fun h => by simp at h⟩
    rintro v w' ⟨rfl, rfl⟩
    exact ⟨fun _ => hk0, fun h => by simp at h⟩
  | cons c x =>
    have e0 : (c :: x).getD ((0 : Int)).toNat 0 = c := rfl
    simp only [e0]
    have hxl : x.length ≤ 1000000000000000 := by simp at hs; omega
    refine ⟨fun v w' => v = !decide (c = sign) ∧ w' = w, ?_, fun h => by simp at h, fun _ => ⟨⟨by omega, by simp⟩, by simp only [bne, u8_eqc], rfl⟩⟩
    rintro v w' ⟨rfl, rfl⟩
    refine ⟨fun h => ?_, fun h => ?_⟩
    · have h : ¬ c = sign := by simpa using h
      have e : rstep (c :: x) sign = (1, c :: x, true) := by simp [rstep, h]
      rw [e] at hk0; exact hk0
    have hc : c = sign := by simpa using h
    refine ⟨fun m i w1 => ∃ j : Nat, i = ((j + 1 : Nat) : Int) ∧ j ≤ x.length ∧ m = x.length - j ∧ w1 = w' ∧ (x.take j).all isDig = true, ⟨x.length, 0, rfl, by omega, by omega, rfl, rfl⟩, ?_⟩
    rintro m i w1 ⟨j, rfl, hj, rfl, rfl, hall⟩
    have hlen : (c :: x).length = x.length + 1 := rfl
    refine ⟨fun v w2 => w2 = w1 ∧ (v = true → ∃ hh : j < x.length, isDig x[j] = true) ∧ (v = false → ∀ hh : j < x.length, isDig x[j] = false), ?_, fun hlt => ?_, fun hge => ⟨rfl, by simp, fun _ hh => by have := of_decide_eq_false hge; omega⟩⟩
    case refine_2 =>
      have hjl : j < x.length := by have := of_decide_eq_true hlt; omega
      have e1 : (c :: x).getD (((j + 1 : Nat) : Int)).toNat 0 = x[j] := by simp [hjl]
      rw [e1]
      refine ⟨⟨by omega, by omega⟩, fun h1 => ⟨⟨by omega, by omega⟩, rfl, fun h2 => ⟨hjl, ?_⟩, fun h2 _ => ?_⟩, fun h1 => ⟨rfl, by simp, fun _ _ => ?_⟩⟩
      · rw [← dig_dec, h1, h2]; rfl
      · rw [← dig_dec, h1, h2]; rfl
      · rw [← dig_dec, h1]; rfl
    rintro v w2 ⟨rfl, hv1, hv2⟩
    refine ⟨fun hv => ?_, fun hv => ⟨⟨by omega, by omega, by omega⟩, ?_⟩⟩
    · obtain ⟨hh, hd⟩ := hv1 hv
      refine ⟨x.length - (j + 1), by omega, j + 1, by rw [w64_id (by omega) (by omega)]; push_cast; rfl, by omega, rfl, rfl, ?_⟩
      rw [List.take_succ_eq_append_getElem hh, List.all_append, hall]; simp [hd]
    obtain ⟨t1, t2⟩ := tw_split isDig x j hj hall (hv2 hv)
    have es : sub (c :: x) (1 : Int) ((j + 1 : Nat) : Int) = x.takeWhile isDig := by rw [t1]; simp [sub]
    rw [es]
    refine rnumber_spec _ (by rw [t1]; simp; omega) ⟨_, _, rfl, ?_⟩
    have hr : rstep (c :: x) sign = (if ((numOf (x.takeWhile isDig)).2 != 0 || (decide ((numOf (x.takeWhile isDig)).1 < 1) || decide (200 < (numOf (x.takeWhile isDig)).1))) = true then (0, [], false)
       else if sign = 91 then (if (x.dropWhile isDig).isEmpty || (x.dropWhile isDig).getD 0 0 != 93 then (0, [], false) else ((numOf (x.takeWhile isDig)).1, (x.dropWhile isDig).drop 1, true))
       else ((numOf (x.takeWhile isDig)).1, x.dropWhile isDig, true)) := by simp [rstep, hc]
    generalize hnv : numOf (x.takeWhile isDig) = nv at hr ⊢
    refine ⟨fun v w3 => v = (nv.2 != 0 || (decide (nv.1 < 1) || decide (200 < nv.1))) ∧ w3 = w2, ?_, fun h => ⟨by rw [h]; rfl, rfl⟩, fun h => ⟨fun h3 => ⟨by rw [h, h3]; rfl, rfl⟩, fun h3 => ⟨by rw [h, h3]; rfl, rfl⟩⟩⟩
    rintro v w3 ⟨rfl, rfl⟩
    refine ⟨fun hb => ?_, fun hb => ?_⟩
    · rw [if_pos hb] at hr; rw [hr] at hk0; exact hk0
    rw [if_neg (by rw [hb]; simp)] at hr
    have suf : ∀ q : Nat, q ≤ x.length → ∀ w', w' = w3.drew → ((0 : Int) ≤ ((q + 1 : Nat) : Int) ∧ ((q + 1 : Nat) : Int) ≤ ((c :: x).length : Int) ∧ ((c :: x).length : Int) ≤ ((c :: x).length : Int)) ∧ sub (c :: x) ((q + 1 : Nat) : Int) ((c :: x).length : Int) = x.drop q := by
      intro q hq w' _
      exact ⟨⟨by omega, by omega, by omega⟩, by rw [sub_suf]; rfl⟩
    have hkd := hk w3.drew ((Fr.refl Non w3).drew)
    refine ⟨fun i w4 => ∃ q : Nat, i = ((q + 1 : Nat) : Int) ∧ q ≤ x.length ∧ w4 = w3 ∧ rstep (c :: x) sign = (nv.1, x.drop q, true), ?_, fun h91 => ?_, fun h91 => ?_⟩
    · rintro i w4 ⟨q, rfl, hq, rfl, hrq⟩
      rintro w5 rfl
      obtain ⟨a1, a2⟩ := suf q hq _ rfl
      refine ⟨a1, ?_⟩
      rw [a2]
      rw [hrq] at hkd; exact hkd
    · have h91' : sign = 91 := by
        have e : ((sign.toNat : Int) == 91) = decide (sign = 91) := u8_eq sign 91 (by decide)
        rw [e] at h91; exact of_decide_eq_true h91
      rw [if_pos h91'] at hr
      refine ⟨fun v w4 => v = ((x.dropWhile isDig).isEmpty || (x.dropWhile isDig).getD 0 0 != 93) ∧ w4 = w3, ?_, fun he => ?_, fun he => ?_⟩
      · rintro v w4 ⟨rfl, rfl⟩
        refine ⟨fun hb2 => ?_, fun hb2 => ?_⟩
        · rw [if_pos hb2] at hr; rw [hr] at hk0; exact hk0
        · rw [if_neg (by rw [hb2]; simp)] at hr
          have hne : ¬ x.length ≤ j := by
            intro hle
            rw [t2, List.drop_of_length_le hle] at hb2; simp at hb2
          refine ⟨j + 1, by rw [w64_id (by omega) (by omega)]; push_cast; rfl, by omega, rfl, ?_⟩
          rw [hr, t2, List.drop_drop]
      · have he : x.length ≤ j := by simp at he; omega
        exact ⟨by rw [t2, List.drop_of_length_le he]; rfl, rfl⟩
      · have he : j < x.length := by simp at he; omega
        refine ⟨⟨by omega, by omega⟩, ?_, rfl⟩
        have e1 : (c :: x).getD (((j + 1 : Nat) : Int)).toNat 0 = x[j] := by simp [he]
        have e93 : ((x[j].toNat : Int) == 93) = decide (x[j] = 93) := u8_eq x[j] 93 (by decide)
        have e2 : x.dropWhile isDig = x[j] :: x.drop (j + 1) := by rw [t2, List.drop_eq_getElem_cons he]
        rw [e1, e2]
        simp only [bne, e93, List.isEmpty_cons, Bool.false_or, List.getD_cons_zero]
        rfl
    · have h91' : ¬ sign = 91 := by
        have e : ((sign.toNat : Int) == 91) = decide (sign = 91) := u8_eq sign 91 (by decide)
        rw [e] at h91; exact of_decide_eq_false h91
      rw [if_neg h91'] at hr
      exact ⟨j, rfl, hj, rfl, by rw [hr, t2]⟩
end
end Go.Proofs.YtpkkbbdffhcpaaaDoor
