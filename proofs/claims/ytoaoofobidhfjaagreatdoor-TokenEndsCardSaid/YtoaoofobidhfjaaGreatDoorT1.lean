/- TokenEnds: whatever line ends stand between segments, the message is the same. -/
import Derived.Test.YtoaoofobidhfjaaGreatDoorEC
import Derived.Test.YtoaoofobidhfjaaGreatDoorFF
set_option linter.unusedSimpArgs false
set_option linter.unusedVariables false
namespace Go.Proofs.YtoaoofobidhfjaaGreatDoor
open Go.V Go.RowKit
def endsOf : Nat → Str
  | 0 => [13]
  | 1 => [10]
  | 2 => [13, 10]
  | _ => [13, 13, 10, 10]
theorem ends_ok (n : Nat) : endsOf n ≠ [] ∧ (∀ b ∈ endsOf n, eolP b = true) ∧ (endsOf n).length ≤ 4 := by
  unfold endsOf
  split <;> exact ⟨by decide, by decide, by decide⟩
theorem swapE_len (n : Nat) : ∀ t : Str, (swapE (endsOf n) t).length ≤ 4 * t.length
  | [] => by simp [swapE]
  | b :: t => by
    have h1 := (ends_ok n).2.2
    have h2 := swapE_len n t
    rw [swapE_cons, List.length_append, List.length_cons]
    split <;> simp <;> omega
theorem swapE_snoc (e t : Str) (b : UInt8) : swapE e (t ++ [b]) = swapE e t ++ (if eolP b = true then e else [b]) := by simp [swapE]
theorem how_ix (how : Int) : ∃ n : Nat, n ≤ 3 ∧ IntKind.i64.wrap (BitVec.ofInt 64 how &&& BitVec.ofInt 64 3).toNat = n := by
  have h : (BitVec.ofInt 64 how &&& BitVec.ofInt 64 3).toNat ≤ 3 := by
    rw [BitVec.toNat_and]
    exact Nat.le_trans Nat.and_le_right (by decide)
  exact ⟨_, h, w64_id (by omega) (by omega)⟩
theorem eol_int (b : UInt8) : (((b.toNat : Int) == 13) || ((b.toNat : Int) == 10)) = eolP b := by
  revert b
  apply all_u8
  decide +kernel
section
variable {w : World} {k : Value → World → Prop}
set_option maxHeartbeats 2000000 in
theorem ends_spec (t : Str) (how : Int) (hG : GMax w) (hk : ∀ w', Fr Non w w' → k (.bool true) w') : Cl Tryz.prog 6 [.string (mkS t), .int .i64 how] w k := by
  refine f6_ok ?_
  unfold f6
  refine ⟨fun h => alive8_spec hG fun w' f => ⟨_, rfl, hk w' f⟩, fun h => ?_⟩
  have hl : t.length ≤ 9000 := by have := of_decide_eq_false h; omega
  obtain ⟨n, hn, hix⟩ := how_ix how
  rw [hix]
  obtain ⟨q1, q2, q3⟩ := ends_ok n
  intro b6 w7 hb6 hw7
  have f7 : Fr Non w w7 := hw7 ▸ (Fr.refl Non w).alloc _
  have hE7 : Blk w7 b6 46 [.string (mkS []), .string (mkS []), .string (mkS []), .string (mkS [])] := hb6 ▸ hw7 ▸ Blk.new w _ _
  refine ⟨mayCells_of hE7 0 4 (by simp), ?_⟩
  intro w8 hw8
  have hE8 : Blk w8 b6 46 [.string (mkS [13]), .string (mkS [10]), .string (mkS [13, 10]), .string (mkS [13, 13, 10, 10])] := hw8 ▸ hE7.setAll rfl
  have f8 : Fr Non w w8 := upN f7 (hw8 ▸ (Fr.refl (fun g => g = b6) w7).setAll hE7 (vs := [.string (mkS [13]), .string (mkS [10]), .string (mkS [13, 10]), .string (mkS [13, 13, 10, 10])]) rfl (fun _ => rfl)) (fun g hg => by omega)
  refine ⟨fun m s i w' => ∃ j : Nat, i = j ∧ j ≤ t.length ∧ m = t.length - j ∧ s = swapE (endsOf n) (t.take j) ∧ w' = w8, ⟨t.length, 0, rfl, by omega, rfl, rfl, rfl⟩, ?_⟩
  rintro m s i w14 ⟨j, rfl, hj, rfl, rfl, rfl⟩
  have hsl := swapE_len n (t.take j)
  rw [List.length_take] at hsl
  refine ⟨fun h => ?_, fun h => ?_⟩
  · have hj : j < t.length := by have := of_decide_eq_true h; omega
    have hg : t.getD ((j : Int)).toNat 0 = t[j] := by rw [Int.toNat_natCast, List.getD_eq_getElem?_getD, List.getElem?_eq_getElem hj]; rfl
    rw [hg]
    have hT : swapE (endsOf n) (t.take (j + 1)) = swapE (endsOf n) (t.take j) ++ (if eolP t[j] = true then endsOf n else [t[j]]) := by rw [take_snoc hj, swapE_snoc]
    have ew : IntKind.i64.wrap ((j : Int) + 1) = ((j + 1 : Nat) : Int) := by rw [w64_id (by omega) (by omega)]; push_cast; rfl
    have es : sub t (j : Int) ((j + 1 : Nat) : Int) = [t[j]] := by
      unfold sub
      rw [Int.toNat_natCast, Int.toNat_natCast, show j + 1 - j = 1 by omega, List.drop_eq_getElem_cons hj]; rfl
    rw [ew, es]
    refine ⟨fun s w' => s = swapE (endsOf n) (t.take (j + 1)) ∧ w' = w14, ?_, fun b w' => b = eolP t[j] ∧ w' = w14, ?_, ⟨by omega, by omega⟩, fun h => ⟨?_, rfl⟩, fun h => ⟨⟨by omega, by omega⟩, ?_, rfl⟩⟩
    · rintro s w17 ⟨rfl, rfl⟩
      exact ⟨t.length - (j + 1), by omega, j + 1, rfl, by omega, rfl, rfl, rfl⟩
    · rintro b w20 ⟨hb, rfl⟩
      refine ⟨fun h => ?_, fun h => ?_⟩
      · rw [h] at hb
        rw [← hb, if_pos rfl] at hT
        refine ⟨⟨by omega, by omega⟩, endsOf n, ?_, by omega, hT.symm, rfl⟩
        rw [Int.toNat_natCast, add_mk, Nat.zero_add, Nat.mul_one]
        refine hE8.cell ?_
        have : n = 0 ∨ n = 1 ∨ n = 2 ∨ n = 3 := by omega
        rcases this with rfl | rfl | rfl | rfl <;> rfl
      · rw [h] at hb
        rw [← hb, if_neg (by simp)] at hT
        exact ⟨⟨by omega, by omega, by omega⟩, by simp only [List.length_cons, List.length_nil]; omega, hT.symm, rfl⟩
    · have := eol_int t[j]
      rw [h] at this; exact this
    · have := eol_int t[j]
      rw [h, Bool.false_or] at this; exact this
  · have hj : j = t.length := by have := of_decide_eq_false h; omega
    subst hj
    rw [List.take_length]
    rw [List.take_length] at hsl
    have hsl := swapE_len n t
    obtain ⟨pe1, pe2⟩ := parse_ends isName q1 q2 (t := t) (by omega) (by omega)
    have eE : txE (swapE (endsOf n) t) = txE t := pe1
    have eL : txL (swapE (endsOf n) t) = txL t := by unfold txL; rw [eE, pe2]
    have eD : txD (swapE (endsOf n) t) = txD t := by unfold txD; rw [eE, ofP_swap q1 q2]
    have hG8 := hG.fr f8 (fun h => h)
    refine parse_u t hG8 fun y w22 hy f22 => ⟨_, _, _, _, _, y, _, rfl, ?_⟩
    intro b31 w32 hb31 hw32
    obtain ⟨m1, n1⟩ := msgVar (mD (txD t) y) hb31 hw32
    refine ⟨m1, fun w33 hw33 => ?_⟩
    obtain ⟨hM, f33⟩ := n1 w33 hw33
    have hG33 := (hG8.fr f22 (fun h => h)).fr f33 (fun h => h)
    refine parse_u (swapE (endsOf n) t) hG33 fun y2 w34 hy2 f34 => ⟨_, _, _, _, _, y2, _, rfl, ?_⟩
    rw [eE, eD]
    rw [eL] at hy2
    intro b43 w44 hb43 hw44
    obtain ⟨m2, n2⟩ := msgVar (mD (txD t) y2) hb43 hw44
    refine ⟨m2, fun w45 hw45 => ?_⟩
    obtain ⟨hM2, f45⟩ := n2 w45 hw45
    have hG45 := (hG33.fr f34 (fun h => h)).fr f45 (fun h => h)
    refine alive8_spec hG45 fun w46 f46 => ⟨_, rfl, fun _ => ⟨fun _ => ?_, fun h => ?_⟩, fun h => by cases h⟩
    · have k46 : Fr Non w33 w46 := (f34.trans' f45).trans' f46
      have hy46 := (hy.fr (fun _ => EG.st) f33 (fun _ _ h => h)).fr (fun _ => EG.st) k46 (fun _ _ h => h)
      have hy2' := hy2.fr (fun _ => EG.st) (f45.trans' f46) (fun _ _ h => h)
      refine ⟨_, _, _, _, _, y, msgAts (hM.fr k46 (fun h => h)), _, _, _, _, _, y2, msgAts (hM2.fr f46 (fun h => h)), same_spec (mD (txD t) y) (mD (txD t) y2) (txL t) (txL t) (OwM.rd hy46) (OwM.rd hy2') (sm_txL t) fun w61 f61 => ⟨_, rfl, ?_⟩⟩
      have e : (dlB (mD (txD t) y) (mD (txD t) y2) && decide (txL t = txL t)) = true := by
        unfold dlB mD; simp
      rw [e]
      exact hk _ (((((f8.trans' f22).trans' f33).trans' k46)).trans' f61)
    · simp at h
end
end Go.Proofs.YtoaoofobidhfjaaGreatDoor
