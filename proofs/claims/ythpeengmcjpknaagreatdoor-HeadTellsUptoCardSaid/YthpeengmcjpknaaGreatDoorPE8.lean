/- delim.Of, and the lines of a text. -/
import Derived.Test.YthpeengmcjpknaaGreatDoorPE7
set_option linter.unusedSimpArgs false
set_option linter.unusedVariables false
namespace Go.Proofs.YthpeengmcjpknaaGreatDoor
open Go.V Go.RowKit
theorem nott {b : Bool} (h : (!b) = true) : b = false := by cases b with
  | false => rfl
  | true => cases h
theorem notf {b : Bool} (h : (!b) = false) : b = true := by cases b with
  | true => rfl
  | false => cases h
def zD : List Value := [.int .u8 0, .int .u8 0, .int .u8 0, .int .u8 0, .int .u8 0]
section
variable {w : World} {k : Value → World → Prop}
theorem of_spec (t : Str) (hl : t.length ≤ 65536)
    (hk1 : ∀ w' d, Fr Non w w' → ofP t = some d → k (.tuple (List.toArray [.agg (List.toArray (dvD d)), .int .i64 0])) w') (hk2 : ∀ w', Fr Non w w' → ofP t = none → k (.tuple (List.toArray [.agg (List.toArray zD), .int .i64 50])) w') :
    Cl Tryz.prog 148 [.string (mkS t)] w k := by
  refine f148_ok ?_
  unfold f148
  intro b2 w3 hb2 hw3
  have f3 : Fr Non w w3 := hw3 ▸ (Fr.refl Non w).alloc _
  have hZ3 : Blk w3 b2 23 zD := hb2 ▸ hw3 ▸ Blk.new w _ _
  have hbad : ∀ w', Fr Non w3 w' → ofP t = none → mayCells w' (⟨b2, 0, none⟩) 0 5 ∧ ∀ w7, w7 = setCells w' (⟨b2, 0, none⟩) 0 zD → ∃ (x8 : Int) (x9 : Int) (x10 : Int) (x11 : Int) (x12 : Int), cellsAt w7 (⟨b2, 0, none⟩) 0 [.int .u8 x8, .int .u8 x9, .int .u8 x10, .int .u8 x11, .int .u8 x12] ∧ k (.tuple (List.toArray [.agg (List.toArray [.int .u8 x8, .int .u8 x9, .int .u8 x10, .int .u8 x11, .int .u8 x12]), .int .i64 50])) w7 := by
    intro w' f' h
    have hZ := hZ3.fr f' (fun h => h)
    refine ⟨mayCells_of hZ 0 5 (by simp [zD]), ?_⟩
    rintro w7 rfl
    have h7 := hZ.setAll (vs := zD) rfl
    exact ⟨_, _, _, _, _, h7.ats zD 0 0 (fun q v hq => by simpa using hq), hk2 _ ((f3.trans' f').setAll hZ (vs := zD) rfl (fun h => absurd h (by omega))) h⟩
  have e3 : sub t (0 : Int) (3 : Int) = t.take 3 := sub_pre t msh
  refine ⟨fun v w' => v = !(decide (8 ≤ t.length) && (t.take 3 == msh)) ∧ w' = w3, ?_, fun h => ?_, fun h => ?_⟩
  · rintro v w6 ⟨hv, rfl⟩
    refine ⟨fun h => ?_, fun h => ?_⟩
    · refine hbad w6 (Fr.refl _ _) ?_
      rw [h] at hv
      have hv : (decide (8 ≤ t.length) && (t.take 3 == msh)) = false := nott hv.symm
      unfold ofP
      rw [hv]; rfl
    rw [h] at hv
    have hv : (decide (8 ≤ t.length) && (t.take 3 == msh)) = true := notf hv.symm
    have h8 : 8 ≤ t.length := by
      simp only [Bool.and_eq_true, decide_eq_true_eq] at hv; exact hv.1
    rintro w13 rfl
    refine ⟨⟨by omega, by omega⟩, ⟨by omega, by omega⟩, ⟨by omega, by omega⟩, ⟨by omega, by omega⟩, ⟨by omega, by omega⟩, ?_⟩
    intro b14 w15 hb14 hw15
    have g15 : Fr Non w6 w15 := hw15 ▸ (Fr.refl Non w6).drew.alloc _
    have hD15 : Blk w15 b14 23 zD := hb14 ▸ hw15 ▸ Blk.new w6.drew _ _
    refine ⟨mayCells_of hD15 0 5 (by simp [zD]), ?_⟩
    intro w16 hw16
    have hD16 : Blk w16 b14 23 (dvD (dmOf t)) := hw16 ▸ hD15.setAll (vs := dvD (dmOf t)) rfl
    have g16 : Fr Non w6 w16 := upN g15 (hw16 ▸ (Fr.refl (fun g => g = b14) w15).setAll hD15 (vs := dvD (dmOf t)) rfl (fun _ => rfl)) (fun g hg => by rw [hg, hb14]; exact Nat.le_refl _)
    have hof : ofP t = if (validD (dmOf t) && (decide (t.length ≤ 8) || (t.getD 8 0 == (dmOf t).f || (t.getD 8 0 == 13 || t.getD 8 0 == 10)))) = true then some (dmOf t) else none := by
      unfold ofP; rw [if_pos hv]
    refine ⟨fun v w' => v = !(validD (dmOf t) && (decide (t.length ≤ 8) || (t.getD 8 0 == (dmOf t).f || (t.getD 8 0 == 13 || t.getD 8 0 == 10)))) ∧ Fr Non w16 w', ?_, ?_⟩
    · rintro v2 w19 ⟨hv2, g19⟩
      have f19 := g16.trans' g19
      refine ⟨fun h => ?_, fun h => ?_⟩
      · refine hbad w19 f19 ?_
        rw [h] at hv2
        rw [hof, if_neg (by rw [nott hv2.symm]; simp)]
      · rw [h] at hv2
        have ho : ofP t = some (dmOf t) := by rw [hof, if_pos (notf hv2.symm)]
        have hZ := hZ3.fr f19 (fun h => h)
        refine ⟨_, _, _, _, _, (hD16.fr g19 (fun h => h)).ats (dvD (dmOf t)) 0 0 (fun q v hq => by simpa using hq), mayCells_of hZ 0 5 (by simp [zD]), ?_⟩
        rintro w41 rfl
        have h41 := hZ.setAll (vs := dvD (dmOf t)) rfl
        exact ⟨_, _, _, _, _, h41.ats (dvD (dmOf t)) 0 0 (fun q v hq => by simpa using hq), hk1 _ _ ((f3.trans' f19).setAll hZ (vs := dvD (dmOf t)) rfl (fun h => absurd h (by omega))) ho⟩
    · rintro w20 rfl
      have hD20 : Blk w16.drew b14 23 (dvD (dmOf t)) := hD16
      refine ⟨_, _, _, _, _, hD20.ats (dvD (dmOf t)) 0 0 (fun q v hq => by simpa using hq), dvalid_spec (mD (dmOf t) ⟨none, 0, 0⟩) fun w26 g26 => ⟨_, rfl, fun h => ?_, fun h => ?_⟩⟩
      · have f26 := ((Fr.refl Non w16).drew).trans' g26
        rw [dvB_eq] at h
        refine ⟨?_, f26⟩
        rw [show validD (dmOf t) = false by simpa using h]; rfl
      have f26 := ((Fr.refl Non w16).drew).trans' g26
      rw [dvB_eq] at h
      have hvd : validD (dmOf t) = true := by simpa using h
      rw [hvd, Bool.true_and]
      have c13 : (((t.getD 8 0).toNat : Int) != 13) = !(t.getD 8 0 == 13) := by
        have := u8_eqc (t.getD 8 0) 13
        unfold bne
        rw [show (13 : Int) = ((13 : UInt8).toNat : Int) from rfl, this]; rfl
      have c10 : (((t.getD 8 0).toNat : Int) != 10) = !(t.getD 8 0 == 10) := by
        have := u8_eqc (t.getD 8 0) 10
        unfold bne
        rw [show (10 : Int) = ((10 : UInt8).toNat : Int) from rfl, this]; rfl
      have cf : (((t.getD 8 0).toNat : Int) != ((dmOf t).f.toNat : Int)) = !(t.getD 8 0 == (dmOf t).f) := by
        have := u8_eqc (t.getD 8 0) (dmOf t).f
        unfold bne
        rw [this]; rfl
      refine ⟨fun h9 => ⟨⟨by omega, by have := of_decide_eq_true h9; omega⟩, _, (hD20.fr g26 (fun h => h)).cell rfl, fun ha => ⟨⟨by omega, by have := of_decide_eq_true h9; omega⟩, fun hb => ⟨⟨by omega, by have := of_decide_eq_true h9; omega⟩, ?_, f26⟩, fun hb => ⟨?_, f26⟩⟩, fun ha => ⟨?_, f26⟩⟩, fun h9 => ⟨?_, f26⟩⟩
      · have h9 : ¬ t.length ≤ 8 := by have := of_decide_eq_true h9; omega
        have ha : (t.getD 8 0 == (dmOf t).f) = false := by have ha := (congrArg (fun z => z) cf).symm.trans ha; simpa using ha
        have hb : (t.getD 8 0 == 13) = false := by have hb := (congrArg (fun z => z) c13).symm.trans hb; simpa using hb
        rw [decide_eq_false h9, ha, hb]
        show (((t.getD 8 0).toNat : Int) != 10) = _
        rw [c10]; rfl
      · have hb : (t.getD 8 0 == 13) = true := by have hb := (congrArg (fun z => z) c13).symm.trans hb; simpa using hb
        rw [hb]; simp
      · have ha : (t.getD 8 0 == (dmOf t).f) = true := by have ha := (congrArg (fun z => z) cf).symm.trans ha; simpa using ha
        rw [ha]; simp
      · have h9 : t.length ≤ 8 := by have := of_decide_eq_false h9; omega
        rw [decide_eq_true h9]; rfl
  · have h : ¬ 8 ≤ t.length := by have := of_decide_eq_true h; omega
    exact ⟨by rw [decide_eq_false h]; rfl, rfl⟩
  · have h : 8 ≤ t.length := by have := of_decide_eq_false h; omega
    rw [e3]
    exact ⟨⟨by omega, by omega, by omega⟩, by rw [decide_eq_true h]; rfl, rfl⟩
theorem lines_spec (t : Str) (hl : t.length ≤ 65536) (hk : ∀ (A : Nat) w', w.heap.size ≤ A → Blk w' A 9 ((linesP t).map fun x => .string (mkS x)) → Fr Non w w' → k (.slice (some ⟨A, 0, none⟩) (linesP t).length (linesP t).length) w') :
    Cl Tryz.prog 149 [.string (mkS t), .func (.func 150) #[] (List.toArray [])] w k := by
  have hsz : (mkS t).size = t.length := by simp [mkS, ByteArray.size]
  have hp : PredAtRunes Tryz.prog 150 #[] pEol w := by
    intro W x hx hb
    have key : Cl Tryz.prog 150 [.int .i32 (x : Int)] W (fun v w' => v = .bool (pEol x) ∧ w' = W) := by
      refine f150_ok ?_
      unfold f150
      refine ⟨fun h => ⟨?_, rfl⟩, fun h => ⟨?_, rfl⟩⟩
      · have h : x = 13 := by have := beq_iff_eq.1 h; omega
        unfold pEol; rw [decide_eq_true h]; rfl
      · have h : ¬ x = 13 := by intro e; subst e; simp at h
        unfold pEol; rw [decide_eq_false h, Bool.false_or]
        congr 1
        by_cases h2 : x = 10
        · subst h2; rfl
        · rw [decide_eq_false h2]; simp; omega
    refine Calls.mono key ?_
    rintro e w' ⟨v, rfl, rfl, rfl⟩
    exact ⟨rfl, 0, rfl⟩
  refine cl_of (Tryz.strings_FieldsFunc_runes 150 #[] (enters_of Tryz.func150 (by kernel_rfl) rfl) pEol (mkS t) w (by omega) hp) ?_
  rintro e w' ⟨A, rfl, hA, hown, hb⟩
  rw [fields_len, fields_vals] at *
  refine ⟨_, rfl, hk A w' hA ?_ ⟨hb.os, hb.tape, hb.output, hb.size, fun b hb' _ => hb.block b hb'⟩⟩
  rcases hown.2 with ⟨hv, _⟩ | ⟨g, cap, cur, hv, _, hg, hn, _, hc, ht⟩
  · cases hv
  · simp only [Value.slice.injEq, Option.some.injEq, Addr.mk.injEq] at hv
    obtain ⟨⟨rfl, _⟩, _, rfl⟩ := hv
    unfold Blk
    rw [hg]
    have hcl : cur.toList.length = (linesP t).length := by simpa using hc
    rw [Nat.mul_one, List.take_of_length_le (by omega)] at ht
    rw [← ht]
end
end Go.Proofs.YthpeengmcjpknaaGreatDoor
