/- Path: texts of paths, walked. -/
import Derived.Test.YtoaoofobidhfjaaGreatDoorUSQ
import Derived.Test.YtoaoofobidhfjaaGreatDoorUSS
import Derived.Test.YtoaoofobidhfjaaGreatDoorUFJ
import Derived.Test.YtoaoofobidhfjaaGreatDoorUM1
set_option linter.unusedSimpArgs false
set_option linter.unusedVariables false
namespace Go.Proofs.YtoaoofobidhfjaaGreatDoor
open Go.V Go.RowKit
section
variable {w : World} {k : Value → World → Prop}
theorem in_spec (n : Int) (hk : k (.bool (inR n)) w) : Cl Tryz.prog 146 [.int .i64 n] w k := by
  refine f146_ok ?_
  unfold f146
  unfold inR at hk
  refine ⟨fun h => ?_, fun h => ?_⟩
  · rw [h] at hk; exact hk
  · rw [h] at hk; exact hk
theorem valid_spec (p : Pa) (hs : p.seg.length ≤ 1000000000000000) (hk : ∀ w', Fr Non w w' → k (.bool (validP p)) w') : Cl Tryz.prog 98 [.agg (List.toArray (pc p))] w k := by
  refine f98_ok ?_
  unfold f98
  rintro b7 w8 rfl hw8
  have f8 : Fr Non w w8 := hw8 ▸ (Fr.refl Non w).alloc _
  have hB : Blk w8 w.heap.size 59 (pc p) := hw8 ▸ Blk.new w (pc p) 59
  refine ⟨fun v w' => v = !(isName p.seg && inR p.occ) ∧ Fr Non w8 w', ?_, p.seg, hB.cell rfl, ?_⟩
  · rintro v w1 ⟨rfl, f1⟩
    have g1 := upN f8 f1 (fun g hg => hg.elim)
    have hB1 := hB.fr f1 (fun h => h)
    refine ⟨fun h => ?_, fun h => ?_⟩
    · have h := (Bool.not_eq_true' _).mp h
      have e : validP p = false := by unfold validP; rw [h]; rfl
      have := hk w1 g1
      rw [e] at this; exact this
    have h := (Bool.not_eq_false' _).mp h
    have ev : validP p = (plain p || (inR p.fld && (inR p.rep && (inR p.cmp && inR p.sub)))) := by unfold validP; rw [h]; rfl
    have hk1 := hk w1 g1
    rw [ev] at hk1
    refine ⟨p.seg, p.occ, p.fld, p.rep, p.cmp, p.sub, hB1.ats (pc p) 0 0 (fun q v hq => by simpa using hq), p.seg, hB1.cell rfl, p.occ, by rw [add_mk]; exact hB1.cell rfl, fun hp => ?_, fun hp => ?_⟩
    · have hp : plain p = true := by simpa [plain] using hp
      rw [hp] at hk1; exact hk1
    · have hp : plain p = false := by
        cases hq : plain p
        · rfl
        · exfalso; unfold plain at hq; rw [hq] at hp; simp at hp
      rw [hp, Bool.false_or] at hk1
      refine ⟨p.fld, by rw [add_mk]; exact hB1.cell rfl, in_spec _ ⟨_, rfl, fun h1 => ?_, fun h1 => by rw [h1] at hk1; exact hk1⟩⟩
      rw [h1, Bool.true_and] at hk1
      refine ⟨p.rep, by rw [add_mk]; exact hB1.cell rfl, in_spec _ ⟨_, rfl, fun h1 => ?_, fun h1 => by rw [h1] at hk1; exact hk1⟩⟩
      rw [h1, Bool.true_and] at hk1
      refine ⟨p.cmp, by rw [add_mk]; exact hB1.cell rfl, in_spec _ ⟨_, rfl, fun h1 => ?_, fun h1 => by rw [h1] at hk1; exact hk1⟩⟩
      rw [h1, Bool.true_and] at hk1
      exact ⟨p.sub, by rw [add_mk]; exact hB1.cell rfl, in_spec _ ⟨_, rfl, hk1⟩⟩
  · refine isName_spec p.seg hs fun w1 f1 => ⟨_, rfl, fun h => ?_, fun h => ?_⟩
    · have h := (Bool.not_eq_true' _).mp h
      exact ⟨by rw [h]; rfl, f1⟩
    · have h := (Bool.not_eq_false' _).mp h
      refine ⟨p.occ, by rw [add_mk]; exact (hB.fr f1 (fun h => h)).cell rfl, in_spec _ ⟨_, rfl, ?_, f1⟩⟩
      rw [h]; rfl
end
end Go.Proofs.YtoaoofobidhfjaaGreatDoor
