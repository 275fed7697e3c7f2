/- What a tree says of itself: the reference's answers, and whether it says what it is. -/
import Derived.Test.YthpeengmcjpknaaGreatDoorPU2
import Derived.Test.YthpeengmcjpknaaGreatDoorPH2
import Derived.Test.YthpeengmcjpknaaGreatDoorPM7
set_option linter.unusedSimpArgs false
set_option linter.unusedVariables false
namespace Go.Proofs.YthpeengmcjpknaaGreatDoor
open Go.V Go.RowKit
section
variable {w : World} {k : Value → World → Prop}
theorem msh_spec (f c : Int) (hk : ∀ w', Fr Non w w' → k (.agg (List.toArray (pc (hAt f c)))) w') : Cl Tryz.prog 297 [.int .i64 f, .int .i64 c] w k := by
  refine f297_ok ?_
  unfold f297
  intro b3 w4 hb3 hw4
  obtain ⟨m1, n1⟩ := newPa (Fr.refl Non w) (hAt f c) hb3 hw4
  refine ⟨m1, fun w5 hw5 => ?_⟩
  obtain ⟨hP, _, f5⟩ := n1 w5 hw5
  exact ⟨_, _, _, _, _, _, patat hP, hk _ f5⟩
theorem rhead_spec (m : Mh) (f c : Int) (l : List Seg) (hR : RM w m.s l) (hS : SmM l) (hk : ∀ w', Fr Non w w' → k (.string (mkS (hd l f c))) w') : Cl Tryz.prog 200 [.agg (List.toArray (mc m)), .int .i64 f, .int .i64 c] w k := by
  refine f200_ok ?_
  unfold f200
  intro b9 w10 hb9 hw10
  have f10 : Fr Non w w10 := hw10 ▸ (Fr.refl Non w).alloc _
  have hM : Blk w10 b9 26 (mc m) := hb9 ▸ hw10 ▸ Blk.new w _ _
  rintro w11 rfl
  have g11 := (Fr.refl Non w10).drew
  have k11 := f10.trans' g11
  exact ⟨_, _, _, _, _, m.s, msgAts (hM.fr g11 (fun h => h)), msh_spec f c fun w18 f18 => ⟨f18.ext, _, _, _, _, _, _, rfl, rget_spec m (hAt f c) l (hR.fr (k11.trans' f18)) hS (by show msh.length ≤ _; decide) fun w26 f26 => ⟨_, rfl, hk _ ((k11.trans' f18).trans' f26)⟩⟩⟩
def chkB (l : List Seg) : Bool := (hd l 9 1 == []) || ((hd l 10 1 == []) || decide ((50 : Int) < ((hd l 10 1).length : Int)))
def chkE (m : Mh) (l : List Seg) : Int := if validM m l = true then (if chkB l = true then 50 else 0) else 51
theorem rcheck_spec (m : Mh) (l : List Seg) (hR : RM w m.s l) (hS : SmM l) (hd' : Dg m) (hk : ∀ w', Fr Non w w' → k (.int .i64 (chkE m l)) w') : Cl Tryz.prog 39 [.agg (List.toArray (mc m))] w k := by
  refine f39_ok ?_
  unfold f39
  intro b7 w8 hb7 hw8
  have f8 : Fr Non w w8 := hw8 ▸ (Fr.refl Non w).alloc _
  have hM : Blk w8 b7 26 (mc m) := hb7 ▸ hw8 ▸ Blk.new w _ _
  have mAt : ∀ {u}, Fr Non w8 u → cellsAt u ⟨b7, 0, none⟩ 0 (mc m) := fun f => msgAts (hM.fr f (fun h => h))
  refine ⟨_, _, _, _, _, m.s, mAt (Fr.refl _ _), rtvalid_spec m l (hR.fr f8) hS hd' fun w15 f15 => ⟨_, rfl, fun hv => ?_, fun hv => ?_⟩⟩
  · have := hk _ (f8.trans' f15)
    unfold chkE at this
    rw [if_neg (by rw [(Bool.not_eq_true' _).mp hv]; simp)] at this; exact this
  have hv := (Bool.not_eq_false' _).mp hv
  unfold chkE at hk
  rw [if_pos hv] at hk
  refine ⟨fun v w' => v = chkB l ∧ Fr Non w8 w', ?_, _, _, _, _, _, m.s, mAt f15, rhead_spec m 9 1 l (hR.fr (f8.trans' f15)) hS fun w27 f27 => ⟨_, rfl, fun h1 => ⟨?_, f15.trans' f27⟩, fun h1 => ⟨_, _, _, _, _, m.s, mAt (f15.trans' f27), rhead_spec m 10 1 l (hR.fr (f8.trans' (f15.trans' f27))) hS fun w36 f36 => ⟨_, rfl, fun h2 => ⟨?_, (f15.trans' f27).trans' f36⟩, fun h2 => ⟨_, _, _, _, _, m.s, mAt ((f15.trans' f27).trans' f36), rhead_spec m 10 1 l (hR.fr (f8.trans' ((f15.trans' f27).trans' f36))) hS fun w45 f45 => ⟨_, rfl, ?_, ((f15.trans' f27).trans' f36).trans' f45⟩⟩⟩⟩⟩⟩
  · rintro v w20 ⟨rfl, f20⟩
    refine ⟨fun h => ?_, fun h => ?_⟩
    · have := hk _ (f8.trans' f20)
      rw [if_pos h] at this; exact this
    · have := hk _ (f8.trans' f20)
      rw [if_neg (by rw [h]; simp)] at this; exact this
  · unfold chkB; rw [h1]; rfl
  · unfold chkB; rw [h1, h2]; rfl
  · unfold chkB; rw [h1, h2]; rfl
theorem hcheck_spec (m : Mh) (l : List Seg) (hR : RM w m.s l) (hS : SmM l) (hd' : Dg m) (hk : ∀ w', Fr Non w w' → k (.int .i64 (chkE m l)) w') : Cl Tryz.prog 38 [.agg (List.toArray (mc m))] w k := by
  refine f38_ok ?_
  unfold f38
  intro b7 w8 hb7 hw8
  have f8 : Fr Non w w8 := hw8 ▸ (Fr.refl Non w).alloc _
  have hM : Blk w8 b7 26 (mc m) := hb7 ▸ hw8 ▸ Blk.new w _ _
  have mAt : ∀ {u}, Fr Non w8 u → cellsAt u ⟨b7, 0, none⟩ 0 (mc m) := fun f => msgAts (hM.fr f (fun h => h))
  refine ⟨_, _, _, _, _, m.s, mAt (Fr.refl _ _), tvalid_spec m l (hR.fr f8) hS hd' fun w15 f15 => ⟨_, rfl, fun hv => ?_, fun hv => ?_⟩⟩
  · have := hk _ (f8.trans' f15)
    unfold chkE at this
    rw [if_neg (by rw [(Bool.not_eq_true' _).mp hv]; simp)] at this; exact this
  have hv := (Bool.not_eq_false' _).mp hv
  unfold chkE at hk
  rw [if_pos hv] at hk
  refine ⟨_, _, _, _, _, m.s, mAt f15, kind_spec m l (hR.fr (f8.trans' f15)) hS fun w24 f24 => ⟨_, _, rfl, _, _, _, _, _, m.s, mAt (f15.trans' f24), control_spec m l (hR.fr (f8.trans' (f15.trans' f24))) hS fun w34 f34 => ⟨_, rfl, fun v w' => v = chkB l ∧ w' = w34, ?_, fun h1 => ⟨?_, rfl⟩, fun h1 => ⟨fun h2 => ⟨?_, rfl⟩, fun h2 => ⟨?_, rfl⟩⟩⟩⟩⟩
  · rintro v w20 ⟨rfl, rfl⟩
    have k34 := f8.trans' ((f15.trans' f24).trans' f34)
    refine ⟨fun h => ?_, fun h => ?_⟩
    · have := hk _ k34
      rw [if_pos h] at this; exact this
    · have := hk _ k34
      rw [if_neg (by rw [h]; simp)] at this; exact this
  · unfold chkB; rw [h1]; rfl
  · unfold chkB; rw [h1, h2]; rfl
  · unfold chkB; rw [h1, h2]; rfl
end
end Go.Proofs.YthpeengmcjpknaaGreatDoor
