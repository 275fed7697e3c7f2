/- HeadTells: what every tree says of itself; it stays. -/
import Derived.Test.YthpeengmcjpknaaGreatDoorPU4
import Derived.Test.YthpeengmcjpknaaGreatDoorPFF
set_option linter.unusedSimpArgs false
set_option linter.unusedVariables false
namespace Go.Proofs.YthpeengmcjpknaaGreatDoor
open Go.V Go.RowKit
section
variable {w : World} {k : Value → World → Prop}
theorem told_spec (m : Mh) (f c : Int) (l : List Seg) (hR : RM w m.s l) (hS : SmM l) (hk : ∀ w', Fr Non w w' → k (.string (mkS (hd l f c))) w') : Cl Tryz.prog 35 [.agg (List.toArray (mc m)), .int .i64 f, .int .i64 c] w k := by
  refine f35_ok ?_
  unfold f35
  intro b9 w10 hb9 hw10
  have f10 : Fr Non w w10 := hw10 ▸ (Fr.refl Non w).alloc _
  have hM : Blk w10 b9 26 (mc m) := hb9 ▸ hw10 ▸ Blk.new w _ _
  exact ⟨_, _, _, _, _, m.s, msgAts hM, rhead_spec m f c l (hR.fr f10) hS fun w17 f17 => ⟨_, rfl, hk _ (f10.trans' f17)⟩⟩
set_option maxHeartbeats 4000000 in
theorem htells_spec (m : Mh) (l : List Seg) (hR : RM w m.s l) (hb : bkM l ≤ 1048576) (hd' : Dg m) (hG : GMax w) (hk : ∀ w', Fr Non w w' → k (.bool true) w') : Cl Tryz.prog 6 [.agg (List.toArray (mc m))] w k := by
  refine f6_ok ?_
  unfold f6
  have hbB : bkM l ≤ BB := by unfold BB; omega
  have hS := SmM_of hbB
  intro b7 w8 hb7 hw8
  have f8 : Fr Non w w8 := hw8 ▸ (Fr.refl Non w).alloc _
  have hM : Blk w8 b7 26 (mc m) := hb7 ▸ hw8 ▸ Blk.new w _ _
  have hR8 := hR.fr f8
  have mAt : ∀ {u}, Fr Non w8 u → cellsAt u ⟨b7, 0, none⟩ 0 (mc m) := fun f => msgAts (hM.fr f (fun h => h))
  refine ⟨_, _, _, _, _, m.s, mAt (Fr.refl _ _), light_any m l hR8 hS fun b w15 f15 => ⟨b, rfl, fun _ => ?_, fun _ => ?_⟩⟩
  · exact alive10_spec (hG.fr (f8.trans' f15) (fun h => h)) fun w18 f18 => ⟨_, rfl, hk _ ((f8.trans' f15).trans' f18)⟩
  refine ⟨_, _, _, _, _, m.s, mAt f15, lent_spec m l (hR8.fr f15) hS fun y w27 hy f27 => ⟨_, _, _, _, _, y, rfl, ?_⟩⟩
  have hL27 : RLM w27 y l := toLM hy
  intro b35 w36 hb35 hw36
  obtain ⟨m1, n1⟩ := msgVar { m with s := y } hb35 hw36
  refine ⟨m1, fun w37 hw37 => ?_⟩
  obtain ⟨hX, f37⟩ := n1 w37 hw37
  have k37 := (f15.trans' f27).trans' f37
  have hL37 : RLM w37 y l := hL27.fr f37
  have hY37 : RM w37 y l := hL37.c
  have hR37 := hR8.fr k37
  have xAt : ∀ {u}, Fr Non w37 u → cellsAt u ⟨b35, 0, none⟩ 0 (mc { m with s := y }) := fun f => msgAts (hX.fr f (fun h => h))
  have hyd : Dg { m with s := y } := hd'
  refine ⟨_, _, _, _, _, y, xAt (Fr.refl _ _), kind_spec { m with s := y } l hY37 hS fun w44 f44 => ⟨_, _, rfl, _, _, _, _, _, y, xAt f44, sender_spec { m with s := y } l (hY37.fr f44) hS fun w54 f54 => ⟨_, _, rfl, _, _, _, _, _, y, xAt (f44.trans' f54), receiver_spec { m with s := y } l (hY37.fr (f44.trans' f54)) hS fun w64 f64 => ⟨_, _, rfl, ?_⟩⟩⟩⟩
  rintro w68 rfl
  have k68 : Fr Non w37 w64.drew := ((f44.trans' f54).trans' f64).drew
  refine alive10_spec (hG.fr (f8.trans' (k37.trans' k68)) (fun h => h)) fun w69 f69 => ⟨_, rfl, rfl, ?_⟩
  have k69 := k68.trans' f69
  refine ⟨_, _, _, _, _, m.s, mAt (k37.trans' k69), told_spec m 9 1 l (hR37.fr k69) hS fun w1 g1 => ⟨_, rfl, beq_self_eq_true _, _, _, _, _, _, m.s, mAt (k37.trans' (k69.trans' g1)), told_spec m 9 2 l (hR37.fr (k69.trans' g1)) hS fun w2 g2 => ⟨_, rfl, beq_self_eq_true _, ?_⟩⟩⟩
  have q2 := (k69.trans' g1).trans' g2
  refine ⟨_, _, _, _, _, m.s, mAt (k37.trans' q2), told_spec m 3 1 l (hR37.fr q2) hS fun w3 g3 => ⟨_, rfl, beq_self_eq_true _, _, _, _, _, _, m.s, mAt (k37.trans' (q2.trans' g3)), told_spec m 4 1 l (hR37.fr (q2.trans' g3)) hS fun w4 g4 => ⟨_, rfl, beq_self_eq_true _, ?_⟩⟩⟩
  have q4 := (q2.trans' g3).trans' g4
  refine ⟨_, _, _, _, _, m.s, mAt (k37.trans' q4), told_spec m 5 1 l (hR37.fr q4) hS fun w5 g5 => ⟨_, rfl, beq_self_eq_true _, _, _, _, _, _, m.s, mAt (k37.trans' (q4.trans' g5)), told_spec m 6 1 l (hR37.fr (q4.trans' g5)) hS fun w6 g6 => ⟨_, rfl, beq_self_eq_true _, ?_⟩⟩⟩
  have q6 := (q4.trans' g5).trans' g6
  refine ⟨_, _, _, _, _, y, xAt q6, _, _, _, _, _, m.s, mAt (k37.trans' q6), control_spec { m with s := y } l (hY37.fr q6) hS fun w7 g7 => ⟨g7.ext, _, rfl, told_spec m 10 1 l (hR37.fr (q6.trans' g7)) hS fun w9 g9 => ⟨_, rfl, beq_self_eq_true _, ?_⟩⟩⟩
  have q9 := (q6.trans' g7).trans' g9
  refine ⟨_, _, _, _, _, y, xAt q9, _, _, _, _, _, m.s, mAt (k37.trans' q9), version_spec { m with s := y } l (hY37.fr q9) hS fun w7 g7 => ⟨g7.ext, _, rfl, told_spec m 12 1 l (hR37.fr (q9.trans' g7)) hS fun w9 g9 => ⟨_, rfl, beq_self_eq_true _, ?_⟩⟩⟩
  have q12 := (q9.trans' g7).trans' g9
  refine ⟨_, _, _, _, _, y, xAt q12, _, _, _, _, _, m.s, mAt (k37.trans' q12), hcheck_spec { m with s := y } l (hY37.fr q12) hS hyd fun w7 g7 => ⟨g7.ext, _, rfl, rcheck_spec m l (hR37.fr (q12.trans' g7)) hS hd' fun w9 g9 => ⟨_, rfl, ?_, ?_⟩⟩⟩
  · rw [show chkE { m with s := y } l = chkE m l from rfl]; exact beq_self_eq_true _
  have q14 := (q12.trans' g7).trans' g9
  refine ⟨_, _, _, _, _, y, xAt q14, _, _, _, _, _, m.s, mAt (k37.trans' q14), ?_⟩
  refine stays_true { m with s := y } m.s l (hL37.fr q14) (hR37.fr q14) hS fun w192 f192 => ⟨_, rfl, hk _ (f8.trans' (k37.trans' (q14.trans' f192)))⟩
end
end Go.Proofs.YthpeengmcjpknaaGreatDoor
