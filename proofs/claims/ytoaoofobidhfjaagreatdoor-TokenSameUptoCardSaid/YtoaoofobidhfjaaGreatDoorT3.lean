/- TokenSame: a message is the same as itself and its copy; sameness goes both ways; canonical once is canonical. -/
import Derived.Test.YtoaoofobidhfjaaGreatDoorED
import Derived.Test.YtoaoofobidhfjaaGreatDoorFG
set_option linter.unusedSimpArgs false
set_option linter.unusedVariables false
namespace Go.Proofs.YtoaoofobidhfjaaGreatDoor
open Go.V Go.RowKit
theorem dlB_refl (m : Mh) (s s' : Sl) : dlB { m with s := s } { m with s := s' } = true := by unfold dlB; simp
theorem dlB_me (m : Mh) : dlB m m = true := by unfold dlB; simp
theorem dlB_comm (m o : Mh) : dlB m o = dlB o m := by
  unfold dlB
  rw [BEq.comm (a := m.d1), BEq.comm (a := m.d2), BEq.comm (a := m.d3), BEq.comm (a := m.d4), BEq.comm (a := m.d5)]
section
variable {w : World} {k : Value → World → Prop}
set_option maxHeartbeats 4000000 in
theorem tsame_spec (m o : Mh) (l lo : List Seg) (hR : RM w m.s l) (hRo : RM w o.s lo) (hS : SmM l) (hSo : SmM lo) (hd : Dg m) (hdo : Dg o) (hG : GMax w) (hk : ∀ w', Fr Non w w' → k (.bool true) w') : Cl Tryz.prog 7 [.agg (List.toArray (mc m)), .agg (List.toArray (mc o))] w k := by
  refine f7_ok ?_
  unfold f7
  intro b13 w14 hb13 hw14 b15 w16 hb15 hw16
  have f14 : Fr Non w w14 := hw14 ▸ (Fr.refl Non w).alloc _
  have g16 : Fr Non w14 w16 := hw16 ▸ (Fr.refl Non w14).alloc _
  have hM : Blk w16 b13 26 (mc m) := (hb13 ▸ hw14 ▸ Blk.new w _ _ : Blk w14 b13 26 (mc m)).fr g16 (fun h => h)
  have hO : Blk w16 b15 26 (mc o) := hb15 ▸ hw16 ▸ Blk.new w14 _ _
  have f16 := f14.trans' g16
  have hR16 := hR.fr f16
  have hRo16 := hRo.fr f16
  have hG16 := hG.fr f16 (fun h => h)
  refine ⟨fun _ w' => Fr Non w16 w', ?_, _, _, _, _, _, m.s, msgAts hM, light_any m l hR16 hS fun b w26 f26 => ⟨b, rfl, fun _ => f26, fun _ => ⟨_, _, _, _, _, o.s, msgAts (hO.fr f26 (fun h => h)), light_any o lo (hRo16.fr f26) hSo fun b w35 f35 => ⟨b, rfl, f26.trans' f35⟩⟩⟩⟩
  intro v w19 f19
  refine ⟨fun _ => alive8_spec (hG16.fr f19 (fun h => h)) fun w38 f38 => ⟨_, rfl, hk _ ((f16.trans' f19).trans' f38)⟩, fun _ => ?_⟩
  have hM19 := hM.fr f19 (fun h => h)
  have hO19 := hO.fr f19 (fun h => h)
  have hR19 := hR16.fr f19
  have hRo19 := hRo16.fr f19
  have hG19 := hG16.fr f19 (fun h => h)
  refine ⟨_, _, _, _, _, m.s, msgAts hM19, canon_spec m l hR19 hS fun y w47 hy f47 => ⟨_, _, _, _, _, y, rfl, ?_⟩⟩
  intro b55 w56 hb55 hw56
  obtain ⟨m1, n1⟩ := msgVar { m with s := y } hb55 hw56
  refine ⟨m1, fun w57 hw57 => ?_⟩
  obtain ⟨hC, f57⟩ := n1 w57 hw57
  rintro w58 rfl
  have f58 := f57.drew
  have k58 := f47.trans' f58
  have g58 : Fr Non w57 w57.drew := (Fr.refl Non w57).drew
  have hC58 := hC.fr g58 (fun h => h)
  have hy58 := hy.fr (fun _ => EG.st) f58 (fun _ _ h => h)
  have hSc := SmM_can hS
  refine alive8_spec (hG19.fr k58 (fun h => h)) fun w59 f59 => ⟨_, rfl, fun _ => ?_, fun h => by cases h⟩
  have k59 := k58.trans' f59
  refine ⟨_, _, _, _, _, m.s, msgAts (hM19.fr k59 (fun h => h)), _, _, _, _, _, m.s, msgAts (hM19.fr k59 (fun h => h)), same_spec m m l l (hR19.fr k59) (hR19.fr k59) hS fun w74 f74 => ⟨_, rfl, fun _ => ?_, fun h => ?_⟩⟩
  · have k74 := k59.trans' f74
    refine ⟨_, _, _, _, _, m.s, msgAts (hM19.fr k74 (fun h => h)), _, _, _, _, _, m.s, msgAts (hM19.fr k74 (fun h => h)), tcopy_spec m l (hR19.fr k74) hS fun y2 w89 hy2 f89 => ⟨f89.ext, _, _, _, _, _, y2, rfl, ?_⟩⟩
    have k89 := k74.trans' f89
    refine same_spec m { m with s := y2 } l l (hR19.fr k89) (OwM.rd hy2) hS fun w97 f97 => ⟨_, rfl, fun _ => ?_, fun h => ?_⟩
    · have k97 := k89.trans' f97
      refine ⟨_, _, _, _, _, m.s, msgAts (hM19.fr k97 (fun h => h)), _, _, _, _, _, o.s, msgAts (hO19.fr k97 (fun h => h)), _, _, _, _, _, o.s, msgAts (hO19.fr k97 (fun h => h)), _, _, _, _, _, m.s, msgAts (hM19.fr k97 (fun h => h)), ?_⟩
      refine same_spec m o l lo (hR19.fr k97) (hRo19.fr k97) hS fun w124 f124 => ⟨f124.ext, _, rfl, ?_⟩
      have k124 := k97.trans' f124
      refine same_spec o m lo l (hRo19.fr k124) (hR19.fr k124) hSo fun w127 f127 => ⟨_, rfl, fun _ => ?_, fun h => ?_⟩
      · have k127 := k124.trans' f127
        have j127 : Fr Non w57.drew w127 := ((((f59.trans' f74).trans' f89).trans' f97).trans' f124).trans' f127
        have hC127 := hC58.fr j127 (fun h => h)
        have hy127 := OwM.rd (hy58.fr (fun _ => EG.st) j127 (fun _ _ h => h))
        refine ⟨_, _, _, _, _, y, msgAts hC127, _, _, _, _, _, y, msgAts hC127, canon_spec { m with s := y } (canM l) hy127 hSc fun y3 w142 hy3 f142 => ⟨f142.ext, _, _, _, _, _, y3, rfl, ?_⟩⟩
        refine same_spec { m with s := y3 } { m with s := y } (canM (canM l)) (canM l) (OwM.rd hy3) (hy127.fr f142) (SmM_can hSc) fun w150 f150 => ⟨_, rfl, fun _ => ?_, fun h => ?_⟩
        · have k150 := (k127.trans' f142).trans' f150
          refine ⟨_, _, _, _, _, m.s, msgAts (hM19.fr k150 (fun h => h)), tvalid_spec m l (hR19.fr k150) hS hd fun w159 f159 => ⟨_, rfl, fun _ => hk _ ((f16.trans' f19).trans' (k150.trans' f159)), fun hv => ?_⟩⟩
          have hv : validM m l = true := by simpa using hv
          have j159 := (f142.trans' f150).trans' f159
          refine ⟨_, _, _, _, _, y, msgAts (hC127.fr j159 (fun h => h)), tvalid_spec { m with s := y } (canM l) (hy127.fr j159) hSc hd fun w168 f168 => ⟨_, rfl, ?_⟩⟩
          have hvc : validM { m with s := y } (canM l) = true := valid_of (m := { m with s := y }) hd (okM_of hd hv).can
          rw [hvc]
          exact hk _ ((f16.trans' f19).trans' ((k150.trans' f159).trans' f168))
        · have e : (dlB { m with s := y3 } { m with s := y } && decide (canM (canM l) = canM l)) = true := by rw [dlB_refl, canM_can2]; simp
          rw [e] at h; cases h
      · have e : ((dlB m o && decide (l = lo)) == (dlB o m && decide (lo = l))) = true := by
          rw [dlB_comm m o]
          have : decide (l = lo) = decide (lo = l) := by rw [decide_eq_decide]; exact eq_comm
          rw [this]; simp
        rw [e] at h; cases h
    · have e : (dlB m { m with s := y2 } && decide (l = l)) = true := by rw [dlB_refl m m.s y2]; simp
      rw [e] at h; cases h
  · have e : (dlB m m && decide (l = l)) = true := by rw [dlB_me]; simp
    rw [e] at h; cases h
end
end Go.Proofs.YtoaoofobidhfjaaGreatDoor
