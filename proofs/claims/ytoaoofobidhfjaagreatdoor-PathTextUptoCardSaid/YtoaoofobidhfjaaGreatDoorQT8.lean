/- PathText: what is set is still there when the message was written and read. -/
import Derived.Test.YtoaoofobidhfjaaGreatDoorQEF
import Derived.Test.YtoaoofobidhfjaaGreatDoorQLB
import Derived.Test.YtoaoofobidhfjaaGreatDoorQFK
set_option linter.unusedSimpArgs false
set_option linter.unusedVariables false
namespace Go.Proofs.YtoaoofobidhfjaaGreatDoor
open Go.V Go.RowKit
section
variable {w : World} {k : Value → World → Prop}
set_option maxHeartbeats 4000000 in
theorem ptext_spec (m : Mh) (p : Pa) (v : Str) (l : List Seg) (hR : RM w m.s l) (hb : bkM l ≤ 1048576) (hd : Dg m) (hp : p.seg.length ≤ 1000000000000) (ho : -9223372036854775808 ≤ p.occ ∧ p.occ ≤ 9223372036854775807) (hvl : v.length ≤ BB) (hll : l.length < BB) (hG : GMax w) (hk : ∀ w', Fr Non w w' → k (.bool true) w') : Cl Tryz.prog 11 [.agg (List.toArray (mc m)), .agg (List.toArray (pc p)), .string (mkS v)] w k := by
  obtain ⟨d, s, rfl⟩ : ∃ d s, m = mD d s := ⟨dmM m, m.s, (mD_dm hd).symm⟩
  refine f11_ok ?_
  unfold f11
  have hbB : bkM l ≤ BB := by unfold BB; omega
  have hS := SmM_of hbB
  intro b14 w15 hb14 hw15 b16 w17 hb16 hw17
  have f15 : Fr Non w w15 := hw15 ▸ (Fr.refl Non w).alloc _
  have f17 : Fr Non w15 w17 := hw17 ▸ (Fr.refl Non w15).alloc _
  have hM : Blk w17 b14 26 (mc (mD d s)) := (hb14 ▸ hw15 ▸ Blk.new w _ _ : Blk w15 b14 26 (mc (mD d s))).fr f17 (fun h => h)
  have hP : Blk w17 b16 59 (pc p) := hb16 ▸ hw17 ▸ Blk.new w15 _ _
  have k17 := f15.trans' f17
  have hR17 := hR.fr k17
  have hG17 := hG.fr k17 (fun h => h)
  refine ⟨fun b w' => Fr Non w17 w' ∧ (b = false → v.length ≤ 3000), ?_, _, _, _, _, _, s, msgAts hM, light_any (mD d s) l hR17 hS fun b w27 f27 => ⟨b, rfl, fun _ => ⟨f27, fun h => (by cases h)⟩, fun _ => ⟨f27, fun h => by have := of_decide_eq_false h; omega⟩⟩⟩
  rintro b20 w20 ⟨f20, hq⟩
  refine ⟨fun _ => alive_spec fun w30 f30 => ⟨_, rfl, hk _ ((k17.trans' f20).trans' f30)⟩, fun hb0 => ?_⟩
  have hv3 := hq hb0

  refine ⟨_, _, _, _, _, s, msgAts (hM.fr f20 (fun h => h)), _, _, _, _, _, _, patat (hP.fr f20 (fun h => h)), setP_spec (mD d s) p v l (hR17.fr f20) hS hd hp ho hvl hll (fun he y w45 hy f45 => ?_) (fun he w45 f45 => ?_)⟩
  · refine ⟨_, _, _, _, _, y, _, rfl, ?_⟩
    intro b54 w55 hb54 hw55
    obtain ⟨m1, n1⟩ := msgVar (mD d y) hb54 hw55
    refine ⟨m1, fun w56 hw56 => ?_⟩
    obtain ⟨hX, f56⟩ := n1 w56 hw56
    have k56 := f20.trans' (f45.trans' f56)
    have hRx : RM w56 y (stL l p v) := (OwM.rd hy).fr f56
    have hbx : bkM (stL l p v) ≤ BB := by have := bk_set v he; unfold BB; omega
    have hvx : validM (mD d y) (stL l p v) = true := valid_set (m := mD d y) he
    have hcx : canM (stL l p v) = stL l p v := stL_can he
    refine ⟨fun h => (by cases h), fun _ => ?_⟩
    refine ⟨_, _, _, _, _, y, msgAts hX, tprint_spec (mD d y) (stL l p v) hRx hbx (Dg_mD d y) fun w66 f66 => ⟨_, _, rfl, fun h => ?_, fun h => ?_⟩⟩
    · have hpe : prE (mD d y) (stL l p v) ≠ 0 := by intro e; rw [e] at h; simp at h
      refine alive_spec fun w70 f70 => ⟨_, rfl, fun _ => ?_, fun h => by cases h⟩
      rw [(prE_val hvx hpe).1]; exact hk _ (k17.trans' ((k56.trans' f66).trans' f70))
    have hpe : prE (mD d y) (stL l p v) = 0 := by simpa using h
    obtain ⟨p1, p2, p3⟩ := print_back (Dg_mD d y) hpe
    rw [dm_mD] at p2
    rw [hcx] at p3
    have k66 := k56.trans' f66
    refine parse_u _ (hG17.fr k66 (fun h => h)) fun z w73 hz f73 => ⟨_, _, _, _, _, z, _, rfl, ?_⟩
    intro b82 w83 hb82 hw83
    obtain ⟨m2, n2⟩ := msgVar _ hb82 hw83
    refine ⟨m2, fun w84 hw84 => ?_⟩
    obtain ⟨hZ, f84⟩ := n2 w84 hw84
    rw [p2] at hZ
    rw [p3] at hz
    have k84 := k66.trans' (f73.trans' f84)
    refine alive_spec fun w85 f85 => ⟨_, rfl, fun _ => ⟨fun _ => ?_, fun h => by rw [p1] at h; cases h⟩, fun h => by cases h⟩
    have k85 := k84.trans' f85
    refine ⟨_, _, _, _, _, z, msgAts (hZ.fr f85 (fun h => h)), _, _, _, _, _, _, patat (hP.fr k85 (fun h => h)), get_spec (mD d z) p (stL l p v) ((OwM.rd hz).fr (f84.trans' f85)) (SmM_of hbx) (by omega) ho fun w100 f100 => ⟨_, rfl, ?_⟩⟩
    rw [get_set he]
    have e : (v == v) = true := by simp
    rw [e]; exact hk _ (k17.trans' (k85.trans' f100))
  · refine ⟨_, _, _, _, _, ⟨none, 0, 0⟩, _, rfl, ?_⟩
    intro b54 w55 hb54 hw55
    obtain ⟨m1, n1⟩ := msgVar mz hb54 hw55
    refine ⟨m1, fun w56 hw56 => ?_⟩
    obtain ⟨hX, f56⟩ := n1 w56 hw56
    refine ⟨fun _ => alive_spec fun w57 f57 => ⟨_, rfl, hk _ (k17.trans' ((f20.trans' (f45.trans' f56)).trans' f57))⟩, fun h => ?_⟩
    exact absurd (by simpa using h) he
end
end Go.Proofs.YtoaoofobidhfjaaGreatDoor
