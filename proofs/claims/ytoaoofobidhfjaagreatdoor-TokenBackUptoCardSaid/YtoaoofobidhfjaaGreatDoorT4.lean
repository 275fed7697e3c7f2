/- TokenBack: what is printed is read as the canonical message; what is read is valid, canonical, and printed in one way. -/
import Derived.Test.YtoaoofobidhfjaaGreatDoorEF
import Derived.Test.YtoaoofobidhfjaaGreatDoorFE
set_option linter.unusedSimpArgs false
set_option linter.unusedVariables false
namespace Go.Proofs.YtoaoofobidhfjaaGreatDoor
open Go.V Go.RowKit
section
variable {w : World} {k : Value → World → Prop}
set_option maxHeartbeats 4000000 in
theorem tback_spec (m : Mh) (t : Str) (l : List Seg) (hR : RM w m.s l) (hb : bkM l ≤ BB) (hd : Dg m) (hG : GMax w) (hk : ∀ w', Fr Non w w' → k (.bool true) w') : Cl Tryz.prog 5 [.agg (List.toArray (mc m)), .string (mkS t)] w k := by
  refine f5_ok ?_
  unfold f5
  have hS := SmM_of hb
  intro b8 w9 hb8 hw9
  have f9 : Fr Non w w9 := hw9 ▸ (Fr.refl Non w).alloc _
  have hM : Blk w9 b8 26 (mc m) := hb8 ▸ hw9 ▸ Blk.new w _ _
  have hR9 := hR.fr f9
  have hG9 := hG.fr f9 (fun h => h)
  refine ⟨fun _ w' => Fr Non w9 w', ?_, _, _, _, _, _, m.s, msgAts hM, light_any m l hR9 hS fun b w19 f19 => ⟨b, rfl, fun _ => f19, fun _ => f19⟩⟩
  intro v w12 f12
  refine ⟨fun _ => alive8_spec (hG9.fr f12 (fun h => h)) fun w22 f22 => ⟨_, rfl, hk _ ((f9.trans' f12).trans' f22)⟩, fun _ => ?_⟩
  refine ⟨_, _, _, _, _, m.s, msgAts (hM.fr f12 (fun h => h)), tprint_spec m l (hR9.fr f12) hb hd fun w31 f31 => ⟨_, _, rfl, fun w' => Fr Non w9 w', fun w36 f36 => ?_, fun h => ?_, fun _ => f12.trans' f31⟩⟩
  · refine parse_u t (hG9.fr f36 (fun h => h)) fun x w76 hx f76 => ⟨_, _, _, _, _, x, _, rfl, ?_⟩
    intro b85 w86 hb85 hw86
    obtain ⟨m1, n1⟩ := msgVar (mD (txD t) x) hb85 hw86
    refine ⟨m1, fun w87 hw87 => ?_⟩
    obtain ⟨hX, f87⟩ := n1 w87 hw87
    have k87 := (f36.trans' f76).trans' f87
    have hx87 := hx.fr (fun _ => EG.st) f87 (fun _ _ h => h)
    refine ⟨fun h => ?_, fun h => ?_⟩
    · have h0 : txE t ≠ 0 := by intro e; rw [e] at h; simp at h
      have hl : txL t = [] := by unfold txL; rw [if_neg h0]
      have hn := Own.len hx
      rw [hl] at hn
      refine alive8_spec (hG9.fr k87 (fun h => h)) fun w88 f88 => ⟨_, rfl, fun _ => ⟨x, by rw [add_mk]; exact (hX.fr f88 (fun h => h)).cell rfl, ?_⟩, fun h => by cases h⟩
      have e : ((x.len : Int) == 0) = true := by rw [hn]; rfl
      rw [e]; exact hk _ (f9.trans' (k87.trans' f88))
    have h0 : txE t = 0 := by simpa using h
    obtain ⟨q1, q2, q3⟩ := txE_ok h0
    have hv := tx_valid h0 x
    have hbx := bk_txL t
    have hsx := sm_txL t
    have hDx := Dg_mD (txD t) x
    refine ⟨_, _, _, _, _, x, msgAts hX, tprint_spec (mD (txD t) x) (txL t) (OwM.rd hx87) hbx hDx fun w98 f98 => ⟨_, _, rfl, fun h => ?_, fun h => ?_⟩⟩
    · have hp : prE (mD (txD t) x) (txL t) ≠ 0 := by intro e; rw [e] at h; simp at h
      have e2 := (prE_val hv hp).1
      refine alive8_spec (hG9.fr (k87.trans' f98) (fun h => h)) fun w102 f102 => ⟨_, rfl, fun _ => ?_, fun h => by cases h⟩
      rw [e2]; exact hk _ (f9.trans' ((k87.trans' f98).trans' f102))
    have hp : prE (mD (txD t) x) (txL t) = 0 := by simpa using h
    obtain ⟨p1, p2, p3⟩ := print_back hDx hp
    rw [dm_mD] at p2
    rw [q2] at p3
    have k98 := k87.trans' f98
    refine parse_u _ (hG9.fr k98 (fun h => h)) fun y w105 hy f105 => ⟨_, _, _, _, _, y, _, rfl, ?_⟩
    intro b114 w115 hb114 hw115
    obtain ⟨m2, n2⟩ := msgVar _ hb114 hw115
    refine ⟨m2, fun w116 hw116 => ?_⟩
    obtain ⟨hY, f116⟩ := n2 w116 hw116
    rw [p2] at hY
    rw [p3] at hy
    have f116' := f105.trans' f116
    have hy116 := hy.fr (fun _ => EG.st) f116 (fun _ _ h => h)
    rintro w117 rfl
    have g117 := (Fr.refl Non w116).drew
    have k117 := k98.trans' (f116'.trans' g117)
    refine alive8_spec (hG9.fr k117 (fun h => h)) fun w118 f118 => ⟨_, rfl, fun _ => ?_, fun h => by cases h⟩
    have k118 := k117.trans' f118
    have j118 := (f98.trans' (f116'.trans' g117)).trans' f118
    have i118 := g117.trans' f118
    have hX118 := hX.fr j118 (fun h => h)
    have hx118 := OwM.rd (hx87.fr (fun _ => EG.st) j118 (fun _ _ h => h))
    have hY118 := hY.fr i118 (fun h => h)
    have hy118 := OwM.rd (hy116.fr (fun _ => EG.st) i118 (fun _ _ h => h))
    refine ⟨_, _, _, _, _, x, msgAts hX118, tvalid_spec (mD (txD t) x) (txL t) hx118 hsx hDx fun w127 f127 => ⟨_, rfl, fun _ => ?_, fun h => by rw [hv] at h; cases h⟩⟩
    have hX127 := hX118.fr f127 (fun h => h)
    have hx127 := hx118.fr f127
    refine ⟨_, _, _, _, _, x, msgAts hX127, _, _, _, _, _, x, msgAts hX127, canon_spec (mD (txD t) x) (txL t) hx127 hsx fun y2 w142 hy2 f142 => ⟨f142.ext, _, _, _, _, _, y2, rfl, ?_⟩⟩
    refine same_spec (mD (txD t) x) { mD (txD t) x with s := y2 } (txL t) (canM (txL t)) (hx127.fr f142) (OwM.rd hy2) hsx fun w150 f150 => ⟨_, rfl, fun _ => ⟨fun _ => ?_, fun h => (by rw [p1] at h; cases h)⟩, fun h => ?_⟩
    · have j150 := f142.trans' f150
      have i150 := f127.trans' j150
      refine ⟨_, _, _, _, _, x, msgAts (hX127.fr j150 (fun h => h)), _, _, _, _, _, y, msgAts (hY118.fr i150 (fun h => h)), same_spec (mD (txD t) x) (mD (txD t) y) (txL t) (txL t) (hx127.fr j150) (hy118.fr i150) hsx fun w165 f165 => ⟨_, rfl, ?_⟩⟩
      have e : (dlB (mD (txD t) x) (mD (txD t) y) && decide (txL t = txL t)) = true := by rw [dlB_mD]; simp
      rw [e]; exact hk _ (f9.trans' ((k118.trans' i150).trans' f165))
    · have e : (dlB (mD (txD t) x) { mD (txD t) x with s := y2 } && decide (txL t = canM (txL t))) = true := by
        rw [q2]; unfold dlB; simp
      rw [e] at h; cases h
  · have h0 : prE m l = 0 := by simpa using h
    obtain ⟨p1, p2, p3⟩ := print_back hd h0
    have k31 := f12.trans' f31
    refine parse_u (prS m l) (hG9.fr k31 (fun h => h)) fun y w37 hy f37 => ⟨_, _, _, _, _, y, _, rfl, ?_⟩
    intro b46 w47 hb46 hw47
    obtain ⟨m1, n1⟩ := msgVar (mD (txD (prS m l)) y) hb46 hw47
    refine ⟨m1, fun w48 hw48 => ⟨fun b w' => b = false ∧ Fr Non w9 w', ?_, ?_⟩⟩
    · rintro b w51 ⟨rfl, f51⟩; exact ⟨fun h => (by cases h), fun _ => f51⟩
    obtain ⟨hX, f48⟩ := n1 w48 hw48
    rintro w52 rfl
    have g52 := (Fr.refl Non w48).drew
    have f52 := f48.trans' g52
    have k52 := k31.trans' (f37.trans' f52)
    have hX52 := hX.fr g52 (fun h => h)
    rw [p2] at hX52
    rw [p3] at hy
    have hy52 := OwM.rd (hy.fr (fun _ => EG.st) f52 (fun _ _ h => h))
    refine ⟨fun h => (by rw [p1] at h; cases h), fun _ => ?_⟩
    refine ⟨_, _, _, _, _, y, msgAts hX52, _, _, _, _, _, m.s, msgAts (hM.fr k52 (fun h => h)), canon_spec m l (hR9.fr k52) hS fun y2 w65 hy2 f65 => ⟨f65.ext, _, _, _, _, _, y2, rfl, ?_⟩⟩
    refine same_spec (mD (dmM m) y) { m with s := y2 } (canM l) (canM l) (hy52.fr f65) (OwM.rd hy2) (SmM_can hS) fun w73 f73 => ⟨_, rfl, ?_, (k52.trans' f65).trans' f73⟩
    rw [dlB_dm hd]; simp
end
end Go.Proofs.YtoaoofobidhfjaaGreatDoor
