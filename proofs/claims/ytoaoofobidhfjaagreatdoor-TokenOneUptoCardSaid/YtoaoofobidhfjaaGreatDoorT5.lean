/- TokenOne: a message of one field more is its text with that field's text behind. -/
import Derived.Test.YtoaoofobidhfjaaGreatDoorEH
import Derived.Test.YtoaoofobidhfjaaGreatDoorFC
set_option linter.unusedSimpArgs false
set_option linter.unusedVariables false
namespace Go.Proofs.YtoaoofobidhfjaaGreatDoor
open Go.V Go.RowKit
theorem sub_last (p : Str) (hp : p.length ≤ 65536) : sub (p ++ [13]) (0 : Int) (IntKind.i64.wrap (((p ++ [13]).length : Int) - 1)) = p := by
  rw [List.length_append, List.length_singleton, w64_id (by omega) (by omega)]
  unfold sub
  have : (((p.length + 1 : Nat) : Int) - 1).toNat = p.length := by omega
  rw [this]; simp
section
variable {w : World} {k : Value → World → Prop}
set_option maxHeartbeats 4000000 in
theorem tone_spec (m : Mh) (v : Str) (l : List Seg) (hR : RM w m.s l) (hb : bkM l ≤ 1048576) (hd : Dg m) (hG : GMax w) (hk : ∀ w', Fr Non w w' → k (.bool true) w') : Cl Tryz.prog 3 [.agg (List.toArray (mc m)), .string (mkS v)] w k := by
  obtain ⟨d, s, rfl⟩ : ∃ d s, m = mD d s := ⟨dmM m, m.s, (mD_dm hd).symm⟩
  refine f3_ok ?_
  unfold f3
  have hbB : bkM l ≤ BB := by unfold BB; omega
  have hS := SmM_of hbB
  intro b8 w9 hb8 hw9
  have f9 : Fr Non w w9 := hw9 ▸ (Fr.refl Non w).alloc _
  have hM : Blk w9 b8 26 (mc (mD d s)) := hb8 ▸ hw9 ▸ Blk.new w _ _
  have hR9 := hR.fr f9
  have hG9 := hG.fr f9 (fun h => h)
  refine ⟨fun b w' => Fr Non w9 w' ∧ (b = false → validM (mD d s) l = true ∧ v ≠ [] ∧ v.length ≤ 3000), ?_, _, _, _, _, _, s, msgAts hM, light_any (mD d s) l hR9 hS fun b w19 f19 => ⟨b, rfl, fun _ => ⟨f19, fun h => (by cases h)⟩, fun _ => ⟨_, _, _, _, _, s, msgAts (hM.fr f19 (fun h => h)), tvalid_spec (mD d s) l (hR9.fr f19) hS hd fun w28 f28 => ⟨_, rfl, fun _ => ⟨f19.trans' f28, fun h => (by cases h)⟩, fun hv => ⟨fun _ => ⟨f19.trans' f28, fun h => (by cases h)⟩, fun hn => ⟨f19.trans' f28, fun h => ⟨by simpa using hv, by simpa using hn, by have := of_decide_eq_false h; omega⟩⟩⟩⟩⟩⟩⟩
  rintro b12 w12 ⟨f12, hq⟩
  refine ⟨fun _ => alive8_spec (hG9.fr f12 (fun h => h)) fun w22 f22 => ⟨_, rfl, hk _ ((f9.trans' f12).trans' f22)⟩, fun hb0 => ?_⟩
  obtain ⟨hv, hne, hvl⟩ := hq hb0
  have hok := okM_of hd hv
  rw [dm_mD] at hok
  have hokc := hok.can
  obtain ⟨cs, g, hcl⟩ := hokc.last
  have hcc : canM (cs ++ [g]) = cs ++ [g] := by rw [← hcl, canM_can2]
  have hbc : bkM (canM l) ≤ 1048576 := Nat.le_trans (bkM_can l) hb
  refine ⟨_, _, _, _, _, s, msgAts (hM.fr f12 (fun h => h)), canon_spec (mD d s) l (hR9.fr f12) hS fun y w40 hy f40 => ⟨_, _, _, _, _, y, rfl, ?_⟩⟩
  rw [hcl] at hy hbc hokc
  intro b48 w49 hb48 hw49
  obtain ⟨m1, n1⟩ := msgVar (mD d y) hb48 hw49
  refine ⟨m1, fun w50 hw50 => ?_⟩
  obtain ⟨hC, f50⟩ := n1 w50 hw50
  have hy50 := hy.fr (fun _ => EG.st) f50 (fun _ _ h => h)
  have hn := Own.len hy
  rw [List.length_append, List.length_singleton] at hn
  have hcn : cs.length + 1 ≤ 200 := by have := hokc.len; simpa using this
  have k50 := f12.trans' (f40.trans' f50)
  refine ⟨_, _, _, _, _, y, msgAts hC, tprint_spec (mD d y) (cs ++ [g]) (OwM.rd hy50) (by unfold BB; omega) (Dg_mD d y) fun w57 f57 => ⟨_, _, rfl, y, by rw [add_mk]; exact (hC.fr f57 (fun h => h)).cell rfl, fun h => ?_, fun _ => ⟨y, by rw [add_mk]; exact (hC.fr f57 (fun h => h)).cell rfl, ?_⟩⟩⟩
  · exfalso
    have : (y.len : Int) = 0 := by simpa using h
    omega
  have ei : IntKind.i64.wrap ((y.len : Int) - 1) = (cs.length : Int) := by rw [w64_id (by omega) (by omega)]; omega
  rw [ei, Int.toNat_natCast]
  have hC57 := hC.fr f57 (fun h => h)
  have hy57 := hy50.fr (fun _ => EG.st) f57 (fun _ _ h => h)
  have k57 := k50.trans' f57
  refine ⟨fun b w' => Fr Non w57 w' ∧ (b = false → prE (mD d y) (cs ++ [g]) = 0 ∧ g.flds.length < 100), ?_, fun h => ⟨Fr.refl Non w57, fun h => (by cases h)⟩, fun h => ?_⟩
  · rintro b65 w65 ⟨f65, hq⟩
    have k65 := k57.trans' f65
    refine ⟨fun _ => alive8_spec (hG9.fr k65 (fun h => h)) fun w22 f22 => ⟨_, rfl, hk _ (f9.trans' (k65.trans' f22))⟩, fun hb0 => ?_⟩
    obtain ⟨he, hgl⟩ := hq hb0
    have hC65 := hC57.fr f65 (fun h => h)
    have hy65 := hy57.fr (fun _ => EG.st) f65 (fun _ _ h => h)
    have hSc : SmM (cs ++ [g]) := SmM_of (by unfold BB; omega)
    refine ⟨_, _, _, _, _, y, msgAts hC65, tcopy_spec (mD d y) (cs ++ [g]) (OwM.rd hy65) hSc fun z w78 hz f78 => ⟨_, _, _, _, _, z, rfl, ?_⟩⟩
    intro b86 w87 hb86 hw87
    obtain ⟨m2, n2⟩ := msgVar (mD d z) hb86 hw87
    refine ⟨m2, fun w88 hw88 => ?_⟩
    obtain ⟨hX, f88⟩ := n2 w88 hw88
    have hC88 := hC65.fr (f78.trans' f88) (fun h => h)
    have hnz := Own.len hz
    rw [List.length_append, List.length_singleton] at hnz
    refine ⟨z, by rw [add_mk]; exact hX.cell rfl, y, by rw [add_mk]; exact hC88.cell rfl, fun h => ?_, fun _ => ?_⟩
    · exfalso
      have : ((z.len : Int) != (y.len : Int)) = false := by rw [hn, hnz]; simp
      rw [this] at h; cases h
    have g91 := (Fr.refl Non w88).drew
    have hz91 := hz.fr (fun _ => EG.st) (f88.trans' g91) (fun _ _ h => h)
    have hX91 := hX.fr g91 (fun h => h)
    obtain ⟨a, zf, o, ha, hF, hlt, hno, hzc, hzo, hof, hset⟩ := OwM.flds hz91 (i := cs.length) (by simp)
    have eg : ((cs ++ [g])[cs.length]'(by simp)) = g := by simp
    rw [eg] at hzo hset
    have hnb : ¬ o b86 := fun h => by have := (hof _ h).1.2; omega
    refine ⟨o, ?_⟩
    rintro w91 rfl
    refine ⟨z, hnb, by rw [add_mk]; exact hX91.cell rfl, z, hnb, by rw [add_mk]; exact hX91.cell rfl, a, ha, ⟨by omega, by omega⟩, zf, (by rw [block_add, block_add]; exact hno), hzc, ?_⟩
    intro b97 w98 hb97 hw98 b99 w100 hb99 hw100 b101 w102 hb101 hw102 b103 w104 hb103 hw104
    obtain ⟨hF1, f102⟩ := one_new v hb97 hw98 hb99 hw100 hb101 hw102
    have f104 : Fr Non w102 w104 := hw104 ▸ (Fr.refl Non w102).alloc _
    have hB : Blk w104 b103 38 [.slice (some ⟨b101, 0, none⟩) 1 1] := hb103 ▸ hw104 ▸ Blk.new w102 _ _
    have hF104 := hF1.fr (fun _ => ER.st) f104 (fun _ _ h => h)
    obtain ⟨s', w106, r1, r2, r3⟩ := flds_push hzo (fun b hb => (hof b hb).2) (f102.trans' f104) hF104 (fun b hb => ⟨hb.1, by have := f104.size; omega⟩) hB (by omega)
    refine ⟨s', w106, r1, exs_fr r3, a, ha, ⟨by omega, by omega⟩, ?_⟩
    have f106 : Fr o w88.drew w106 := ((f102.trans' f104).mono (fun _ _ h => h.elim)).trans' r3
    obtain ⟨k1, k2, k3, k4⟩ := hset w106 _ s' _ f106 r2 (fun b hb => hb)
    refine ⟨k1, k2, fun w108 hw108 => ?_⟩
    rw [← hw108] at k3 k4
    obtain ⟨L, hL⟩ : ∃ L : List Seg, L = cs ++ [⟨g.name, g.flds ++ [one1' v]⟩] := ⟨_, rfl⟩
    have es : (cs ++ [g]).set cs.length ⟨g.name, g.flds ++ [one1' v]⟩ = L := by rw [hL]; simp
    rw [es] at k3
    have hve : v.isEmpty = false := by cases v with
      | nil => exact absurd rfl hne
      | cons a b => rfl
    have hcF : canF (one1' v) = one1' v := can_one hve
    have hfit : fitsF (one1' v) = true := by unfold one1' fitsF fitsR fitsC; simp
    have hokx := hokc.grow (es := [one1' v]) (by intro f hf; simp at hf; subst hf; exact hfit) (by simp; omega)
    rw [← hL] at hokx
    obtain ⟨p, hp1, hp2⟩ := grow_print d hcc hcF rfl (fun h => by subst h; exact OkM.two hokc)
    obtain ⟨q1, q2, q3⟩ := prE_ok he
    rw [dm_mD, hp1] at q2 q3
    rw [prF_one, ← hL] at hp2
    have hpl : p.length ≤ 65536 := by simp at q2; omega
    have hbx : bkM L ≤ BB := by
      rw [hL]
      rw [bkM_snoc] at hbc ⊢
      rw [bkG_grow]
      have e1 : bkG ⟨g.name, g.flds⟩ = bkG g := rfl
      have e2 : ([one1' v].map bkF).sum = v.length + 4 := by rw [List.map_cons, bkF_one]; simp
      rw [e1, e2]; unfold BB; omega
    have lb86 : b86 = w78.heap.size := hb86
    have hX108 := hX91.fr k4 (fun h => by have := h.2; omega)
    have k108 : Fr Non w65 w108 := upN ((f78.trans' f88).trans' g91) k4 (fun g hg => hg.1)
    have hvx : validM (mD d z) L = true := valid_of (Dg_mD _ _) (by rw [dm_mD]; exact hokx)
    have hel := escW_len' d v
    refine ⟨_, _, _, _, _, z, msgAts hX108, tprint_spec (mD d z) L (OwM.rd k3) hbx (Dg_mD d z) fun w115 f115 => ⟨_, _, rfl, fun W w' => W = p ++ d.f :: escW d v ++ [13] ∧ Fr Non w115 w', ?_, ?_⟩⟩
    · rintro W w121 ⟨rfl, f121⟩
      have k121 := k65.trans' (k108.trans' (f115.trans' f121))
      refine ⟨fun h => alive8_spec (hG9.fr k121 (fun h => h)) fun w141 f141 => ⟨_, rfl, fun _ => ?_, fun h => by cases h⟩, fun h => alive8_spec (hG9.fr k121 (fun h => h)) fun w144 f144 => ⟨_, rfl, fun _ => ?_, fun h => by cases h⟩⟩
      · have h := of_decide_eq_true h
        have e : prE (mD d z) L = 2 := by
          unfold prE; rw [if_pos hvx, if_pos (by rw [dm_mD, hp2]; omega)]
        rw [e]; exact hk _ (f9.trans' (k121.trans' f141))
      · have h := of_decide_eq_false h
        have e : prE (mD d z) L = 0 := prE_of hvx (by rw [dm_mD, hp2]; omega)
        obtain ⟨_, _, e3⟩ := prE_ok e
        rw [dm_mD, hp2] at e3
        rw [e, e3]
        refine ⟨fun _ => ?_, fun h => by cases h⟩
        rw [show ((p ++ d.f :: escW d v ++ [13]) == (p ++ d.f :: escW d v ++ [13])) = true by simp]
        exact hk _ (f9.trans' (k121.trans' f144))
    · rw [q3]
      have esub := sub_last p hpl
      have h122 : Fr Non w9 w115.drew := (k65.trans' (k108.trans' f115)).drew
      have hM122 := hM.fr h122 (fun h => h)
      rintro w122 rfl
      have hw : IntKind.i64.wrap (((p ++ [13]).length : Int) - 1) = (p.length : Int) := by rw [List.length_append, List.length_singleton, w64_id (by omega) (by omega)]; omega
      rw [esub, hw]
      refine ⟨⟨by omega, by omega, by rw [List.length_append]; omega⟩, _, hM122.cell (i := 0) rfl, _, _, _, _, _, ats5 hM122, ?_, ?_⟩
      · intro b129 w130 hb129 hw130
        have g130 : Fr Non w115.drew w130 := hw130 ▸ (Fr.refl Non _).alloc _
        have hN : Blk w130 b129 5 (bys [d.f]) := hb129 ▸ hw130 ▸ Blk.new _ _ _
        refine ⟨[d.f], hN.bytes rfl, by simp; omega, write_spec d hok.sg v (by omega) fun w132 f132 => ⟨f132.ext, _, rfl, by simp; omega, by simp; omega, by simp, ((Fr.refl Non w115).drew.trans' g130).trans' f132⟩⟩
      · refine write_spec d hok.sg v (by omega) fun w135 f135 => ⟨f135.ext, _, rfl, ?_⟩
        intro b138 w139 hb138 hw139
        have g139 : Fr Non w135 w139 := hw139 ▸ (Fr.refl Non _).alloc _
        have hN : Blk w139 b138 5 (bys [d.f]) := hb138 ▸ hw139 ▸ Blk.new _ _ _
        exact ⟨[d.f], hN.bytes rfl, by simp; omega, by simp; omega, by simp; omega, by simp, ((Fr.refl Non w115).drew.trans' f135).trans' g139⟩
  · have h0 : prE (mD d y) (cs ++ [g]) = 0 := by simpa using h
    obtain ⟨a, zf, o, ha, hF, hlt, hno, hzc, hzo, _, _⟩ := OwM.flds hy57 (i := cs.length) (by simp)
    have eg : ((cs ++ [g])[cs.length]'(by simp)) = g := by simp
    rw [eg] at hzo
    have hzl := Own.len hzo
    refine ⟨y, by rw [add_mk]; exact hC57.cell rfl, a, ha, ⟨by omega, by omega⟩, zf, hzc, fun h => ⟨Fr.refl Non w57, fun h => (by cases h)⟩, fun h => ⟨Fr.refl Non w57, fun _ => ⟨h0, ?_⟩⟩⟩
    have := of_decide_eq_false h; omega
end
end Go.Proofs.YtoaoofobidhfjaaGreatDoor
