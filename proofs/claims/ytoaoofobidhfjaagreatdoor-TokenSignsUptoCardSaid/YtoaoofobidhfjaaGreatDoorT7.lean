/- TokenSigns: a message printed with other signs is read with them as the same values. -/
import Derived.Test.YtoaoofobidhfjaaGreatDoorEI
import Derived.Test.YtoaoofobidhfjaaGreatDoorV27
import Derived.Test.YtoaoofobidhfjaaGreatDoorFI
set_option linter.unusedSimpArgs false
set_option linter.unusedVariables false
namespace Go.Proofs.YtoaoofobidhfjaaGreatDoor
open Go.V Go.RowKit
theorem fix_rd {w : World} {s0 s1 : Sl} {f0 f1 : Fldt} {x : Sl} {l : List Seg} {F : Nat → Prop} (h0 : RdL 1 RR w s0 f0) (h1 : RdL 1 RR w s1 f1)
    (h : Own 35 2 (fun j => if j = 0 then EGx (fun q => if q = 1 then EFix s1 f1 else if q = 0 then EFix s0 f0 else EF) else EG) w x l F) : RM w x l := by
  refine Own.rd h (by omega) fun i hi cs o a he hc => ?_
  by_cases e : i = 0
  · simp only [if_pos e] at he
    obtain ⟨y, rfl, hy⟩ := he
    refine ⟨hc 0 _ (by omega) rfl, y, hc 1 _ (by omega) rfl, Own.rd hy (by omega) fun q hq cs o a he hc => ?_⟩
    by_cases e1 : q = 1
    · simp only [if_pos e1] at he
      obtain ⟨rfl, e2⟩ := he
      rw [e2]
      exact ⟨s1, hc 0 _ (by omega) rfl, h1⟩
    · simp only [if_neg e1] at he
      by_cases e0 : q = 0
      · simp only [if_pos e0] at he
        obtain ⟨rfl, e2⟩ := he
        rw [e2]
        exact ⟨s0, hc 0 _ (by omega) rfl, h0⟩
      · simp only [if_neg e0] at he
        obtain ⟨z, rfl, hz⟩ := he
        exact ⟨z, hc 0 _ (by omega) rfl, OwF.rd hz⟩
  · simp only [if_neg e] at he
    obtain ⟨y, rfl, hy⟩ := he
    exact ⟨hc 0 _ (by omega) rfl, y, hc 1 _ (by omega) rfl, OwS.rd hy⟩
theorem msgD {w : World} {b : Nat} {d0 : Dm} {y : Sl} (h : Blk w b 26 (mc (mD d0 y))) (d : Dm) :
    mayCells w ⟨b, 0, none⟩ 0 5 ∧ ∀ w', w' = setCells w ⟨b, 0, none⟩ 0 (dvD d) → Blk w' b 26 (mc (mD d y)) ∧ Fr (fun g => g = b) w w' := by
  refine ⟨mayCells_of h 0 5 (by simp [mc]), ?_⟩
  rintro w' rfl
  obtain ⟨h1, h2, h3, h4, h5, h6⟩ := setCells_at (dvD d) _ 0 w h (by simp [mc, dvD])
  exact ⟨h1, h4, h5, h6, by omega, fun c _ hc => h3 c hc⟩
theorem OwM.uni {w : World} {x : Sl} {l : List Seg} {F : Nat → Prop} (h : Own 35 2 (fun j => if j = 0 then EGx (fun _ => EF) else EG) w x l F) : OwM w x l F := by
  have e : (fun j : Nat => if j = 0 then EGx (fun _ => EF) else EG) = (fun _ => EG) := by
    funext j; split <;> rfl
  rw [e] at h; exact h
theorem OwS.uni {w : World} {z : Sl} {fl : List Fldt} {F : Nat → Prop} {i : Nat} (h : Own 38 1 (fun j => if j = i then EF else EF) w z fl F) : OwS w z fl F := by
  have e : (fun j : Nat => if j = i then EF else EF) = (fun _ => EF) := by
    funext j; split <;> rfl
  rw [e] at h; exact h
section
variable {w : World} {k : Value → World → Prop}
set_option maxHeartbeats 8000000 in
theorem tsigns_spec (m : Mh) (d : Dm) (l : List Seg) (hR : RM w m.s l) (hb : bkM l ≤ 1048576) (hd : Dg m) (hG : GMax w) (hk : ∀ w', Fr Non w w' → k (.bool true) w') : Cl Tryz.prog 9 [.agg (List.toArray (mc m)), .agg (List.toArray (dvD d))] w k := by
  obtain ⟨d0, s, rfl⟩ : ∃ d s, m = mD d s := ⟨dmM m, m.s, (mD_dm hd).symm⟩
  refine f9_ok ?_
  unfold f9
  have hbB : bkM l ≤ BB := by unfold BB; omega
  have hS := SmM_of hbB
  intro b12 w13 hb12 hw13 b14 w15 hb14 hw15
  have f13 : Fr Non w w13 := hw13 ▸ (Fr.refl Non w).alloc _
  have f15 : Fr Non w13 w15 := hw15 ▸ (Fr.refl Non w13).alloc _
  have hM : Blk w15 b12 26 (mc (mD d0 s)) := (hb12 ▸ hw13 ▸ Blk.new w _ _ : Blk w13 b12 26 (mc (mD d0 s))).fr f15 (fun h => h)
  have hD : Blk w15 b14 23 (dvD d) := hb14 ▸ hw15 ▸ Blk.new w13 _ _
  have k15 := f13.trans' f15
  have hR15 := hR.fr k15
  have hG15 := hG.fr k15 (fun h => h)
  have dAt : ∀ {u}, Fr Non w15 u → cellsAt u ⟨b14, 0, none⟩ 0 (dvD d) := fun f => (hD.fr f (fun h => h)).ats (dvD d) 0 0 (fun q v hq => by simpa using hq)
  refine ⟨fun b w' => Fr Non w15 w' ∧ (b = false → validM (mD d0 s) l = true ∧ OkD d), ?_, _, _, _, _, _, s, msgAts hM, light_any (mD d0 s) l hR15 hS fun b w25 f25 => ⟨b, rfl, fun _ => ⟨f25, fun h => (by cases h)⟩, fun _ => ⟨_, _, _, _, _, s, msgAts (hM.fr f25 (fun h => h)), tvalid_spec (mD d0 s) l (hR15.fr f25) hS hd fun w34 f34 => ⟨_, rfl, fun _ => ⟨f25.trans' f34, fun h => (by cases h)⟩, fun hv => ⟨_, _, _, _, _, dAt (f25.trans' f34), dvalid_spec (mD d ⟨none, 0, 0⟩) fun w42 f42 => ⟨_, rfl, (f25.trans' f34).trans' f42, fun h => ⟨by simpa using hv, (validD_iff d).1 (by rw [← dvB_eq d ⟨none, 0, 0⟩]; simpa using h)⟩⟩⟩⟩⟩⟩⟩
  rintro b18 w18 ⟨f18, hq⟩
  refine ⟨fun _ => alive8_spec (hG15.fr f18 (fun h => h)) fun w22 f22 => ⟨_, rfl, hk _ ((k15.trans' f18).trans' f22)⟩, fun hb0 => ?_⟩
  obtain ⟨hv, hdk⟩ := hq hb0
  have hok := okM_of hd hv
  rw [dm_mD] at hok
  have hoks := hok.sgn hdk
  have hbs := bk_sgn hok d
  obtain ⟨name, r, gs, r0, gs0, hl, hsl, hcl, hcs⟩ := can_sgn hok d
  refine ⟨_, _, _, _, _, s, msgAts (hM.fr f18 (fun h => h)), tcopy_spec (mD d0 s) l (hR15.fr f18) hS fun z w54 hz f54 => ⟨_, _, _, _, _, z, rfl, ?_⟩⟩
  intro b62 w63 hb62 hw63
  obtain ⟨m1, n1⟩ := msgVar (mD d0 z) hb62 hw63
  refine ⟨m1, fun w64 hw64 => ?_⟩
  obtain ⟨hX, f64⟩ := n1 w64 hw64
  have hz64 := hz.fr (fun _ => EG.st) f64 (fun _ _ h => h)
  have hnz := Own.len hz
  have hll : 0 < l.length := by rw [hl]; simp
  have lb62 : b62 = w54.heap.size := hb62
  have k64 := f18.trans' (f54.trans' f64)
  have g0 : (l[0]'hll) = ⟨name, one1' [d0.f] :: one1' [d0.c, d0.r, d0.e, d0.s] :: r0⟩ := by simp [hl]
  have hcX : w64.cell? ((⟨b62, 0, none⟩ : Addr).add 5) = some (.slice z.base z.len z.cap) := by rw [add_mk]; exact hX.cell rfl
  refine ⟨fun b w' => b = false ∧ w' = w64, ?_, z, hcX, fun h => ?_, fun _ => ?_⟩
  · rintro b67 w67 ⟨rfl, rfl⟩
    refine ⟨fun h => (by cases h), fun _ => ⟨_, _, _, _, _, dAt k64, ?_⟩⟩
    obtain ⟨m2, n2⟩ := msgD hX d
    refine ⟨m2, fun w77 hw77 => ?_⟩
    obtain ⟨hX77, f77⟩ := n2 w77 hw77
    have g78 := (Fr.refl Non w77).drew
    have hz78 := (hz64.fr (fun _ => EG.st) f77 (fun b hb e => by omega)).fr (fun _ => EG.st) g78 (fun _ _ h => h)
    have hX78 := hX77.fr g78 (fun h => h)
    have s54 := f54.size
    have s18 := f18.size
    have s64 := f64.size
    have k78 : Fr Non w15 w77.drew := (upN k64 f77 (fun g hg => by omega)).trans' g78
    have hD78 := hD.fr k78 (fun h => h)
    rintro w78 rfl
    obtain ⟨a, zf, o, ha, hF, hlt, hno, hzc, hzo, hof, hset⟩ := OwM.inner hz78 (i := 0) hll
    rw [g0] at hzo hset
    have hzl := Own.len hzo
    simp only [List.length_cons] at hzl
    refine ⟨z, by rw [add_mk]; exact hX78.cell rfl, a, ha, ⟨by omega, by omega⟩, zf, hzc, _, hD78.cell (i := 0) rfl, ?_⟩
    intro b83 w84 hb83 hw84
    have f84 : Fr Non w77.drew w84 := hw84 ▸ (Fr.refl Non _).alloc _
    have hN84 : Blk w84 b83 5 (bys [d.f]) := hb83 ▸ hw84 ▸ Blk.new _ _ _
    refine ⟨[d.f], hN84.bytes rfl, ?_⟩
    intro b86 w87 hb86 hw87 b88 w89 hb88 hw89 b90 w91 hb90 hw91
    obtain ⟨hF1, f91⟩ := one_new [d.f] hb86 hw87 hb88 hw89 hb90 hw91
    obtain ⟨a1, hza1, ho1, hlt1, hfs1⟩ := fld_set (fun _ => EF.st) hzo (i := 0) (by simp)
    obtain ⟨q1, q2, q3, q4⟩ := hfs1 w91 (one1' [d.f]) ⟨some ⟨b90, 0, none⟩, 1, 1⟩ _ EF (f84.trans' f91) EF.st ⟨_, rfl, hF1⟩ (fun b hb => ⟨by have := hb.1; have := f84.size; omega, hb.2⟩)
    refine ⟨a1, hza1, ⟨by omega, by omega⟩, q1, q2, ?_⟩
    rintro w93 hw93 w94 hw94
    have q3' : OwS w93 zf (one1' [d.f] :: one1' [d0.c, d0.r, d0.e, d0.s] :: r0) (fun b => o b ∨ w77.drew.heap.size ≤ b) := by rw [hw93]; exact OwS.uni q3
    have q4' : Fr o w77.drew w93 := by rw [hw93]; exact q4
    have g94 : Fr Non w93 w94 := hw94 ▸ (Fr.refl Non w93).drew
    have q3'' := q3'.fr (fun _ => EF.st) g94 (fun _ _ h => h)
    have j94 : Fr o w77.drew w94 := q4'.trans' (g94.mono fun _ _ h => h.elim)
    have hnb : ¬ o b62 := fun h => by have := (hof _ h).1; omega
    have l14 := hD.lt
    have hnd : ¬ o b14 := fun h => by have := (hof _ h).1; omega
    have hX94 := hX78.fr j94 hnb
    have hD94 := hD78.fr j94 hnd
    have hzc94 := (exs_fr j94).cell (by rw [block_add, block_add]; exact hno) hzc
    refine ⟨z, by rw [add_mk]; exact hX94.cell rfl, a, ha, ⟨by omega, by omega⟩, zf, hzc94, _, by rw [add_mk]; exact hD94.cell (i := 1) rfl, _, by rw [add_mk]; exact hD94.cell (i := 2) rfl, _, by rw [add_mk]; exact hD94.cell (i := 3) rfl, _, by rw [add_mk]; exact hD94.cell (i := 4) rfl, ?_⟩
    intro b102 w103 hb102 hw103
    have f103 : Fr Non w94 w103 := hw103 ▸ (Fr.refl Non _).alloc _
    have hN103 : Blk w103 b102 5 (bys [d.c, d.r, d.e, d.s]) := hb102 ▸ hw103 ▸ Blk.new _ _ _
    refine ⟨[d.c, d.r, d.e, d.s], hN103.bytes rfl, ?_⟩
    intro b105 w106 hb105 hw106 b107 w108 hb107 hw108 b109 w110 hb109 hw110
    obtain ⟨hF2, f110⟩ := one_new [d.c, d.r, d.e, d.s] hb105 hw106 hb107 hw108 hb109 hw110
    obtain ⟨a2, hza2, ho2, hlt2, hfs2⟩ := fld_set (fun _ => EF.st) q3'' (i := 1) (by simp)
    obtain ⟨t1, t2, t3, t4⟩ := hfs2 w110 (one1' [d.c, d.r, d.e, d.s]) ⟨some ⟨b109, 0, none⟩, 1, 1⟩ _ EF (f103.trans' f110) EF.st ⟨_, rfl, hF2⟩ (fun b hb => ⟨by have := hb.1; have := f103.size; omega, hb.2⟩)
    refine ⟨a2, hza2, ⟨by omega, by omega⟩, t1, t2, ?_⟩
    intro w112 hw112
    have s94 := j94.size
    have t3' : OwS w112 zf (one1' [d.f] :: one1' [d.c, d.r, d.e, d.s] :: r0) (fun b => (o b ∨ w77.drew.heap.size ≤ b) ∨ w94.heap.size ≤ b) := by rw [hw112]; exact OwS.uni t3
    have t4' : Fr (fun b => o b ∨ w77.drew.heap.size ≤ b) w94 w112 := by rw [hw112]; exact t4
    have j112 : Fr o w77.drew w112 := j94.trans t4' fun b hb h => h.elim id (fun h => by omega)
    obtain ⟨u1, u2⟩ := hset w112 _ (fun _ => EF) _ j112 (fun _ => EF.st) t3'.tight (fun b hb => ⟨by rcases hb.1 with (h | h) | h; exact .inl h; exact .inr h; exact .inr (by omega), hb.2⟩)
    have el : l.set 0 ⟨name, one1' [d.f] :: one1' [d.c, d.r, d.e, d.s] :: r0⟩ = sgn d l := by rw [hsl, hl]; rfl
    rw [el] at u1
    have hRx := OwM.rd (OwM.uni u1)
    have hX112 := hX78.fr j112 hnb
    have k112 : Fr Non w15 w112 := upN k78 u2 (fun g hg => by have := hg.1; omega)
    have hbx : bkM (sgn d l) ≤ BB := by rw [hbs]; exact hbB
    have hvx : validM (mD d z) (sgn d l) = true := valid_of (Dg_mD _ _) (by rw [dm_mD]; exact hoks)
    refine ⟨_, _, _, _, _, z, msgAts hX112, tprint_spec (mD d z) (sgn d l) hRx hbx (Dg_mD d z) fun w119 f119 => ⟨_, _, rfl, fun h => ?_, fun h => ?_⟩⟩
    · have hp : prE (mD d z) (sgn d l) ≠ 0 := by intro e; rw [e] at h; simp at h
      refine alive8_spec (hG15.fr (k112.trans' f119) (fun h => h)) fun w123 f123 => ⟨_, rfl, fun _ => ?_, fun h => by cases h⟩
      rw [(prE_val hvx hp).1]; exact hk _ (k15.trans' ((k112.trans' f119).trans' f123))
    have hp : prE (mD d z) (sgn d l) = 0 := by simpa using h
    obtain ⟨p1, p2, p3⟩ := print_back (Dg_mD d z) hp
    rw [dm_mD] at p2
    have k119 := k112.trans' f119
    refine parse_u _ (hG15.fr k119 (fun h => h)) fun y w126 hy f126 => ⟨_, _, _, _, _, y, _, rfl, ?_⟩
    intro b135 w136 hb135 hw136
    obtain ⟨m3, n3⟩ := msgVar _ hb135 hw136
    refine ⟨m3, fun w137 hw137 => ?_⟩
    obtain ⟨hY, f137⟩ := n3 w137 hw137
    rw [p2] at hY
    rw [p3] at hy
    have hy137 := hy.fr (fun _ => EG.st) f137 (fun _ _ h => h)
    have hny := Own.len hy
    have hcll : 0 < (canM (sgn d l)).length := by rw [hcs]; simp
    have gc : ((canM (sgn d l))[0]'hcll) = ⟨name, one1' [d.f] :: one1' [d.c, d.r, d.e, d.s] :: r⟩ := by simp [hcs]
    have k137 := k119.trans' (f126.trans' f137)
    have hcY : w137.cell? ((⟨b135, 0, none⟩ : Addr).add 5) = some (.slice y.base y.len y.cap) := by rw [add_mk]; exact hY.cell rfl
    have lb135 : b135 = w126.heap.size := hb135
    have s126 := f126.size
    have s137 := f137.size
    refine ⟨fun b w' => b = false ∧ w' = w137, ?_, fun h => ?_, fun _ => ⟨_, _, _, _, _, ats5 hY, _, _, _, _, _, dAt k137, fun h => ?_, fun _ => ⟨y, hcY, fun h => ?_, fun _ => ?_⟩⟩⟩
    · rintro b140 w140 ⟨rfl, rfl⟩
      refine ⟨fun h => (by cases h), fun _ => ⟨_, _, _, _, _, ats5 (hM.fr k137 (fun h => h)), ?_⟩⟩
      obtain ⟨m4, n4⟩ := msgD hY d0
      refine ⟨m4, fun w160 hw160 => ?_⟩
      obtain ⟨hY160, f160⟩ := n4 w160 hw160
      rintro w161 hw161
      have g161 : Fr Non w160 w161 := hw161 ▸ (Fr.refl Non w160).drew
      have hy161 := (hy137.fr (fun _ => EG.st) f160 (fun b hb e => by omega)).fr (fun _ => EG.st) g161 (fun _ _ h => h)
      have hY161 := hY160.fr g161 (fun h => h)
      have s119 := k119.size
      have k161 : Fr Non w15 w161 := (upN k137 f160 (fun g hg => by omega)).trans' g161
      have hM161 := hM.fr k161 (fun h => h)
      have hR161 : RM w161 s l := hR15.fr k161
      obtain ⟨a3, yf, oy, ha3, hF3, hlt3, hno3, hyc, hyo, hofy, hsety⟩ := OwM.inner hy161 (i := 0) hcll
      rw [gc] at hyo hsety
      have hyl := Own.len hyo
      simp only [List.length_cons] at hyl
      have hns := hR161.1
      obtain ⟨a4, mf, ha4, hmc0, hmr⟩ := RM.seg hR15 (i := 0) hll
      rw [g0] at hmr
      have hml := hmr.1
      simp only [List.length_cons] at hml
      obtain ⟨a5, s0, ha5, hs00, hr0⟩ := RSeg.fld hmr (i := 0) (by simp)
      obtain ⟨a6, s1, ha6, hs10, hr1⟩ := RSeg.fld hmr (i := 1) (by simp)
      have hmc := (exs_fr k161).cell (fun h => h) hmc0
      have hs0 := (exs_fr k161).cell (fun h => h) hs00
      have hs1 := (exs_fr k161).cell (fun h => h) hs10
      have hcY161 : w161.cell? ((⟨b135, 0, none⟩ : Addr).add 5) = some (.slice y.base y.len y.cap) := by rw [add_mk]; exact hY161.cell rfl
      have hcM161 : w161.cell? ((⟨b12, 0, none⟩ : Addr).add 5) = some (.slice s.base s.len s.cap) := by rw [add_mk]; exact hM161.cell rfl
      obtain ⟨a7, hya, _, _, hfs3⟩ := fld_set (fun _ => EF.st) hyo (i := 0) (by simp)
      obtain ⟨v1, v2, v3, v4⟩ := hfs3 w161 (one1' [d0.f]) s0 (fun _ => False) (EFix s0 (one1' [d0.f])) (Fr.refl _ _) (EFix.st _ _) ⟨rfl, rfl⟩ (fun b hb => hb.elim)
      refine ⟨y, hcY161, a3, ha3, ⟨by omega, by omega⟩, yf, hyc, y, hcY161, a3, ha3, ⟨by omega, by omega⟩, yf, hyc, s, hcM161, a4, ha4, ⟨by omega, by omega⟩, mf, hmc, a5, ha5, ⟨by omega, by omega⟩, s0, hs0, s, hcM161, a4, ha4, ⟨by omega, by omega⟩, mf, hmc, a6, ha6, ⟨by omega, by omega⟩, s1, hs1, a7, hya, ⟨by omega, by omega⟩, v1, v2, ?_⟩
      intro w179 hw179
      have hst : ∀ i, ESt ((fun j => if j = 0 then EFix s0 (one1' [d0.f]) else EF) i) := fun i => by
        dsimp only; split
        · exact EFix.st _ _
        · exact EF.st
      obtain ⟨a8, hya8, _, _, hfs4⟩ := fld_set hst (w := w179) (fl := one1' [d0.f] :: one1' [d.c, d.r, d.e, d.s] :: r) (by rw [hw179]; exact v3) (i := 1) (by simp)
      obtain ⟨x1, x2, x3, x4⟩ := hfs4 w179 (one1' [d0.c, d0.r, d0.e, d0.s]) s1 (fun _ => False) (EFix s1 (one1' [d0.c, d0.r, d0.e, d0.s])) (Fr.refl _ _) (EFix.st _ _) ⟨rfl, rfl⟩ (fun b hb => hb.elim)
      refine ⟨a8, hya8, ⟨by omega, by omega⟩, x1, x2, ?_⟩
      intro w181 hw181 w182 hw182
      have v4' : Fr oy w161 w179 := by rw [hw179]; exact v4
      have s179 := v4'.size
      have x4' : Fr (fun b => oy b ∨ w161.heap.size ≤ b) w179 w181 := by rw [hw181]; exact x4
      have j181 : Fr oy w161 w181 := v4'.trans x4' fun b hb h => h.elim id (fun h => by omega)
      have hst2 : ∀ i, ESt ((fun j => if j = 1 then EFix s1 (one1' [d0.c, d0.r, d0.e, d0.s]) else if j = 0 then EFix s0 (one1' [d0.f]) else EF) i) := fun i => by
        dsimp only; split
        · exact EFix.st _ _
        · exact hst i
      have x3' : Own 38 1 (fun j => if j = 1 then EFix s1 (one1' [d0.c, d0.r, d0.e, d0.s]) else if j = 0 then EFix s0 (one1' [d0.f]) else EF) w181 yf (one1' [d0.f] :: one1' [d0.c, d0.r, d0.e, d0.s] :: r) (fun b => (oy b ∨ w161.heap.size ≤ b) ∨ w179.heap.size ≤ b) := by rw [hw181]; exact x3
      obtain ⟨y1, y2⟩ := hsety w181 _ _ _ j181 hst2 x3'.tight (fun b hb => ⟨by rcases hb.1 with (h | h) | h; exact .inl h; exact .inr h; exact .inr (by omega), hb.2⟩)
      have ec : (canM (sgn d l)).set 0 ⟨name, one1' [d0.f] :: one1' [d0.c, d0.r, d0.e, d0.s] :: r⟩ = canM l := by rw [hcs, hcl]; rfl
      rw [ec] at y1
      have g182 : Fr Non w181 w182 := hw182 ▸ (Fr.refl Non w181).drew
      have k182 : Fr Non w15 w182 := (upN k161 y2 (fun g hg => by have := hg.1; omega)).trans' g182
      refine alive8_spec (hG15.fr k182 (fun h => h)) fun w183 f183 => ⟨_, rfl, fun _ => ?_, fun h => by cases h⟩
      have k183 := k182.trans' f183
      have hst3 : ∀ i, ESt ((fun j => if j = 0 then EGx (fun j => if j = 1 then EFix s1 (one1' [d0.c, d0.r, d0.e, d0.s]) else if j = 0 then EFix s0 (one1' [d0.f]) else EF) else EG) i) := fun i => by
        dsimp only; split
        · exact EGx.st hst2
        · exact EG.st
      have y1' := y1.fr hst3 (g182.trans' f183) (fun _ _ h => h)
      have hRy : RM w183 y (canM l) := fix_rd (hr0.fr RR.stay k183) (hr1.fr RR.stay k183) y1'
      have hY183 := ((hY161.fr j181 (fun h => by have := (hofy _ h).1; omega)).fr g182 (fun h => h)).fr f183 (fun h => h)
      refine ⟨_, _, _, _, _, y, msgAts hY183, _, _, _, _, _, s, msgAts (hM.fr k183 (fun h => h)), canon_spec (mD d0 s) l (hR15.fr k183) hS fun y5 w198 hy5 f198 => ⟨f198.ext, _, _, _, _, _, y5, rfl, same_spec (mD d0 y) (mD d0 y5) (canM l) (canM l) (hRy.fr f198) (OwM.rd hy5) (SmM_can hS) fun w206 f206 => ⟨_, rfl, ?_⟩⟩⟩
      have e : (dlB (mD d0 y) (mD d0 y5) && decide (canM l = canM l)) = true := by rw [dlB_mD]; simp
      rw [e]; exact hk _ (k15.trans' ((k183.trans' f198).trans' f206))
    · rw [p1] at h; cases h
    · exfalso; simp [mD] at h
    · exfalso
      have : (y.len : Int) = 0 := by simpa using h
      omega
    · obtain ⟨a9, z9, ha9, hc9, hr9⟩ := RM.seg (OwM.rd hy137) (i := 0) hcll
      rw [gc] at hr9
      have h9 := hr9.1
      simp only [List.length_cons] at h9
      exact ⟨y, hcY, a9, ha9, ⟨by omega, by omega⟩, z9, hc9, decide_eq_false (by omega), rfl⟩
  · exfalso
    have : (z.len : Int) = 0 := by simpa using h
    omega
  · obtain ⟨a9, z9, ha9, hc9, hr9⟩ := RM.seg (OwM.rd hz64) (i := 0) hll
    rw [g0] at hr9
    have h9 := hr9.1
    simp only [List.length_cons] at h9
    exact ⟨z, hcX, a9, ha9, ⟨by omega, by omega⟩, z9, hc9, decide_eq_false (by omega), rfl⟩
end
end Go.Proofs.YtoaoofobidhfjaaGreatDoor
