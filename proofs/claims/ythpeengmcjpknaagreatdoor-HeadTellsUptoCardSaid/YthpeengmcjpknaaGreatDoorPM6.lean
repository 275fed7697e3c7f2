/- Whether two messages are alike, where they are; whether a lent one stayed. -/
import Derived.Test.YthpeengmcjpknaaGreatDoorPM5
set_option linter.unusedSimpArgs false
set_option linter.unusedVariables false
namespace Go.Proofs.YthpeengmcjpknaaGreatDoor
open Go.V Go.RowKit
section
variable {w : World}
theorem toC {cs : List Value} {c : Cmp} {o : Nat → Prop} {a : Addr} (h : EC w cs c o) (hc : ∀ k v, k < 1 → cs[k]? = some v → w.cell? (a.add k) = some v) : RC w a c := by
  obtain ⟨x, rfl, hx⟩ := h
  exact ⟨x, hc 0 _ (by omega) rfl, hx.rdStr⟩
theorem toR {cs : List Value} {c : Rept} {o : Nat → Prop} {a : Addr} (h : ER w cs c o) (hc : ∀ k v, k < 1 → cs[k]? = some v → w.cell? (a.add k) = some v) : RR w a c := by
  obtain ⟨x, rfl, hx⟩ := h
  exact ⟨x, hc 0 _ (by omega) rfl, OwR.rd hx⟩
theorem toF {cs : List Value} {c : Fldt} {o : Nat → Prop} {a : Addr} (h : EF w cs c o) (hc : ∀ k v, k < 1 → cs[k]? = some v → w.cell? (a.add k) = some v) : RF w a c := by
  obtain ⟨x, rfl, hx⟩ := h
  exact ⟨x, hc 0 _ (by omega) rfl, OwF.rd hx⟩
theorem toStr {cs : List Value} {c : Str} {o : Nat → Prop} {a : Addr} (h : EStr w cs c o) (hc : ∀ k v, k < 1 → cs[k]? = some v → w.cell? (a.add k) = some v) : RdStr w a c := by
  unfold EStr at h; subst h; exact hc 0 _ (by omega) rfl
theorem toLC {cs : List Value} {c : Cmp} {o : Nat → Prop} {a : Addr} (h : ELC w cs c o) (hc : ∀ k v, k < 1 → cs[k]? = some v → w.cell? (a.add k) = some v) : RLC w a c := by
  obtain ⟨x, rfl, hx⟩ := LentE.rd (R := RdStr) (M := fun w a => RdStr w a mrk) (by omega) h (fun _ _ _ _ h hc => toStr h hc) (fun _ _ _ h hc => toStr h hc)
  exact ⟨x, hc 0 _ (by omega) rfl, hx⟩
theorem toLR {cs : List Value} {c : Rept} {o : Nat → Prop} {a : Addr} (h : ELR w cs c o) (hc : ∀ k v, k < 1 → cs[k]? = some v → w.cell? (a.add k) = some v) : RLR w a c := by
  obtain ⟨x, rfl, hx⟩ := LentE.rd (R := RLC) (M := fun w a => RC w a [mrk]) (by omega) h (fun _ _ _ _ h hc => toLC h hc) (fun _ _ _ h hc => toC h hc)
  exact ⟨x, hc 0 _ (by omega) rfl, hx⟩
theorem toLF {cs : List Value} {c : Fldt} {o : Nat → Prop} {a : Addr} (h : ELF w cs c o) (hc : ∀ k v, k < 1 → cs[k]? = some v → w.cell? (a.add k) = some v) : RLF w a c := by
  obtain ⟨x, rfl, hx⟩ := LentE.rd (R := RLR) (M := fun w a => RR w a [[mrk]]) (by omega) h (fun _ _ _ _ h hc => toLR h hc) (fun _ _ _ h hc => toR h hc)
  exact ⟨x, hc 0 _ (by omega) rfl, hx⟩
theorem toLG {cs : List Value} {c : Seg} {o : Nat → Prop} {a : Addr} (h : ELG w cs c o) (hc : ∀ k v, k < 2 → cs[k]? = some v → w.cell? (a.add k) = some v) : RLG w a c := by
  obtain ⟨v, rfl, h⟩ := h
  obtain ⟨x, hv, hx⟩ := LentE.rd (R := RLF) (M := fun w a => RF w a [[[mrk]]]) (by omega) h (fun _ _ _ _ h hc => toLF h hc) (fun _ _ _ h hc => toF h hc)
  simp at hv; subst hv
  exact ⟨hc 0 _ (by omega) rfl, x, hc 1 _ (by omega) rfl, hx⟩
theorem toLM {y : Sl} {l : List Seg} {o : Nat → Prop} (h : ELM w [.slice y.base y.len y.cap] l o) : RLM w y l := by
  obtain ⟨x, hv, hx⟩ := LentE.rd (R := RLG) (M := fun w a => w.cell? a = some (.string (mkS mrk))) (by omega) h (fun _ _ _ _ h hc => toLG h hc) (fun cs o a h hc => by
    obtain ⟨v, rfl, _⟩ := h
    exact hc 0 _ (by omega) rfl)
  simp at hv
  have : y = x := by obtain ⟨a, b, c⟩ := y; obtain ⟨d, e, f⟩ := x; simp at hv; obtain ⟨rfl, rfl, rfl⟩ := hv; rfl
  rw [this]; exact hx
end
section
variable {w : World} {k : Value → World → Prop}
theorem sameTexts_true (x y : Sl) (c : Cmp) (hx : RdL 1 RdStr w x c) (hy : RdL 1 RdStr w y c) (hS : SmC c) (hk : ∀ w', Fr Non w w' → k (.bool true) w') : Cl Tryz.prog 229 [.slice x.base x.len x.cap, .slice y.base y.len y.cap] w k := by
  refine f229_ok ?_
  unfold f229
  have hL := hx.1
  have hL2 := hy.1
  have hS0 := hS.1
  unfold BB at hS0
  refine ⟨fun h => by rw [hL, hL2] at h; simp at h, fun _ => ⟨fun t i w' => ∃ j : Nat, i = j ∧ j ≤ c.length ∧ t = c.length - j ∧ Fr Non w w', ⟨c.length, 0, rfl, by omega, by omega, Fr.refl _ _⟩, ?_⟩⟩
  rintro t i w7 ⟨j, rfl, hj, rfl, f7⟩
  refine ⟨fun h => ?_, fun _ => hk _ f7⟩
  have hj : j < c.length := by have := of_decide_eq_true h; omega
  rintro w8 rfl
  have f8 : Fr Non w w7.drew := f7.drew
  obtain ⟨a, ha, hca⟩ := (hx.fr RdStr.stay f8).2 j hj
  obtain ⟨b, hb, hcb⟩ := (hy.fr RdStr.stay f8).2 j hj
  exact ⟨a, ha, ⟨by omega, by omega⟩, _, hca, b, hb, ⟨by omega, by omega⟩, _, hcb, fun h => by simp at h, fun _ => ⟨c.length - (j + 1), by omega, j + 1, by rw [w64_id (by omega) (by omega)]; push_cast; rfl, by omega, rfl, f8⟩⟩
theorem sameField_true (x y : Sl) (f : Fldt) (hx : RdL 1 RR w x f) (hy : RdL 1 RR w y f) (hS : SmF f) (hk : ∀ w', Fr Non w w' → k (.bool true) w') : Cl Tryz.prog 67 [.slice x.base x.len x.cap, .slice y.base y.len y.cap] w k := by
  refine f67_ok ?_
  unfold f67
  have hL := hx.1
  have hL2 := hy.1
  obtain ⟨hS0, hSR⟩ := hS
  unfold BB at hS0
  refine ⟨fun h => by rw [hL, hL2] at h; simp at h, fun _ => ⟨fun t i w' => ∃ j : Nat, i = j ∧ j ≤ f.length ∧ t = f.length - j ∧ Fr Non w w', ⟨f.length, 0, rfl, by omega, by omega, Fr.refl _ _⟩, ?_⟩⟩
  rintro t i w7 ⟨j, rfl, hj, rfl, f7⟩
  refine ⟨fun h => ?_, fun _ => hk _ f7⟩
  have hj : j < f.length := by have := of_decide_eq_true h; omega
  rintro w8 rfl
  have f8 : Fr Non w w7.drew := f7.drew
  obtain ⟨a, ha, z, hz, hZ⟩ := (hx.fr RR.stay f8).2 j hj
  obtain ⟨b, hb, v, hv, hV⟩ := (hy.fr RR.stay f8).2 j hj
  obtain ⟨hS1, hSC⟩ := hSR _ (List.getElem_mem hj)
  unfold BB at hS1
  generalize f[j] = rp at hZ hV hS1 hSC
  have hZL := hZ.1
  have hVL := hV.1
  have B1 : (0 : Int) ≤ (j : Int) ∧ (j : Int) < (x.len : Int) := ⟨by omega, by omega⟩
  have B2 : (0 : Int) ≤ (j : Int) ∧ (j : Int) < (y.len : Int) := ⟨by omega, by omega⟩
  refine ⟨a, ha, B1, z, hz, b, hb, B2, v, hv, fun h => by rw [hZL, hVL] at h; simp at h, fun _ => ⟨fun t i w' => ∃ q : Nat, i = q ∧ q ≤ rp.length ∧ t = rp.length - q ∧ Fr Non w7.drew w', ⟨rp.length, 0, rfl, by omega, by omega, Fr.refl _ _⟩, ?_⟩⟩
  rintro t i w17 ⟨q, rfl, hq, rfl, f17⟩
  have hz17 := f17.cell hz (fun h => h)
  refine ⟨a, ha, B1, z, hz17, fun h => ?_, fun _ => ⟨f.length - (j + 1), by omega, j + 1, by rw [w64_id (by omega) (by omega)]; push_cast; rfl, by omega, rfl, f8.trans' f17⟩⟩
  have hq : q < rp.length := by have := of_decide_eq_true h; omega
  rintro w20 rfl
  have f20 : Fr Non w7.drew w17.drew := f17.drew
  have hz20 := f20.cell hz (fun h => h)
  have hv20 := f20.cell hv (fun h => h)
  obtain ⟨a2, ha2, u, hu, hU⟩ := (hZ.fr RC.stay f20).2 q hq
  obtain ⟨b2, hb2, t2, ht, hT⟩ := (hV.fr RC.stay f20).2 q hq
  refine ⟨a, ha, B1, z, hz20, a2, ha2, ⟨by omega, by omega⟩, u, hu, b, hb, B2, v, hv20, b2, hb2, ⟨by omega, by omega⟩, t2, ht, ?_⟩
  exact sameTexts_true u t2 rp[q] hU hT (hSC _ (List.getElem_mem hq)) fun w29 f29 => ⟨_, rfl, fun h => by simp at h, fun _ => ⟨rp.length - (q + 1), by omega, q + 1, by rw [w64_id (by omega) (by omega)]; push_cast; rfl, by omega, rfl, f20.trans' f29⟩⟩
set_option maxHeartbeats 1000000 in
theorem same_true (m : Mh) (y : Sl) (l : List Seg) (hx : RM w m.s l) (hy : RM w y l) (hS : SmM l) (hk : ∀ w', Fr Non w w' → k (.bool true) w') : Cl Tryz.prog 16 [.agg (List.toArray (mc m)), .agg (List.toArray (mc { m with s := y }))] w k := by
  refine f16_ok ?_
  unfold f16
  intro b13 w14 hb13 hw14 b15 w16 hb15 hw16
  have f14 : Fr Non w w14 := hw14 ▸ (Fr.refl Non w).alloc _
  have f16 : Fr Non w w16 := hw16 ▸ f14.alloc _
  have hA14 : Blk w14 b13 26 (mc m) := hb13 ▸ hw14 ▸ Blk.new w (mc m) 26
  have hA : Blk w16 b13 26 (mc m) := hw16 ▸ hA14.alloc _
  have hB : Blk w16 b15 26 (mc { m with s := y }) := hb15 ▸ hw16 ▸ Blk.new w14 _ _
  have ca : ∀ {w' : World}, Fr Non w16 w' → w'.cell? ((⟨b13, 0, none⟩ : Addr).add 5) = some (.slice m.s.base m.s.len m.s.cap) := fun f => by rw [add_mk]; exact (hA.fr f (fun h => h)).cell rfl
  have cb : ∀ {w' : World}, Fr Non w16 w' → w'.cell? ((⟨b15, 0, none⟩ : Addr).add 5) = some (.slice y.base y.len y.cap) := fun f => by rw [add_mk]; exact (hB.fr f (fun h => h)).cell rfl
  have hL := hx.1
  have hL2 := hy.1
  obtain ⟨hS0, hSG⟩ := hS
  unfold BB at hS0
  refine ⟨fun v w' => v = false ∧ w' = w16, ?_, m.d1, m.d2, m.d3, m.d4, m.d5, ats5 hA, m.d1, m.d2, m.d3, m.d4, m.d5, ats5 (m := { m with s := y }) hB, fun h => by simp at h, fun _ => ⟨m.s, ca (Fr.refl _ _), y, cb (Fr.refl _ _), by rw [hL, hL2]; simp, rfl⟩⟩
  rintro v w19 ⟨rfl, rfl⟩
  refine ⟨fun h => (by cases h), fun _ => ⟨fun t i w' => ∃ j : Nat, i = j ∧ j ≤ l.length ∧ t = l.length - j ∧ Fr Non w19 w', ⟨l.length, 0, rfl, by omega, by omega, Fr.refl _ _⟩, ?_⟩⟩
  rintro t i w36 ⟨j, rfl, hj, rfl, f36⟩
  refine ⟨m.s, ca f36, fun h => ?_, fun _ => hk _ (f16.trans' f36)⟩
  have hj : j < l.length := by have := of_decide_eq_true h; omega
  have B1 : (0 : Int) ≤ (j : Int) ∧ (j : Int) < (m.s.len : Int) := ⟨by omega, by omega⟩
  have B2 : (0 : Int) ≤ (j : Int) ∧ (j : Int) < (y.len : Int) := ⟨by omega, by omega⟩
  obtain ⟨_, hS1, hSF⟩ := hSG _ (List.getElem_mem hj)
  unfold BB at hS1
  obtain ⟨a, ha, hna, x1, hx1, hX⟩ := (hx.fr (f16.trans' f36)).2 j hj
  obtain ⟨b, hb, hnb, y1, hy1, hY⟩ := (hy.fr (f16.trans' f36)).2 j hj
  generalize l[j] = g at hna hx1 hX hnb hy1 hY hS1 hSF
  have hXL := hX.1
  have hYL := hY.1
  refine ⟨fun v w' => v = false ∧ w' = w36.drew, ?_, ?_⟩
  · rintro v w40 ⟨rfl, rfl⟩
    have f40 : Fr Non w36 w36.drew := (Fr.refl Non w36).drew
    refine ⟨fun h => (by cases h), fun _ => ⟨fun t i w' => ∃ q : Nat, i = q ∧ q ≤ g.flds.length ∧ t = g.flds.length - q ∧ Fr Non w36 w', ⟨g.flds.length, 0, rfl, by omega, by omega, f40⟩, ?_⟩⟩
    rintro t i w58 ⟨q, rfl, hq, rfl, f58⟩
    refine ⟨m.s, ca (f36.trans' f58), a, ha, B1, x1, f58.cell hx1 (fun h => h), fun h => ?_, fun _ => ⟨l.length - (j + 1), by omega, j + 1, by rw [w64_id (by omega) (by omega)]; push_cast; rfl, by omega, rfl, f36.trans' f58⟩⟩
    have hq : q < g.flds.length := by have := of_decide_eq_true h; omega
    rintro w62 rfl
    have f62 : Fr Non w36 w58.drew := f58.drew
    obtain ⟨a2, ha2, u, hu, hU⟩ := (hX.fr RF.stay f62).2 q hq
    obtain ⟨b2, hb2, v, hv, hV⟩ := (hY.fr RF.stay f62).2 q hq
    refine ⟨m.s, ca (f36.trans' f62), a, ha, B1, x1, f62.cell hx1 (fun h => h), a2, ha2, ⟨by omega, by omega⟩, u, hu, y, cb (f36.trans' f62), b, hb, B2, y1, f62.cell hy1 (fun h => h), b2, hb2, ⟨by omega, by omega⟩, v, hv, ?_⟩
    exact sameField_true u v g.flds[q] hU hV (hSF _ (List.getElem_mem hq)) fun w73 f73 => ⟨_, rfl, fun h => by simp at h, fun _ => ⟨g.flds.length - (q + 1), by omega, q + 1, by rw [w64_id (by omega) (by omega)]; push_cast; rfl, by omega, rfl, f62.trans' f73⟩⟩
  · rintro w41 rfl
    have f41 : Fr Non w36 w36.drew := (Fr.refl Non w36).drew
    exact ⟨m.s, ca (f36.trans' f41), a, ha, B1, g.name, f41.cell hna (fun h => h), y, cb (f36.trans' f41), b, hb, B2, g.name, f41.cell hnb (fun h => h), fun h => by simp at h, fun _ => ⟨m.s, ca (f36.trans' f41), a, ha, B1, x1, f41.cell hx1 (fun h => h), y, cb (f36.trans' f41), b, hb, B2, y1, f41.cell hy1 (fun h => h), by rw [hXL, hYL]; simp, rfl⟩⟩
theorem slSp (s : Sl) (sz : Nat) (hc : s.len + 1 ≤ s.cap) (hm : s.len ≤ 4611686018427387904) : slS s sz (0 : Int) (IntKind.i64.wrap ((s.len : Int) + 1)) = ⟨s.base, s.len + 1, s.cap⟩ := by
  rw [w64_id (by omega) (by omega), show ((s.len : Int) + 1) = ((s.len + 1 : Nat) : Int) from by push_cast; rfl, slS0]
theorem behind {s : Sl} (hc : s.len + 1 ≤ s.cap) (hm : s.len ≤ 4611686018427387904) : (0 : Int) ≤ (0 : Int) ∧ (0 : Int) ≤ IntKind.i64.wrap ((s.len : Int) + 1) ∧ IntKind.i64.wrap ((s.len : Int) + 1) ≤ s.cap := by
  rw [w64_id (by omega) (by omega)]; omega
set_option maxHeartbeats 4000000 in
theorem stays_true (m : Mh) (y : Sl) (l : List Seg) (hx : RLM w m.s l) (hy : RM w y l) (hS : SmM l) (hk : ∀ w', Fr Non w w' → k (.bool true) w') : Cl Tryz.prog 17 [.agg (List.toArray (mc m)), .agg (List.toArray (mc { m with s := y }))] w k := by
  refine f17_ok ?_
  unfold f17
  intro b13 w14 hb13 hw14 b15 w16 hb15 hw16
  have f14 : Fr Non w w14 := hw14 ▸ (Fr.refl Non w).alloc _
  have f16 : Fr Non w w16 := hw16 ▸ f14.alloc _
  have hA14 : Blk w14 b13 26 (mc m) := hb13 ▸ hw14 ▸ Blk.new w (mc m) 26
  have hA : Blk w16 b13 26 (mc m) := hw16 ▸ hA14.alloc _
  have hB : Blk w16 b15 26 (mc { m with s := y }) := hb15 ▸ hw16 ▸ Blk.new w14 _ _
  have ca : ∀ {w' : World}, Fr Non w16 w' → w'.cell? ((⟨b13, 0, none⟩ : Addr).add 5) = some (.slice m.s.base m.s.len m.s.cap) := fun f => by rw [add_mk]; exact (hA.fr f (fun h => h)).cell rfl
  have hL := hx.1.1
  have hS' := hS
  obtain ⟨hS0, hSG⟩ := hS
  unfold BB at hS0
  refine ⟨fun v w' => v = false ∧ Fr Non w16 w', ?_, ?_⟩
  case refine_2 =>
    rintro w20 rfl
    have f20 : Fr Non w16 w16.drew := (Fr.refl Non w16).drew
    refine ⟨m.d1, m.d2, m.d3, m.d4, m.d5, m.s, (hA.fr f20 (fun h => h)).ats (mc m) 0 0 (fun q v hq => by simpa using hq), m.d1, m.d2, m.d3, m.d4, m.d5, y, (hB.fr f20 (fun h => h)).ats (mc { m with s := y }) 0 0 (fun q v hq => by simpa using hq), ?_⟩
    refine same_true m y l (hx.c.fr (f16.trans' f20)) (hy.fr (f16.trans' f20)) hS' fun w33 f33 => ⟨_, rfl, fun h => (by cases h), fun _ => ?_⟩
    have g33 := f20.trans' f33
    obtain ⟨_, hcap, a, ha, hmk⟩ := hx.fr (f16.trans' g33)
    refine ⟨m.s, ca g33, m.s, ca g33, behind hcap (by omega), m.s, ca g33, a, ?_, ⟨by omega, ?_⟩, mrk, ?_, ?_, g33⟩
    · rw [slSp _ _ hcap (by omega)]; exact ha
    · rw [slSp _ _ hcap (by omega)]; simp only; omega
    · rw [hL]; exact hmk
    · rfl
  rintro v w19 ⟨rfl, f19⟩
  refine ⟨fun h => (by cases h), fun _ => ⟨fun t i w' => ∃ j : Nat, i = j ∧ j ≤ l.length ∧ t = l.length - j ∧ Fr Non w16 w', ⟨l.length, 0, rfl, by omega, by omega, f19⟩, ?_⟩⟩
  rintro t i w45 ⟨j, rfl, hj, rfl, f45⟩
  refine ⟨m.s, ca f45, fun h => ?_, fun _ => hk _ (f16.trans' f45)⟩
  have hj : j < l.length := by have := of_decide_eq_true h; omega
  have B1 : (0 : Int) ≤ (j : Int) ∧ (j : Int) < (m.s.len : Int) := ⟨by omega, by omega⟩
  obtain ⟨_, hS1, hSF⟩ := hSG _ (List.getElem_mem hj)
  unfold BB at hS1
  obtain ⟨a, ha, hn, x, hc, hX⟩ := (hx.fr (f16.trans' f45)).1.2 j hj
  generalize l[j] = g at hn hc hX hS1 hSF
  have hXL := hX.1.1
  obtain ⟨_, hcap, a2, ha2, m1, hm1, hM1⟩ := hX
  have hXX : LRd 1 RLF (fun w a => RF w a [[[mrk]]]) w45 x g.flds := ⟨‹_›, hcap, a2, ha2, m1, hm1, hM1⟩
  obtain ⟨a3, ha3, B3, m2, hm2, hM2⟩ := at0 hM1
  obtain ⟨a4, ha4, B4, m3, hm3, hM3⟩ := at0 hM2
  obtain ⟨a5, ha5, B5, hm4⟩ := at0 hM3
  refine ⟨m.s, ca f45, a, ha, B1, x, hc, behind hcap (by omega), a2, by rw [slSp _ _ hcap (by omega)]; exact ha2, ⟨by omega, by rw [slSp _ _ hcap (by omega)]; simp only; omega⟩, m1, by rw [hXL]; exact hm1, a3, ha3, B3, m2, hm2, a4, ha4, B4, m3, hm3, a5, ha5, B5, mrk, hm4, fun h => (by cases h), fun _ => ?_⟩
  refine ⟨fun t i w' => ∃ q : Nat, i = q ∧ q ≤ g.flds.length ∧ t = g.flds.length - q ∧ Fr Non w45 w', ⟨g.flds.length, 0, rfl, by omega, by omega, Fr.refl _ _⟩, ?_⟩
  rintro t i w62 ⟨q, rfl, hq, rfl, f62⟩
  refine ⟨fun h => ?_, fun _ => ⟨l.length - (j + 1), by omega, j + 1, by rw [w64_id (by omega) (by omega)]; push_cast; rfl, by omega, rfl, f45.trans' f62⟩⟩
  have hq : q < g.flds.length := by have := of_decide_eq_true h; omega
  rintro w63 rfl
  have f63 : Fr Non w45 w62.drew := f62.drew
  have B2 : (0 : Int) ≤ (q : Int) ∧ (q : Int) < (x.len : Int) := ⟨by omega, by omega⟩
  obtain ⟨b, hb, z, hz, hZ⟩ := (LRd.fr (M := fun w a => RF w a [[[mrk]]]) RLF.stay (fun _ _ _ f h => RF.stay _ _ _ _ f h) hXX f63).1.2 q hq
  obtain ⟨hS2, hSR⟩ := hSF _ (List.getElem_mem hq)
  unfold BB at hS2
  generalize g.flds[q] = fd at hZ hS2 hSR
  have hZL := hZ.1.1
  have hZZ := hZ
  obtain ⟨_, hcap2, c2, hc2, m1, hm1, hM1⟩ := hZ
  obtain ⟨c3, hc3, C3, m2, hm2, hM2⟩ := at0 hM1
  obtain ⟨c4, hc4, C4, hm3⟩ := at0 hM2
  refine ⟨b, hb, B2, z, hz, b, hb, B2, z, hz, behind hcap2 (by omega), b, hb, B2, z, hz, c2, by rw [slSp _ _ hcap2 (by omega)]; exact hc2, ⟨by omega, by rw [slSp _ _ hcap2 (by omega)]; simp only; omega⟩, m1, by rw [hZL]; exact hm1, c3, hc3, C3, m2, hm2, c4, hc4, C4, mrk, hm3, fun h => (by cases h), fun _ => ?_⟩
  refine ⟨fun t i w' => ∃ r : Nat, i = r ∧ r ≤ fd.length ∧ t = fd.length - r ∧ Fr Non w62.drew w', ⟨fd.length, 0, rfl, by omega, by omega, Fr.refl _ _⟩, ?_⟩
  rintro t i w80 ⟨r, rfl, hr, rfl, f80⟩
  refine ⟨b, hb, B2, z, f80.cell hz (fun h => h), fun h => ?_, fun _ => ⟨g.flds.length - (q + 1), by omega, q + 1, by rw [w64_id (by omega) (by omega)]; push_cast; rfl, by omega, rfl, f63.trans' f80⟩⟩
  have hr : r < fd.length := by have := of_decide_eq_true h; omega
  rintro w83 rfl
  have f83 : Fr Non w62.drew w80.drew := f80.drew
  have C1 : (0 : Int) ≤ (r : Int) ∧ (r : Int) < (z.len : Int) := ⟨by omega, by omega⟩
  have hz83 := f83.cell hz (fun h => h)
  obtain ⟨d, hd, u, hu, hU⟩ := (LRd.fr (M := fun w a => RR w a [[mrk]]) RLR.stay (fun _ _ _ f h => RR.stay _ _ _ _ f h) hZZ f83).1.2 r hr
  obtain ⟨hS3, hSC⟩ := hSR _ (List.getElem_mem hr)
  unfold BB at hS3
  generalize fd[r] = rp at hU hS3 hSC
  have hUL := hU.1.1
  have hUU := hU
  obtain ⟨_, hcap3, d2, hd2, m1, hm1, hM1⟩ := hU
  obtain ⟨d3, hd3, D3, hm2⟩ := at0 hM1
  refine ⟨b, hb, B2, z, hz83, d, hd, C1, u, hu, b, hb, B2, z, hz83, d, hd, C1, u, hu, behind hcap3 (by omega), b, hb, B2, z, hz83, d, hd, C1, u, hu, d2, by rw [slSp _ _ hcap3 (by omega)]; exact hd2, ⟨by omega, by rw [slSp _ _ hcap3 (by omega)]; simp only; omega⟩, m1, by rw [hUL]; exact hm1, d3, hd3, D3, mrk, hm2, fun h => (by cases h), fun _ => ?_⟩
  refine ⟨fun t i w' => ∃ c : Nat, i = c ∧ c ≤ rp.length ∧ t = rp.length - c ∧ Fr Non w80.drew w', ⟨rp.length, 0, rfl, by omega, by omega, Fr.refl _ _⟩, ?_⟩
  rintro t i w104 ⟨c, rfl, hc0, rfl, f104⟩
  have g104 := f83.trans' f104
  have hz104 := g104.cell hz (fun h => h)
  have hu104 := f104.cell hu (fun h => h)
  refine ⟨b, hb, B2, z, hz104, d, hd, C1, u, hu104, fun h => ?_, fun _ => ⟨fd.length - (r + 1), by omega, r + 1, by rw [w64_id (by omega) (by omega)]; push_cast; rfl, by omega, rfl, g104⟩⟩
  have hc0 : c < rp.length := by have := of_decide_eq_true h; omega
  have D1 : (0 : Int) ≤ (c : Int) ∧ (c : Int) < (u.len : Int) := ⟨by omega, by omega⟩
  obtain ⟨e, he, v, hv, hV⟩ := (LRd.fr (M := fun w a => RC w a [mrk]) RLC.stay (fun _ _ _ f h => RC.stay _ _ _ _ f h) hUU f104).1.2 c hc0
  obtain ⟨hS4, _⟩ := hSC _ (List.getElem_mem hc0)
  unfold BB at hS4
  generalize rp[c] = cm at hV hS4
  have hVL := hV.1.1
  obtain ⟨_, hcap4, e2, he2, hm1⟩ := hV
  refine ⟨b, hb, B2, z, hz104, d, hd, C1, u, hu104, e, he, D1, v, hv, behind hcap4 (by omega), e2, by rw [slSp _ _ hcap4 (by omega)]; exact he2, ⟨by omega, by rw [slSp _ _ hcap4 (by omega)]; simp only; omega⟩, mrk, by rw [hVL]; exact hm1, fun h => (by cases h), fun _ => ?_⟩
  exact ⟨rp.length - (c + 1), by omega, c + 1, by rw [w64_id (by omega) (by omega)]; push_cast; rfl, by omega, rfl, f104⟩
end
end Go.Proofs.YthpeengmcjpknaaGreatDoor
