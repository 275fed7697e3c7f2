/- Copies of messages. -/
import Derived.Test.YthpeengmcjpknaaGreatDoorPM4
set_option linter.unusedSimpArgs false
set_option linter.unusedVariables false
namespace Go.Proofs.YthpeengmcjpknaaGreatDoor
open Go.V Go.RowKit
section
variable {w : World} {k : Value → World → Prop}
set_option maxHeartbeats 1000000 in
theorem copyField_spec (x : Sl) (f : Fldt) (hx : RdL 1 RR w x f) (hS : SmF f) (hk : ∀ y w', OwF w' y f (fun b => w.heap.size ≤ b) → Fr Non w w' → k (.slice y.base y.len y.cap) w') : Cl Tryz.prog 212 [.slice x.base x.len x.cap] w k := by
  refine f212_ok ?_
  unfold f212
  have hL := hx.1
  obtain ⟨hS0, hSR⟩ := hS
  unfold BB at hS0
  refine ⟨fun t out r w' => ∃ j : Nat, r = j ∧ j ≤ f.length ∧ t = f.length - j ∧ OwF w' out (f.take j) (fun b => w.heap.size ≤ b) ∧ Fr Non w w', ⟨f.length, 0, rfl, by omega, by omega, by simpa using Own.nil _ _ _ _ _, Fr.refl _ _⟩, ?_⟩
  rintro t out r w7 ⟨j, rfl, hj, rfl, ho, f7⟩
  refine ⟨fun h => ?_, fun h => ?_⟩
  · have hj : j < f.length := by have := of_decide_eq_true h; omega
    obtain ⟨a, ha, z, hz, hZ⟩ := (hx.fr RR.stay f7).2 j hj
    obtain ⟨hS1, hSC⟩ := hSR _ (List.getElem_mem hj)
    unfold BB at hS1
    have hts := take_snoc hj
    generalize hrp : f[j] = rp at hZ hS1 hSC hts
    have hZL := hZ.1
    have B1 : (0 : Int) ≤ (j : Int) ∧ (j : Int) < (x.len : Int) := ⟨by omega, by omega⟩
    refine ⟨fun t rep c w' => ∃ q : Nat, c = q ∧ q ≤ rp.length ∧ t = rp.length - q ∧ OwR w' rep (rp.take q) (fun b => w7.heap.size ≤ b) ∧ Fr Non w7 w', ⟨rp.length, 0, rfl, by omega, by omega, by simpa using Own.nil _ _ _ _ _, Fr.refl _ _⟩, ?_⟩
    rintro t rep c w13 ⟨q, rfl, hq, rfl, hrep, f13⟩
    have hz13 := f13.cell hz (fun h => h)
    have hZ13 := hZ.fr RC.stay f13
    refine ⟨a, ha, B1, z, hz13, fun h => ?_, fun h => ?_⟩
    · have hq : q < rp.length := by have := of_decide_eq_true h; omega
      obtain ⟨a2, ha2, u, hu, hU⟩ := hZ13.2 q hq
      obtain ⟨hS2, _⟩ := hSC _ (List.getElem_mem hq)
      unfold BB at hS2
      refine ⟨a, ha, B1, z, hz13, a2, ha2, ⟨by omega, by omega⟩, u, hu, ?_⟩
      obtain ⟨s1, w1, hr1, ho1, hf1⟩ := copyStr (P := Tryz.prog) kU66 kS9 kZ9 kB9 hU (by omega) (by omega) 80
      refine ⟨s1, w1, hr1, ?_⟩
      intro b22 w23 hb22 hw23
      have f23 : Fr Non w1 w23 := hw23 ▸ (Fr.refl Non w1).alloc _
      have hB : Blk w23 b22 80 [.slice s1.base s1.len s1.cap] := hb22 ▸ hw23 ▸ Blk.new w1 _ _
      have h23 := hrep.tight.fr (fun _ => EC.st) (hf1.trans' f23) (fun _ _ h => h)
      have o23 := ho1.fr (fun _ => EStr.st) f23 (fun _ _ h => h)
      have z1 := f23.size
      obtain ⟨s2, w2, hr2, ho2, hf2⟩ := h23.push (P := Tryz.prog) kU65 kS66 kZ66 kB66 rfl (by omega) (fun _ => EC.st) (x := rp[q]) (cx := [.slice s1.base s1.len s1.cap]) ⟨s1, rfl, o23⟩ rfl (by intro v hv; simp at hv; subst hv; rfl) (fun b hb => ⟨by omega, by omega⟩) (a := ⟨b22, 0, none⟩) (c := 1) (cell1 hB) (by simp only [List.length_take]; omega) (by simp only [List.length_take]; omega) 38
      refine ⟨s2, w2, hr2, rp.length - (q + 1), by omega, q + 1, by rw [w64_id (by omega) (by omega)]; push_cast; rfl, by omega, rfl, ?_, ?_⟩
      · rw [take_snoc hq]
        have z13 := f13.size
        have zf := hf1.size
        exact ho2.mono fun b hb => by omega
      · exact upN (f13.trans' (hf1.trans' f23)) hf2 (fun g hg => hg.1)
    · have hq : q = rp.length := by have := of_decide_eq_false h; omega
      subst hq
      rw [List.take_length] at hrep
      intro b26 w27 hb26 hw27
      have f27 : Fr Non w13 w27 := hw27 ▸ (Fr.refl Non w13).alloc _
      have hB : Blk w27 b26 38 [.slice rep.base rep.len rep.cap] := hb26 ▸ hw27 ▸ Blk.new w13 _ _
      have h27 := ho.tight.fr (fun _ => ER.st) (f13.trans' f27) (fun _ _ h => h)
      have o27 := hrep.tight.fr (fun _ => EC.st) f27 (fun _ _ h => h)
      have z1 := f27.size
      have z2 := f13.size
      have z3 := f7.size
      obtain ⟨s2, w2, hr2, ho2, hf2⟩ := h27.push (P := Tryz.prog) kU64 kS65 kZ65 kB65 rfl (by omega) (fun _ => ER.st) (x := rp) (cx := [.slice rep.base rep.len rep.cap]) ⟨rep, rfl, o27⟩ rfl (by intro v hv; simp at hv; subst hv; rfl) (fun b hb => ⟨by omega, by omega⟩) (a := ⟨b26, 0, none⟩) (c := 1) (cell1 hB) (by simp only [List.length_take]; omega) (by simp only [List.length_take]; omega) 44
      refine ⟨s2, w2, hr2, f.length - (j + 1), by omega, j + 1, by rw [w64_id (by omega) (by omega)]; push_cast; rfl, by omega, rfl, ?_, ?_⟩
      · rw [hts]; exact ho2.mono fun b hb => by omega
      · exact upN (f7.trans' (f13.trans' f27)) hf2 (fun g hg => hg.1)
  · have hj : j = f.length := by have := of_decide_eq_false h; omega
    subst hj
    rw [List.take_length] at ho
    exact hk _ _ ho f7
set_option maxHeartbeats 2000000 in
theorem copy_spec (m : Mh) (l : List Seg) (hR : RM w m.s l) (hS : SmM l) (hk : ∀ y w', OwM w' y l (fun b => w.heap.size ≤ b) → Fr Non w w' → k (.agg (List.toArray (mc { m with s := y }))) w') : Cl Tryz.prog 53 [.agg (List.toArray (mc m))] w k := by
  refine f53_ok ?_
  unfold f53
  intro b7 w8 hb7 hw8 b9 w10 hb9 hw10
  have f8 : Fr Non w w8 := hw8 ▸ (Fr.refl Non w).alloc _
  have f10 : Fr Non w w10 := hw10 ▸ f8.alloc _
  have hM8 : Blk w8 b7 26 (mc m) := hb7 ▸ hw8 ▸ Blk.new w (mc m) 26
  have hM10 : Blk w10 b7 26 (mc m) := hw10 ▸ hM8.alloc _
  have hZ10 : Blk w10 b9 26 (mc ⟨0, 0, 0, 0, 0, ⟨none, 0, 0⟩⟩) := hb9 ▸ hw10 ▸ Blk.new w8 _ _
  have z7 : w.heap.size = b7 := hb7.symm
  have l7 := hM8.lt
  have l9 := hZ10.lt
  refine ⟨m.d1, m.d2, m.d3, m.d4, m.d5, hM10.ats [.int .u8 m.d1, .int .u8 m.d2, .int .u8 m.d3, .int .u8 m.d4, .int .u8 m.d5] 0 0 (fun q v hq => ?_), ?_⟩
  · have : q < 5 := by have := (List.getElem?_eq_some_iff.1 hq).1; simpa using this
    have h5 : q = 0 ∨ q = 1 ∨ q = 2 ∨ q = 3 ∨ q = 4 := by omega
    rcases h5 with rfl | rfl | rfl | rfl | rfl <;> exact hq
  intro b16 w17 hb16 hw17
  have f17 : Fr Non w w17 := hw17 ▸ f10.alloc _
  have hO17 : Blk w17 b16 26 (mc ⟨0, 0, 0, 0, 0, ⟨none, 0, 0⟩⟩) := hb16 ▸ hw17 ▸ Blk.new w10 _ _
  have l16 := hO17.lt
  have hM17 : Blk w17 b7 26 (mc m) := hw17 ▸ hM10.alloc _
  have hZ17 : Blk w17 b9 26 (mc ⟨0, 0, 0, 0, 0, ⟨none, 0, 0⟩⟩) := hw17 ▸ hZ10.alloc _
  refine ⟨mayCells_of hO17 0 6 (by simp [mc]), ?_⟩
  intro w18 hw18
  have g18 : Fr (fun g => g = b16) w17 w18 := hw18 ▸ (Fr.refl (fun g => g = b16) w17).setAll hO17 (vs := mc { m with s := ⟨none, 0, 0⟩ }) rfl (fun _ => rfl)
  have hO18 : Blk w18 b16 26 (mc { m with s := ⟨none, 0, 0⟩ }) := hw18 ▸ hO17.setAll rfl
  have hM18 : Blk w18 b7 26 (mc m) := hM17.fr g18 (by omega)
  have hZ18 : Blk w18 b9 26 (mc ⟨0, 0, 0, 0, 0, ⟨none, 0, 0⟩⟩) := hZ17.fr g18 (by omega)
  have f18 : Fr Non w w18 := upN f17 g18 (fun g hg => by omega)
  have s18 := g18.size
  have hL := hR.1
  obtain ⟨hS0, hSG⟩ := hS
  unfold BB at hS0
  -- the message's copy so far
  refine ⟨fun t i w' => ∃ (j : Nat) (y : Sl), i = j ∧ j ≤ l.length ∧ t = l.length - j ∧ OwM w' y (l.take j) (fun b => w18.heap.size ≤ b) ∧ Blk w' b16 26 (mc { m with s := y }) ∧ Blk w' b7 26 (mc m) ∧ Blk w' b9 26 (mc ⟨0, 0, 0, 0, 0, ⟨none, 0, 0⟩⟩) ∧ Fr Non w w' ∧ w18.heap.size ≤ w'.heap.size,
    ⟨l.length, 0, ⟨none, 0, 0⟩, rfl, by omega, by omega, by simpa using Own.nil _ _ _ _ _, hO18, hM18, hZ18, f18, Nat.le_refl _⟩, ?_⟩
  rintro t i w23 ⟨j, y, rfl, hj, rfl, ho, hO, hM, hZ, f23, s23⟩
  have hmc : ∀ {w' : World}, Blk w' b7 26 (mc m) → w'.cell? ((⟨b7, 0, none⟩ : Addr).add 5) = some (.slice m.s.base m.s.len m.s.cap) := fun h => by rw [add_mk]; exact h.cell rfl
  refine ⟨m.s, hmc hM, fun h => ?_, fun h => ?_⟩
  · have hj : j < l.length := by have := of_decide_eq_true h; omega
    obtain ⟨a, ha, hn, x, hx, hX⟩ := (hR.fr f23).2 j hj
    obtain ⟨_, hS1, hSF⟩ := hSG _ (List.getElem_mem hj)
    unfold BB at hS1
    have hts := take_snoc hj
    generalize hg : l[j] = g at hn hx hX hS1 hSF hts
    have hXL := hX.1
    have B1 : (0 : Int) ≤ (j : Int) ∧ (j : Int) < (m.s.len : Int) := ⟨by omega, by omega⟩
    refine ⟨m.s, hmc hM, a, ha, B1, g.name, hn, ?_⟩
    intro b28 w29 hb28 hw29
    have f29 : Fr Non w23 w29 := hw29 ▸ (Fr.refl Non w23).alloc _
    have hG29 : Blk w29 b28 79 [.string (mkS []), .slice none 0 0] := hb28 ▸ hw29 ▸ Blk.new w23 _ _
    refine ⟨mayCells_of hG29 0 2 (by simp), ?_⟩
    intro w30 hw30
    have l28 := hG29.lt
    have g30 : Fr Non w23 w30 := upN f29 (hw30 ▸ (Fr.refl (fun g => g = b28) w29).setAll hG29 (vs := [.string (mkS g.name), .slice none 0 0]) rfl (fun _ => rfl)) (fun g hg => by omega)
    have hG30 : Blk w30 b28 79 [.string (mkS g.name), .slice none 0 0] := hw30 ▸ hG29.setAll rfl
    have l28' := hG30.lt
    have s30 := g30.size
    refine ⟨fun t i w' => ∃ (q : Nat) (v : Sl), i = q ∧ q ≤ g.flds.length ∧ t = g.flds.length - q ∧ OwS w' v (g.flds.take q) (fun b => w30.heap.size ≤ b) ∧ Blk w' b28 79 [.string (mkS g.name), .slice v.base v.len v.cap] ∧ Fr Non w23 w' ∧ w30.heap.size ≤ w'.heap.size,
      ⟨g.flds.length, 0, ⟨none, 0, 0⟩, rfl, by omega, by omega, by simpa using Own.nil _ _ _ _ _, hG30, g30, Nat.le_refl _⟩, ?_⟩
    rintro t i w35 ⟨q, v, rfl, hq, rfl, hv, hG, f35, s35⟩
    have hM35 := hM.fr f35 (fun h => h)
    have hx35 := f35.cell hx (fun h => h)
    have hX35 := hX.fr RF.stay f35
    refine ⟨m.s, hmc hM35, a, ha, B1, x, hx35, fun h => ?_, fun h => ?_⟩
    · have hq : q < g.flds.length := by have := of_decide_eq_true h; omega
      obtain ⟨a2, ha2, u, hu, hU⟩ := hX35.2 q hq
      rintro w39 rfl
      have f39 : Fr Non w35 w35.drew := (Fr.refl Non w35).drew
      refine ⟨v, by rw [add_mk]; exact hG.cell rfl, m.s, hmc hM35, a, ha, B1, x, hx35, a2, ha2, ⟨by omega, by omega⟩, u, hu, ?_⟩
      refine copyField_spec u g.flds[q] (hU.fr RR.stay f39) (hSF _ (List.getElem_mem hq)) fun y2 w46 ho2 f46 => ⟨f46.ext, y2, rfl, ?_⟩
      intro b49 w50 hb49 hw50
      have f50 : Fr Non w46 w50 := hw50 ▸ (Fr.refl Non w46).alloc _
      have hB : Blk w50 b49 44 [.slice y2.base y2.len y2.cap] := hb49 ▸ hw50 ▸ Blk.new w46 _ _
      have h50 := hv.tight.fr (fun _ => EF.st) (f39.trans' (f46.trans' f50)) (fun _ _ h => h)
      have o50 := ho2.tight.fr (fun _ => ER.st) f50 (fun _ _ h => h)
      have z1 := f50.size
      have z2 : w35.heap.size ≤ w46.heap.size := f46.size
      have hdw : w35.drew.heap.size = w35.heap.size := rfl
      rw [hdw] at o50
      obtain ⟨s2, w2, hr2, ho3, hf2⟩ := h50.push (P := Tryz.prog) kU47 kS64 kZ64 kB64 rfl (by omega) (fun _ => EF.st) (x := g.flds[q]) (cx := [.slice y2.base y2.len y2.cap]) ⟨y2, rfl, o50⟩ rfl (by intro v hv; simp at hv; subst hv; rfl) (fun b hb => ⟨by omega, by omega⟩) (a := ⟨b49, 0, none⟩) (c := 1) (cell1 hB) (by simp only [List.length_take]; omega) (by simp only [List.length_take]; omega) 45
      have hG2 : Blk w2 b28 79 [.string (mkS g.name), .slice v.base v.len v.cap] := (((hG.fr f39 (fun h => h)).fr f46 (fun h => h)).fr f50 (fun h => h)).fr hf2 (fun h => by omega)
      refine ⟨s2, w2, hr2, by rw [add_mk]; exact hG2.isS (by simp), by rw [add_mk]; exact hG2.free _, ?_⟩
      rintro w53 rfl
      have f2 : Fr Non w23 w2 := upN (f35.trans' (f39.trans' (f46.trans' f50))) hf2 (fun g hg => by omega)
      have z3 := f2.size
      have z4 := hf2.size
      rw [add_mk]
      refine ⟨g.flds.length - (q + 1), by omega, q + 1, s2, by rw [w64_id (by omega) (by omega)]; push_cast; rfl, by omega, rfl, ?_, hG2.set 1 _, f2.set (a := ⟨b28, 0 + 1, none⟩) (fun h => by simp only at h; omega) _, by simp [World.setCell]; omega⟩
      rw [take_snoc hq]
      have hh : Fr (fun b => b = b28) w2 (w2.setCell ⟨b28, 0 + 1, none⟩ (.slice s2.base s2.len s2.cap)) := (Fr.refl (fun b => b = b28) w2).set (a := ⟨b28, 0 + 1, none⟩) (fun _ => rfl) _
      refine (ho3.mono (F' := fun b => w30.heap.size ≤ b) fun b hb => by omega).fr (fun _ => EF.st) hh (fun b hb => by omega)
    · have hq : q = g.flds.length := by have := of_decide_eq_false h; omega
      subst hq
      rw [List.take_length] at hv
      have hO35 := hO.fr f35 (fun h => h)
      refine ⟨y, by rw [add_mk]; exact hO35.cell rfl, g.name, v, hG.ats [.string (mkS g.name), .slice v.base v.len v.cap] 0 0 (fun q v hq => by simpa using hq), ?_⟩
      intro b57 w58 hb57 hw58
      have f58 : Fr Non w35 w58 := hw58 ▸ (Fr.refl Non w35).alloc _
      have hB : Blk w58 b57 79 [.string (mkS g.name), .slice v.base v.len v.cap] := hb57 ▸ hw58 ▸ Blk.new w35 _ _
      have h58 := ho.tight.fr (fun _ => EG.st) (f35.trans' f58) (fun _ _ h => h)
      have o58 := hv.tight.fr (fun _ => EF.st) f58 (fun _ _ h => h)
      have z1 := f58.size
      have z2 := f35.size
      obtain ⟨s2, w2, hr2, ho3, hf2⟩ := h58.push (P := Tryz.prog) kU34 kS49 kZ49 kB49 rfl (by omega) (fun _ => EG.st) (x := g) (cx := [.string (mkS g.name), .slice v.base v.len v.cap]) ⟨v, rfl, o58⟩ rfl (by intro v hv; simp at hv; rcases hv with rfl | rfl <;> rfl) (fun b hb => ⟨by omega, by omega⟩) (a := ⟨b57, 0, none⟩) (c := 1) (cells2 hB) (by simp only [List.length_take]; omega) (by simp only [List.length_take]; omega) 24
      have keep : ∀ {b : Nat} {cs : List Value}, Blk w35 b 26 cs → b < w18.heap.size → Blk w2 b 26 cs := fun h hb => (h.fr f58 (fun h => h)).fr hf2 (fun h => by omega)
      have hO2 := keep hO35 (by omega)
      have hM2 := keep hM35 (by omega)
      have hZ2 := keep (hZ.fr f35 (fun h => h)) (by omega)
      refine ⟨s2, w2, hr2, by rw [add_mk]; exact hO2.isS (by simp [mc]), by rw [add_mk]; exact hO2.free _, ?_⟩
      rintro w61 rfl
      have f2 : Fr Non w w2 := upN (f23.trans' (f35.trans' f58)) hf2 (fun g hg => by have := f18.size; omega)
      have z4 := hf2.size
      rw [add_mk]
      refine ⟨l.length - (j + 1), by omega, j + 1, s2, by rw [w64_id (by omega) (by omega)]; push_cast; rfl, by omega, rfl, ?_, hO2.set 5 _, hM2.ne (a := ⟨b16, 0 + 5, none⟩) (by simp only; omega) _, hZ2.ne (a := ⟨b16, 0 + 5, none⟩) (by simp only; omega) _, f2.set (a := ⟨b16, 0 + 5, none⟩) (fun h => by simp only at h; omega) _, by simp [World.setCell]; omega⟩
      rw [hts]
      have hh : Fr (fun b => b = b16) w2 (w2.setCell ⟨b16, 0 + 5, none⟩ (.slice s2.base s2.len s2.cap)) := (Fr.refl (fun b => b = b16) w2).set (a := ⟨b16, 0 + 5, none⟩) (fun _ => rfl) _
      refine (ho3.mono (F' := fun b => w18.heap.size ≤ b) fun b hb => by omega).fr (fun _ => EG.st) hh (fun b hb => by omega)
  · have hj : j = l.length := by have := of_decide_eq_false h; omega
    subst hj
    rw [List.take_length] at ho
    refine ⟨m.d1, m.d2, m.d3, m.d4, m.d5, y, hO.ats (mc { m with s := y }) 0 0 (fun q v hq => by simpa using hq), mayCells_of hZ 0 6 (by simp [mc]), ?_⟩
    rintro w68 rfl
    have hR2 := hZ.setAll (vs := mc { m with s := y }) rfl
    refine ⟨m.d1, m.d2, m.d3, m.d4, m.d5, y, hR2.ats (mc { m with s := y }) 0 0 (fun q v hq => by simpa using hq), ?_⟩
    have hh : Fr (fun b => b = b9) w23 (setCells w23 ⟨b9, 0, none⟩ 0 (mc { m with s := y })) := (Fr.refl (fun b => b = b9) w23).setAll hZ rfl (fun _ => rfl)
    have s1 := f18.size
    refine hk y _ ((ho.fr (fun _ => EG.st) hh (fun b hb => by omega)).mono fun b hb => by omega) (upN f23 hh (fun g hg => by omega))
end
end Go.Proofs.YthpeengmcjpknaaGreatDoor
