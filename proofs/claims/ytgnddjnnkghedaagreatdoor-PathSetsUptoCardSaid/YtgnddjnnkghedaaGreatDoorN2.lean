/- The law PathSets. -/
import Derived.Test.YtgnddjnnkghedaaGreatDoorN2a
set_option linter.unusedSimpArgs false
set_option linter.unusedVariables false
namespace Go.Proofs.YtgnddjnnkghedaaGreatDoor
open Go.V Go.RowKit
section
variable {w : World} {k : Value → World → Prop}
set_option maxHeartbeats 4000000 in
theorem sets_spec (m : Mh) (p q : Pa) (v : Str) (l : List Seg) (hR : RM w m.s l) (hS : SmM l) (hd : Dg m) (hp : p.seg.length ≤ 1000000000000) (hq : q.seg.length ≤ 1000000000000) (ho : -9223372036854775808 ≤ p.occ ∧ p.occ ≤ 9223372036854775807) (ho' : -9223372036854775808 ≤ q.occ ∧ q.occ ≤ 9223372036854775807) (hv : v.length ≤ BB) (hlen : l.length ≤ 1000000000) (hk : ∀ w', Fr Non w w' → k (.bool true) w') : Cl Tryz.prog 5 [.agg (List.toArray (mc m)), .agg (List.toArray (pc p)), .agg (List.toArray (pc q)), .string (mkS v)] w k := by
  refine f5_ok ?_
  unfold f5
  intro b20 w21 hb20 hw21 b22 w23 hb22 hw23 b24 w25 hb24 hw25
  have f21 : Fr Non w w21 := hw21 ▸ (Fr.refl Non w).alloc _
  have f23 : Fr Non w w23 := hw23 ▸ f21.alloc _
  have f25 : Fr Non w w25 := hw25 ▸ f23.alloc _
  have hM21 : Blk w21 b20 26 (mc m) := hb20 ▸ hw21 ▸ Blk.new w (mc m) 26
  have hM23 : Blk w23 b20 26 (mc m) := hw23 ▸ hM21.alloc _
  have hM : Blk w25 b20 26 (mc m) := hw25 ▸ hM23.alloc _
  have hP23 : Blk w23 b22 28 (pc p) := hb22 ▸ hw23 ▸ Blk.new w21 (pc p) 28
  have hP : Blk w25 b22 28 (pc p) := hw25 ▸ hP23.alloc _
  have hQ : Blk w25 b24 28 (pc q) := hb24 ▸ hw25 ▸ Blk.new w23 (pc q) 28
  have al : ∀ {w1 : World}, Fr Non w w1 → Cl Tryz.prog 8 [] w1 (fun v w2 => ∃ x : Bool, v = .bool x ∧ k (.bool x) w2) := fun f => alive_spec fun w2 g => ⟨true, rfl, hk _ (f.trans' g)⟩
  have hBB : BB = 1099511627776 := rfl
  refine ⟨fun v w' => Fr Non w25 w', ?_, m.d1, m.d2, m.d3, m.d4, m.d5, m.s, atsM hM, light_any m l (hR.fr f25) hS fun b w35 g35 => ⟨b, rfl, fun _ => g35, fun _ => g35⟩⟩
  intro c w28 g28
  refine ⟨fun _ => al (f25.trans' g28), fun _ => ?_⟩
  have f28 := f25.trans' g28
  refine ⟨_, _, _, _, _, _, atsM (hM.fr g28 (fun h => h)), _, _, _, _, _, _, patat (hP.fr g28 (fun h => h)), setP_spec m p v l (hR.fr f28) hS hd hp ho hv (by omega) (fun hE y w53 hO g53 => ?_) (fun hE w53 g53 => ?_)⟩
  case refine_2 =>
    refine ⟨_, _, _, _, _, _, _, rfl, ?_⟩
    intro b62 w63 hb62 hw63
    obtain ⟨hmay, hnew⟩ := newM mz hb62 hw63
    refine ⟨hmay, ?_⟩
    intro w64 hw64
    obtain ⟨hX, g64⟩ := hnew w64 hw64
    refine ⟨fun _ => alive_spec fun w65 g65 => ⟨true, rfl, fun _ => ⟨⟨none, 0, 0⟩, by rw [add_mk]; exact (hX.fr g65 (fun h => h)).cell rfl, ?_⟩, fun h => (by cases h)⟩, fun h => ?_⟩
    · exact hk _ ((f28.trans' g53).trans' (g64.trans' g65))
    · exact absurd (by simpa using h) hE
  have f53 := f28.trans' g53
  refine ⟨m.d1, m.d2, m.d3, m.d4, m.d5, y, 0, rfl, ?_⟩
  intro b62 w63 hb62 hw63
  obtain ⟨hmay, hnew⟩ := newM { m with s := y } hb62 hw63
  refine ⟨hmay, ?_⟩
  intro w64 hw64
  obtain ⟨hX, g64⟩ := hnew w64 hw64
  refine ⟨fun h => by simp at h, fun _ => ?_⟩
  have hRL : RM w64 y (stL l p v) := (OwM.rd hO).fr g64
  have hSL : SmM (stL l p v) := SmM_stL hE hS hp hv (by omega)
  have hLl := len_stL (v := v) hE
  have f64 := f53.trans' g64
  have k64 := (g28.trans' g53).trans' g64
  have hM64 := hM.fr k64 (fun h => h)
  have hP64 := hP.fr k64 (fun h => h)
  have hQ64 := hQ.fr k64 (fun h => h)
  have hpl : p.seg.length ≤ 1000000000000000 := by omega
  have hql : q.seg.length ≤ 1000000000000000 := by omega
  refine ⟨fun c w' => c = false ∧ Fr Non w64 w', ?_, _, _, _, _, _, _, atsM hX, _, _, _, _, _, _, patat hP64, get_spec { m with s := y } p (stL l p v) hRL hSL hpl ho fun w84 g84 => ⟨_, rfl, fun h => ?_, fun h => ⟨_, _, _, _, _, _, atsM (hX.fr g84 (fun h => h)), tvalid_spec { m with s := y } (stL l p v) (hRL.fr g84) hSL hd fun w93 g93 => ⟨_, rfl, fun h => ?_, fun h => ⟨_, _, _, _, _, _, atsM (hX.fr (g84.trans' g93) (fun h => h)), _, _, _, _, _, _, patat (hP64.fr (g84.trans' g93) (fun h => h)), has_spec { m with s := y } p (stL l p v) (hRL.fr (g84.trans' g93)) hSL hpl ho fun w108 g108 => ⟨_, rfl, ?_, (g84.trans' g93).trans' g108⟩⟩⟩⟩⟩⟩
  case refine_2 => rw [get_set hE] at h; simp at h
  case refine_3 =>
    have e : validM { m with s := y } (stL l p v) = true := valid_set hE
    rw [e] at h; simp at h
  case refine_4 => rw [has_set hE]; simp
  rintro c w71 ⟨rfl, g71⟩
  refine ⟨fun h => (by cases h), fun _ => ?_⟩
  obtain ⟨hE2, hL2⟩ := set_again (v := v) hE
  refine ⟨_, _, _, _, _, _, atsM (hX.fr g71 (fun h => h)), _, _, _, _, _, _, patat (hP64.fr g71 (fun h => h)), setP_spec { m with s := y } p v (stL l p v) (hRL.fr g71) hSL hd hp ho hv (by omega) (fun _ y2 w123 hO2 g123 => ?_) (fun h => absurd hE2 h)⟩
  refine ⟨m.d1, m.d2, m.d3, m.d4, m.d5, y2, 0, rfl, ?_⟩
  intro b132 w133 hb132 hw133
  obtain ⟨hmay, hnew⟩ := newM { m with s := y2 } hb132 hw133
  refine ⟨hmay, ?_⟩
  intro w134 hw134
  obtain ⟨hY, g134⟩ := hnew w134 hw134
  have k134 := (g71.trans' g123).trans' g134
  rw [hL2] at hO2
  have hRL2 : RM w134 y2 (stL l p v) := (OwM.rd hO2).fr g134
  have hX134 := hX.fr k134 (fun h => h)
  refine ⟨fun c w' => c = false ∧ Fr Non w134 w', ?_, fun h => (by simp at h), fun _ => ⟨_, _, _, _, _, _, atsM hX134, _, _, _, _, _, _, atsM hY, same_spec { m with s := y } { m with s := y2 } (stL l p v) (stL l p v) (hRL.fr k134) hRL2 hSL fun w150 g150 => ⟨_, rfl, ?_, g150⟩⟩⟩
  case refine_2 => simp [dlB]
  rintro c w137 ⟨rfl, g137⟩
  refine ⟨fun h => (by cases h), fun _ => ?_⟩
  rintro w153 rfl
  have k153 := k134.trans' g137.drew
  refine alive_spec fun w154 g154 => ⟨true, rfl, fun _ => ?_, fun h => (by cases h)⟩
  have k154 := k153.trans' g154
  have f154 := f64.trans' k154
  have hX154 := hX.fr k154 (fun h => h)
  have hM154 := hM64.fr k154 (fun h => h)
  have hP154 := hP64.fr k154 (fun h => h)
  have hQ154 := hQ64.fr k154 (fun h => h)
  have hcnt : cnt p.seg l ≤ cnt p.seg (stL l p v) := by rw [cnt_set hE]; omega
  have counts : ∀ {w5 : World}, Fr Non w154 w5 → Cl Tryz.prog 18 [.agg (List.toArray (mc { m with s := y })), .string (mkS p.seg)] w5 (fun v184 w183 => Ext w5 w183 ∧ ∃ (x185 : Int), v184 = .int .i64 x185 ∧ Cl Tryz.prog 18 [.agg (List.toArray (mc m)), .string (mkS p.seg)] w183 (fun v187 w186 => ∃ (x188 : Int), v187 = .int .i64 x188 ∧ k (.bool (decide (x188 ≤ x185))) w186)) := by
    intro w5 g5
    refine count_spec { m with s := y } p.seg (stL l p v) (hRL.fr (k154.trans' g5)) hSL.1 fun w6 g6 => ⟨g6.ext, _, rfl, count_spec m p.seg l (hR.fr (f154.trans' (g5.trans' g6))) hS.1 fun w7 g7 => ⟨_, rfl, ?_⟩⟩
    rw [decide_eq_true (by omega)]
    exact hk _ (f154.trans' (g5.trans' (g6.trans' g7)))
  refine ⟨_, _, _, _, _, _, patat hP154, _, _, _, _, _, _, patat hQ154, fun hpq => ?_, fun hpq => ?_⟩
  · exact ⟨_, _, _, _, _, _, atsM hX154, _, hP154.cell rfl, _, _, _, _, _, _, atsM hM154, _, hP154.cell rfl, counts (Fr.refl _ _)⟩
  · have hne : q ≠ p := fun e => Pa_beq hpq e.symm
    refine ⟨_, _, _, _, _, _, atsM hX154, _, _, _, _, _, _, patat hQ154, _, _, _, _, _, _, atsM hM154, _, _, _, _, _, _, patat hQ154, ?_⟩
    refine get_spec { m with s := y } q (stL l p v) (hRL.fr k154) hSL hql ho' fun w213 g213 => ⟨g213.ext, _, rfl, get_spec m q l (hR.fr (f154.trans' g213)) hS hql ho' fun w216 g216 => ⟨_, rfl, fun _ => ?_, fun h => ?_⟩⟩
    · have g := g213.trans' g216
      exact ⟨_, _, _, _, _, _, atsM (hX154.fr g (fun h => h)), _, (hP154.fr g (fun h => h)).cell rfl, _, _, _, _, _, _, atsM (hM154.fr g (fun h => h)), _, (hP154.fr g (fun h => h)).cell rfl, counts g⟩
    · rw [get_other hE hne] at h; simp at h
end
end Go.Proofs.YtgnddjnnkghedaaGreatDoor
