/- The law PathTwo. -/
import Derived.Test.YtgnddjnnkghedaaGreatDoorN2a
set_option linter.unusedSimpArgs false
set_option linter.unusedVariables false
namespace Go.Proofs.YtgnddjnnkghedaaGreatDoor
open Go.V Go.RowKit
section
variable {w : World} {k : Value → World → Prop}
set_option maxHeartbeats 4000000 in
theorem two_spec (m : Mh) (p q : Pa) (v u : Str) (l : List Seg) (hR : RM w m.s l) (hS : SmM l) (hd : Dg m) (hp : p.seg.length ≤ 1000000000000) (hq : q.seg.length ≤ 1000000000000) (ho : -9223372036854775808 ≤ p.occ ∧ p.occ ≤ 9223372036854775807) (ho' : -9223372036854775808 ≤ q.occ ∧ q.occ ≤ 9223372036854775807) (hv : v.length ≤ BB) (hu : u.length ≤ BB) (hlen : l.length ≤ 1000000000) (hk : ∀ w', Fr Non w w' → k (.bool true) w') : Cl Tryz.prog 4 [.agg (List.toArray (mc m)), .agg (List.toArray (pc p)), .agg (List.toArray (pc q)), .string (mkS v), .string (mkS u)] w k := by
  refine f4_ok ?_
  unfold f4
  intro b21 w22 hb21 hw22 b23 w24 hb23 hw24 b25 w26 hb25 hw26
  have f22 : Fr Non w w22 := hw22 ▸ (Fr.refl Non w).alloc _
  have f24 : Fr Non w w24 := hw24 ▸ f22.alloc _
  have f26 : Fr Non w w26 := hw26 ▸ f24.alloc _
  have hM22 : Blk w22 b21 26 (mc m) := hb21 ▸ hw22 ▸ Blk.new w (mc m) 26
  have hM24 : Blk w24 b21 26 (mc m) := hw24 ▸ hM22.alloc _
  have hM : Blk w26 b21 26 (mc m) := hw26 ▸ hM24.alloc _
  have hP24 : Blk w24 b23 28 (pc p) := hb23 ▸ hw24 ▸ Blk.new w22 (pc p) 28
  have hP : Blk w26 b23 28 (pc p) := hw26 ▸ hP24.alloc _
  have hQ : Blk w26 b25 28 (pc q) := hb25 ▸ hw26 ▸ Blk.new w24 (pc q) 28
  have al : ∀ {w1 : World}, Fr Non w w1 → Cl Tryz.prog 8 [] w1 (fun v w2 => ∃ x : Bool, v = .bool x ∧ k (.bool x) w2) := fun f => alive_spec fun w2 g => ⟨true, rfl, hk _ (f.trans' g)⟩
  have hBB : BB = 1099511627776 := rfl
  refine ⟨fun c w' => (c = false → p ≠ q ∧ p.occ ≤ (cnt p.seg l : Nat) ∧ q.occ ≤ (cnt q.seg l : Nat)) ∧ Fr Non w26 w', ?_, ?_⟩
  case refine_2 =>
    rintro w30 rfl
    have d : Fr Non w26 w26.drew := (Fr.refl Non w26).drew
    refine ⟨_, _, _, _, _, _, atsM (hM.fr d (fun h => h)), light_any m l (hR.fr (f26.trans' d)) hS fun b w37 g37 => ⟨b, rfl, fun _ => ⟨fun h => (by cases h), d.trans' g37⟩, fun _ => ⟨fun _ => ⟨fun h => (by cases h), d.trans' g37⟩, fun _ => ?_⟩⟩⟩
    have k37 := d.trans' g37
    refine ⟨_, _, _, _, _, _, patat (hP.fr k37 (fun h => h)), _, _, _, _, _, _, patat (hQ.fr k37 (fun h => h)), fun _ => ⟨fun h => (by cases h), k37⟩, fun hpq => ?_⟩
    refine ⟨p.occ, by rw [add_mk]; exact (hP.fr k37 (fun h => h)).cell rfl, _, _, _, _, _, _, atsM (hM.fr k37 (fun h => h)), _, (hP.fr k37 (fun h => h)).cell rfl, count_spec m p.seg l (hR.fr (f26.trans' k37)) hS.1 fun w60 g60 => ⟨g60.ext, _, rfl, fun _ => ⟨fun h => (by cases h), k37.trans' g60⟩, fun h1 => ?_⟩⟩
    have k60 := k37.trans' g60
    refine ⟨q.occ, by rw [add_mk]; exact (hQ.fr k60 (fun h => h)).cell rfl, _, _, _, _, _, _, atsM (hM.fr k60 (fun h => h)), _, (hQ.fr k60 (fun h => h)).cell rfl, count_spec m q.seg l (hR.fr (f26.trans' k60)) hS.1 fun w71 g71 => ⟨g71.ext, _, rfl, ⟨fun h2 => ⟨Pa_beq hpq, ?_, ?_⟩, k60.trans' g71⟩⟩⟩
    · have := of_decide_eq_false h1; omega
    · have := of_decide_eq_false h2; omega
  rintro c w29 ⟨hc, g29⟩
  refine ⟨fun _ => al (f26.trans' g29), fun hcf => ?_⟩
  obtain ⟨hpq, cp, cq⟩ := hc hcf
  have f29 := f26.trans' g29
  refine ⟨_, _, _, _, _, _, atsM (hM.fr g29 (fun h => h)), _, _, _, _, _, _, patat (hP.fr g29 (fun h => h)), setA_spec m p v l (hR.fr f29) hS hd hp ho hv (by omega) fun ma w89 hA _ g89 => ⟨ma.d1, ma.d2, ma.d3, ma.d4, ma.d5, ma.s, _, rfl, ?_⟩⟩
  intro b98 w99 hb98 hw99
  obtain ⟨hmay, hnew⟩ := newM ma hb98 hw99
  refine ⟨hmay, ?_⟩
  intro w100 hw100
  obtain ⟨hXA, g100⟩ := hnew w100 hw100
  have k100 := (g29.trans' g89).trans' g100
  have f100 := f26.trans' k100
  refine ⟨_, _, _, _, _, _, atsM (hM.fr k100 (fun h => h)), _, _, _, _, _, _, patat (hQ.fr k100 (fun h => h)), setA_spec m q u l (hR.fr f100) hS hd hq ho' hu (by omega) fun mb w113 hB _ g113 => ⟨mb.d1, mb.d2, mb.d3, mb.d4, mb.d5, mb.s, _, rfl, ?_⟩⟩
  intro b122 w123 hb122 hw123
  obtain ⟨hmay, hnew⟩ := newM mb hb122 hw123
  refine ⟨hmay, ?_⟩
  intro w124 hw124
  obtain ⟨hXB, g124⟩ := hnew w124 hw124
  have j124 := g113.trans' g124
  have hXA124 := hXA.fr j124 (fun h => h)
  refine ⟨fun c w' => (c = false → setE m l p = 0 ∧ setE m l q = 0) ∧ Fr Non w124 w', ?_, fun h => ⟨fun h => (by cases h), Fr.refl _ _⟩, fun h1 => ⟨fun h2 => ⟨by simpa using h1, by simpa using h2⟩, Fr.refl _ _⟩⟩
  rintro c w127 ⟨hc, g127⟩
  have k124 := k100.trans' j124
  have f124 := f26.trans' k124
  refine ⟨fun _ => al (f124.trans' g127), fun hcf => ?_⟩
  obtain ⟨hEp, hEq⟩ := hc hcf
  obtain ⟨ya, rfl, hRa⟩ := hA hEp
  obtain ⟨yb, rfl, hRb⟩ := hB hEq
  obtain ⟨t1, t2, t3, t4, t5⟩ := set_two (v := v) (u := u) hEp hEq hpq cp cq
  have hSa : SmM (stL l p v) := SmM_stL hEp hS hp hv (by omega)
  have hSb : SmM (stL l q u) := SmM_stL hEq hS hq hu (by omega)
  have la := len_stL (v := v) hEp
  have lb := len_stL (v := u) hEq
  have hSc : SmM (stL (stL l p v) q u) := SmM_stL t1 hSa hq hu (by omega)
  have k127 := k124.trans' g127
  refine ⟨_, _, _, _, _, _, atsM (hXA124.fr g127 (fun h => h)), _, _, _, _, _, _, patat (hQ.fr k127 (fun h => h)), setP_spec { m with s := ya } q u (stL l p v) (hRa.fr (g100.trans' (j124.trans' g127))) hSa hd hq ho' hu (by omega) (fun _ yc w143 hOc g143 => ?_) (fun h => absurd t1 h)⟩
  refine ⟨m.d1, m.d2, m.d3, m.d4, m.d5, yc, 0, rfl, ?_⟩
  intro b152 w153 hb152 hw153
  obtain ⟨hmay, hnew⟩ := newM { m with s := yc } hb152 hw153
  refine ⟨hmay, ?_⟩
  intro w154 hw154
  obtain ⟨hXC, g154⟩ := hnew w154 hw154
  have j154 := (g127.trans' g143).trans' g154
  have k154 := k124.trans' j154
  have hRc : RM w154 yc (stL (stL l p v) q u) := (OwM.rd hOc).fr g154
  refine ⟨_, _, _, _, _, _, atsM (hXB.fr j154 (fun h => h)), _, _, _, _, _, _, patat (hP.fr k154 (fun h => h)), setP_spec { m with s := yb } p v (stL l q u) (hRb.fr (g124.trans' j154)) hSb hd hp ho hv (by omega) (fun _ yd w167 hOd g167 => ?_) (fun h => absurd t2 h)⟩
  refine ⟨m.d1, m.d2, m.d3, m.d4, m.d5, yd, 0, rfl, ?_⟩
  intro b176 w177 hb176 hw177
  obtain ⟨hmay, hnew⟩ := newM { m with s := yd } hb176 hw177
  refine ⟨hmay, ?_⟩
  intro w178 hw178
  obtain ⟨hXD, g178⟩ := hnew w178 hw178
  have j178 := g167.trans' g178
  have hRd : RM w178 yd (stL (stL l q u) p v) := (OwM.rd hOd).fr g178
  refine alive_spec fun w179 g179 => ⟨true, rfl, fun _ => ⟨fun _ => ⟨fun _ => ?_, fun h => by simp at h⟩, fun h => by simp at h⟩, fun h => (by cases h)⟩
  have j179 := j178.trans' g179
  have k179 := k154.trans' j179
  have f179 := f26.trans' k179
  have hXC179 := hXC.fr j179 (fun h => h)
  refine ⟨_, _, _, _, _, _, atsM hXC179, _, _, _, _, _, _, atsM (hXD.fr g179 (fun h => h)), same_spec { m with s := yc } { m with s := yd } _ _ (hRc.fr j179) (hRd.fr g179) hSc fun w194 g194 => ⟨_, rfl, fun _ => ?_, fun h => ?_⟩⟩
  case refine_2 => rw [t3] at h; simp [dlB] at h
  refine ⟨_, _, _, _, _, _, atsM (hXC179.fr g194 (fun h => h)), _, _, _, _, _, _, patat (hP.fr (k179.trans' g194) (fun h => h)), get_spec { m with s := yc } p _ (hRc.fr (j179.trans' g194)) hSc (by omega) ho fun w209 g209 => ⟨_, rfl, fun _ => ?_, fun h => ?_⟩⟩
  case refine_2 => rw [t4] at h; simp at h
  have g := g194.trans' g209
  refine ⟨_, _, _, _, _, _, atsM (hXC179.fr g (fun h => h)), _, _, _, _, _, _, patat (hQ.fr (k179.trans' g) (fun h => h)), get_spec { m with s := yc } q _ (hRc.fr (j179.trans' g)) hSc (by omega) ho' fun w224 g224 => ⟨_, rfl, ?_⟩⟩
  rw [t5, beq_self_eq_true]
  exact hk _ (f179.trans' (g.trans' g224))
end
end Go.Proofs.YtgnddjnnkghedaaGreatDoor
