/- The law PathDeletes. -/
import Derived.Test.YtgnddjnnkghedaaGreatDoorN5
set_option linter.unusedSimpArgs false
set_option linter.unusedVariables false
namespace Go.Proofs.YtgnddjnnkghedaaGreatDoor
open Go.V Go.RowKit
theorem SmM_dl {m : Mh} {l : List Seg} {p : Pa} (hS : SmM l) (ha : askE m l p true = 0) : SmM (dlL l p) := by
  have hBB : BB = 1099511627776 := rfl
  unfold dlL
  split
  · exact SmM_can hS
  · split
    · exact SmM_can (SmM_erase hS)
    · rename_i h0
      obtain ⟨b1, _⟩ := may_in (askE_ok ha).2 h0
      obtain ⟨⟨p1, p2⟩, ⟨r1, r2⟩, ⟨c1, c2⟩, ⟨u1, u2⟩⟩ := valid_in b1 (by have := valid_pos b1 h0; omega)
      split
      · exact SmM_can hS
      · exact SmM_can (SmM_mod hS (by omega) (by omega) (by omega) (by omega) (by simp))
section
variable {w : World} {k : Value → World → Prop}
set_option maxHeartbeats 4000000 in
theorem deletes_spec (m : Mh) (p q : Pa) (l : List Seg) (hR : RM w m.s l) (hS : SmM l) (hd : Dg m) (hp : p.seg.length ≤ 1000000000000) (hq : q.seg.length ≤ 1000000000000) (ho : -9223372036854775808 ≤ p.occ ∧ p.occ ≤ 9223372036854775807) (ho' : -9223372036854775808 ≤ q.occ ∧ q.occ ≤ 9223372036854775807) (hlen : l.length ≤ 1000000000) (hk : ∀ w', Fr Non w w' → k (.bool true) w') : Cl Tryz.prog 6 [.agg (List.toArray (mc m)), .agg (List.toArray (pc p)), .agg (List.toArray (pc q))] w k := by
  refine f6_ok ?_
  unfold f6
  intro b19 w20 hb19 hw20 b21 w22 hb21 hw22 b23 w24 hb23 hw24
  have f20 : Fr Non w w20 := hw20 ▸ (Fr.refl Non w).alloc _
  have f22 : Fr Non w w22 := hw22 ▸ f20.alloc _
  have f24 : Fr Non w w24 := hw24 ▸ f22.alloc _
  have hM20 : Blk w20 b19 26 (mc m) := hb19 ▸ hw20 ▸ Blk.new w (mc m) 26
  have hM22 : Blk w22 b19 26 (mc m) := hw22 ▸ hM20.alloc _
  have hM : Blk w24 b19 26 (mc m) := hw24 ▸ hM22.alloc _
  have hP22 : Blk w22 b21 28 (pc p) := hb21 ▸ hw22 ▸ Blk.new w20 (pc p) 28
  have hP : Blk w24 b21 28 (pc p) := hw24 ▸ hP22.alloc _
  have hQ : Blk w24 b23 28 (pc q) := hb23 ▸ hw24 ▸ Blk.new w22 (pc q) 28
  have al : ∀ {w1 : World}, Fr Non w w1 → Cl Tryz.prog 8 [] w1 (fun v w2 => ∃ x : Bool, v = .bool x ∧ k (.bool x) w2) := fun f => alive_spec fun w2 g => ⟨true, rfl, hk _ (f.trans' g)⟩
  have hBB : BB = 1099511627776 := rfl
  have hpl : p.seg.length ≤ 1000000000000000 := by omega
  have hql : q.seg.length ≤ 1000000000000000 := by omega
  refine ⟨_, _, _, _, _, _, atsM hM, light_any m l (hR.fr f24) hS fun b w31 g31 => ⟨b, rfl, fun _ => al (f24.trans' g31), fun _ => ?_⟩⟩
  have f31 := f24.trans' g31
  refine ⟨_, _, _, _, _, _, atsM (hM.fr g31 (fun h => h)), _, _, _, _, _, _, patat (hP.fr g31 (fun h => h)), delP_spec m p l (hR.fr f31) hS hd hp ho hlen fun m' w49 hA g49 => ⟨m'.d1, m'.d2, m'.d3, m'.d4, m'.d5, m'.s, _, rfl, ?_⟩⟩
  intro b58 w59 hb58 hw59
  obtain ⟨hmay, hnew⟩ := newM m' hb58 hw59
  refine ⟨hmay, ?_⟩
  intro w60 hw60
  obtain ⟨hX, g60⟩ := hnew w60 hw60
  have k60 := (g31.trans' g49).trans' g60
  have f60 := f24.trans' k60
  refine ⟨fun _ => al f60, fun he => ?_⟩
  have he : askE m l p true = 0 := by simpa using he
  obtain ⟨y, rfl, hRy⟩ := hA he
  have hSd : SmM (dlL l p) := SmM_dl hS he
  have hR60 := hRy.fr g60
  have hM60 := hM.fr k60 (fun h => h)
  have hP60 := hP.fr k60 (fun h => h)
  have hQ60 := hQ.fr k60 (fun h => h)
  have hcl := cnt_le p.seg l
  refine ⟨p.fld, by rw [add_mk]; exact hP60.cell rfl, fun h0 => ?_, fun h0 => ?_⟩
  · have h0 : p.fld = 0 := by simpa using h0
    refine ⟨_, _, _, _, _, _, atsM hM60, _, hP60.cell rfl, count_spec m p.seg l (hR.fr f60) hS.1 fun w72 g72 => ⟨_, rfl, fun n w' => n = (cnt p.seg l : Int) - (if hasP l p = true then 1 else 0) ∧ Fr Non w60 w', ?_, _, _, _, _, _, _, atsM (hM60.fr g72 (fun h => h)), _, _, _, _, _, _, patat (hP60.fr g72 (fun h => h)), has_spec m p l (hR.fr (f60.trans' g72)) hS hpl ho fun w90 g90 => ⟨_, rfl, fun hh => ⟨?_, g72.trans' g90⟩, fun hh => ⟨?_, g72.trans' g90⟩⟩⟩⟩
    case refine_2 => rw [if_pos hh, w64_id (by omega) (by omega)]
    case refine_3 => rw [if_neg (by rw [hh]; simp)]; omega
    rintro n w77 ⟨rfl, g77⟩
    refine alive_spec fun w93 g93 => ⟨true, rfl, fun _ => ?_, fun h => (by cases h)⟩
    have g := g77.trans' g93
    refine ⟨_, _, _, _, _, _, atsM (hX.fr g (fun h => h)), _, (hP60.fr g (fun h => h)).cell rfl, count_spec { m with s := y } p.seg (dlL l p) (hR60.fr g) hSd.1 fun w103 g103 => ⟨_, rfl, ?_⟩⟩
    rw [del_seg he h0, beq_self_eq_true]
    exact hk _ (f60.trans' (g.trans' g103))
  · have h0 : p.fld ≠ 0 := by simpa using h0
    obtain ⟨d1, d2, d3⟩ := del_place (q := q) he h0
    refine ⟨fun c w' => c = false ∧ Fr Non w60 w', ?_, ?_⟩
    · rintro c w108 ⟨rfl, g108⟩
      refine ⟨fun h => (by cases h), fun _ => ?_⟩
      refine ⟨_, _, _, _, _, _, atsM (hM60.fr g108 (fun h => h)), _, _, _, _, _, _, patat (hP60.fr g108 (fun h => h)), setA_spec m p [] l (hR.fr (f60.trans' g108)) hS hd hp ho (by simp) (by omega) fun m2 w179 hB _ g179 => ⟨m2.d1, m2.d2, m2.d3, m2.d4, m2.d5, m2.s, _, rfl, ?_⟩⟩
      intro b188 w189 hb188 hw189
      obtain ⟨hmay, hnew⟩ := newM m2 hb188 hw189
      refine ⟨hmay, ?_⟩
      intro w190 hw190
      obtain ⟨hY, g190⟩ := hnew w190 hw190
      refine alive_spec fun w191 g191 => ⟨true, rfl, fun _ => ?_, fun h => (by cases h)⟩
      have j191 := g190.trans' g191
      have g := (g108.trans' g179).trans' j191
      refine ⟨_, _, _, _, _, _, atsM (hM60.fr g (fun h => h)), _, _, _, _, _, _, patat (hP60.fr g (fun h => h)), has_spec m p l (hR.fr (f60.trans' g)) hS hpl ho fun w206 g206 => ⟨_, rfl, fun _ => hk _ (f60.trans' (g.trans' g206)), fun hh => ?_⟩⟩
      obtain ⟨hE, hst⟩ := d3 (by simpa using hh)
      obtain ⟨y2, rfl, hR2⟩ := hB hE
      have gg := g.trans' g206
      refine ⟨fun _ => ?_, fun h => by rw [hE] at h; simp at h⟩
      refine ⟨_, _, _, _, _, _, atsM (hX.fr gg (fun h => h)), _, _, _, _, _, _, atsM (hY.fr (g191.trans' g206) (fun h => h)), same_spec { m with s := y } { m with s := y2 } (dlL l p) (stL l p []) (hR60.fr gg) (hR2.fr (j191.trans' g206)) hSd fun w221 g221 => ⟨_, rfl, ?_⟩⟩
      have e : (dlB { m with s := y } { m with s := y2 } && decide (dlL l p = stL l p [])) = true := by rw [hst]; simp [dlB]
      rw [e]
      exact hk _ (f60.trans' (gg.trans' g221))
    · rintro w109 rfl
      have d : Fr Non w60 w60.drew := (Fr.refl Non w60).drew
      refine ⟨_, _, _, _, _, _, atsM (hX.fr d (fun h => h)), _, _, _, _, _, _, patat (hP60.fr d (fun h => h)), get_spec { m with s := y } p (dlL l p) (hR60.fr d) hSd hpl ho fun w122 g122 => ⟨_, rfl, fun h => ?_, fun _ => ?_⟩⟩
      · rw [d1] at h; simp at h
      have g := d.trans' g122
      refine ⟨_, _, _, _, _, _, patat (hP60.fr g (fun h => h)), _, _, _, _, _, _, patat (hQ60.fr g (fun h => h)), fun hne => ?_, fun _ => ⟨rfl, g⟩⟩
      have hpq : p ≠ q := Pa_beq ((Bool.not_eq_true' _).mp hne)
      refine ⟨_, _, _, _, _, _, atsM (hX.fr g (fun h => h)), _, _, _, _, _, _, patat (hQ60.fr g (fun h => h)), _, _, _, _, _, _, atsM (hM60.fr g (fun h => h)), _, _, _, _, _, _, patat (hQ60.fr g (fun h => h)), ?_⟩
      refine get_spec { m with s := y } q (dlL l p) (hR60.fr g) hSd hql ho' fun w161 g161 => ⟨g161.ext, _, rfl, get_spec m q l (hR.fr (f60.trans' (g.trans' g161))) hS hql ho' fun w164 g164 => ⟨_, rfl, ?_, g.trans' (g161.trans' g164)⟩⟩
      rw [d2 hpq, beq_self_eq_true]; rfl
end
end Go.Proofs.YtgnddjnnkghedaaGreatDoor
