/- The reference: whether a message can be. -/
import Derived.Test.YthpeengmcjpknaaGreatDoorPU1
set_option linter.unusedSimpArgs false
set_option linter.unusedVariables false
namespace Go.Proofs.YthpeengmcjpknaaGreatDoor
open Go.V Go.RowKit
section
variable {w : World} {k : Value → World → Prop}
theorem rall_take {α : Type} {p : α → Bool} {l : List α} {j : Nat} (hj : j < l.length) (h : p l[j] = false) : l.all p = false := by
  rw [Bool.eq_false_iff]; intro ha
  have := List.all_eq_true.1 ha _ (List.getElem_mem hj)
  rw [h] at this; cases this
theorem rall_step {α : Type} {p : α → Bool} {l : List α} {j : Nat} (hj : j < l.length) (h : (l.take j).all p = true) (h2 : p l[j] = true) : (l.take (j + 1)).all p = true := by
  rw [take_snoc hj, List.all_append, h]; simp [h2]
set_option maxHeartbeats 4000000 in
theorem rtvalid_spec (m : Mh) (l : List Seg) (hR : RM w m.s l) (hS : SmM l) (hd : Dg m) (hk : ∀ w', Fr Non w w' → k (.bool (validM m l)) w') : Cl Tryz.prog 28 [.agg (List.toArray (mc m))] w k := by
  refine f28_ok ?_
  unfold f28
  intro b7 w8 hb7 hw8
  have f8 : Fr Non w w8 := hw8 ▸ (Fr.refl Non w).alloc _
  have hM8 : Blk w8 b7 26 (mc m) := hb7 ▸ hw8 ▸ Blk.new w (mc m) 26
  have hc : ∀ {w' : World}, Fr Non w8 w' → w'.cell? ((⟨b7, 0, none⟩ : Addr).add 5) = some (.slice m.s.base m.s.len m.s.cap) := fun f => by rw [add_mk]; exact (hM8.fr f (fun h => h)).cell rfl
  have hL := hR.1
  obtain ⟨hS0, hSG⟩ := hS
  unfold BB at hS0
  refine ⟨fun v w' => v = !(dvB m && (decide (1 ≤ l.length) && decide (l.length ≤ 200))) ∧ Fr Non w8 w', ?_, m.d1, m.d2, m.d3, m.d4, m.d5, ats5 hM8, rdvalid_spec m fun w17 g17 => ⟨_, rfl, fun h => ⟨?_, g17⟩, fun h => ⟨m.s, hc g17, fun h2 => ⟨?_, g17⟩, fun h2 => ⟨m.s, hc g17, ?_, g17⟩⟩⟩⟩
  case refine_2 => have h := (Bool.not_eq_true' _).mp h
                   rw [h]; rfl
  case refine_3 => have h := (Bool.not_eq_false' _).mp h
                   have h2 := of_decide_eq_true h2
                   rw [h, decide_eq_false (by omega)]; rfl
  case refine_4 => have h := (Bool.not_eq_false' _).mp h
                   have h2 := of_decide_eq_false h2
                   rw [h, decide_eq_true (p := 1 ≤ l.length) (by omega), Bool.true_and, Bool.true_and]
                   by_cases h3 : l.length ≤ 200
                   · rw [decide_eq_true h3, decide_eq_false (by omega)]; rfl
                   · rw [decide_eq_false h3, decide_eq_true (by omega)]; rfl
  rintro v w11 ⟨rfl, g11⟩
  refine ⟨fun hv => ?_, fun hv => ?_⟩
  · have hv := (Bool.not_eq_true' _).mp hv
    have := hk _ (f8.trans' g11)
    rw [show validM m l = false from by
      unfold validM
      rw [← Bool.and_assoc (decide (1 ≤ l.length)), ← Bool.and_assoc (dvB m), hv]; rfl] at this
    exact this
  have hv := (Bool.not_eq_false' _).mp hv
  simp only [Bool.and_eq_true, decide_eq_true_eq] at hv
  obtain ⟨hdv, hl1, hl2⟩ := hv
  have hval : validM m l = ((List.range l.length).all (okI l) && headB m l) := by
    unfold validM; rw [hdv, decide_eq_true hl1, decide_eq_true hl2]; rfl
  rw [hval] at hk
  refine ⟨fun t i w' => ∃ j : Nat, i = j ∧ j ≤ l.length ∧ t = l.length - j ∧ Fr Non w11 w' ∧ (∀ q, q < j → okI l q = true) ∧ (0 < j → headB m l = true), ⟨l.length, 0, rfl, by omega, by omega, Fr.refl _ _, fun q hq => by omega, fun h => by omega⟩, ?_⟩
  rintro t i w26 ⟨j, rfl, hj, rfl, f26, hok, hhd⟩
  have k26 := g11.trans' f26
  refine ⟨m.s, hc k26, fun h => ?_, fun h => ?_⟩
  · have hj : j < l.length := by have := of_decide_eq_true h; omega
    obtain ⟨a, ha, hn, x, hx, hX⟩ := (hR.fr (f8.trans' k26)).2 j hj
    have hSg := hSG _ (List.getElem_mem hj)
    have hoj : okI l j = okAt j l[j] := by unfold okI; rw [List.getElem?_eq_getElem hj]
    have h0j : j = 0 → headB m l = (decide (2 ≤ l[j].flds.length) && (isB (l[j].flds.getD 0 []) (sg1 m) && isB (l[j].flds.getD 1 []) (sg2 m))) := by
      rintro rfl
      cases l with
      | nil => simp at hj
      | cons g r => rfl
    generalize hg : l[j] = g at hn hx hX hSg hoj h0j
    refine ⟨m.s, hc k26, a, ha, ⟨by omega, by omega⟩, g.name, x, ⟨hn, hx, trivial⟩, ?_⟩
    intro b32 w33 hb32 hw33
    have f33 : Fr Non w26 w33 := hw33 ▸ (Fr.refl Non w26).alloc _
    have hG33 : Blk w33 b32 79 [.string (mkS []), .slice none 0 0] := hb32 ▸ hw33 ▸ Blk.new w26 _ _
    refine ⟨mayCells_of hG33 0 2 (by simp), ?_⟩
    intro w34 hw34
    have hG : Blk w34 b32 79 [.string (mkS g.name), .slice x.base x.len x.cap] := hw34 ▸ hG33.setAll rfl
    have f34 : Fr Non w26 w34 := upN f33 (hw34 ▸ (Fr.refl (fun g => g = b32) w33).setAll hG33 (vs := [.string (mkS g.name), .slice x.base x.len x.cap]) rfl (fun _ => rfl)) (fun g hg => by omega)
    have c0 : ∀ {w' : World}, Fr Non w34 w' → w'.cell? ⟨b32, 0, none⟩ = some (.string (mkS g.name)) := fun f => (hG.fr f (fun h => h)).cell rfl
    have c1 : ∀ {w' : World}, Fr Non w34 w' → w'.cell? ((⟨b32, 0, none⟩ : Addr).add 1) = some (.slice x.base x.len x.cap) := fun f => by rw [add_mk]; exact (hG.fr f (fun h => h)).cell rfl
    have bad : okAt j g = false → ∀ w', Fr Non w34 w' → k (.bool false) w' := fun hb w' f => by
      have := hk _ (f8.trans' (k26.trans' (f34.trans' f)))
      rw [show (List.range l.length).all (okI l) = false from allR_take hj (by rw [hoj]; exact hb)] at this; exact this
    have badH : headB m l = false → ∀ w', Fr Non w34 w' → k (.bool false) w' := fun hb w' f => by
      have := hk _ (f8.trans' (k26.trans' (f34.trans' f)))
      rw [hb, Bool.and_false] at this; exact this
    have hXL := hX.1
    have e0 : (((j : Nat) : Int) == 0) = decide (j = 0) := by rw [Bool.eq_iff_iff]; simp
    have hnl := hSg.1
    unfold BB at hnl
    refine ⟨fun v w' => v = !(isName g.name && (((g.name == msh) == decide (j = 0)) && decide (g.flds.length ≤ 100))) ∧ Fr Non w34 w', ?_, g.name, c0 (Fr.refl _ _), rname_spec g.name (by omega) ⟨_, rfl, fun h1 => ⟨?_, Fr.refl _ _⟩, fun h1 => ⟨g.name, c0 (Fr.refl _ _), fun h2 => ⟨?_, Fr.refl _ _⟩, fun h2 => ⟨x, c1 (Fr.refl _ _), ?_, Fr.refl _ _⟩⟩⟩⟩
    case refine_2 => have h1 := (Bool.not_eq_true' _).mp h1
                     rw [h1]; rfl
    case refine_3 => have h1 := (Bool.not_eq_false' _).mp h1
                     have h2 := (Bool.not_eq_true' _).mp h2
                     rw [e0] at h2
                     rw [h1, show (g.name == msh) = (g.name == [77, 83, 72]) from rfl, h2]; rfl
    case refine_4 => have h1 := (Bool.not_eq_false' _).mp h1
                     have h2 := (Bool.not_eq_false' _).mp h2
                     rw [e0] at h2
                     rw [h1, show (g.name == msh) = (g.name == [77, 83, 72]) from rfl, h2, Bool.true_and, Bool.true_and]
                     by_cases h3 : g.flds.length ≤ 100
                     · rw [decide_eq_true h3, decide_eq_false (by omega)]; rfl
                     · rw [decide_eq_false h3, decide_eq_true (by omega)]; rfl
    rintro v w37 ⟨rfl, f37⟩
    refine ⟨fun hv => ?_, fun hv => ?_⟩
    · have hv := (Bool.not_eq_true' _).mp hv
      refine bad ?_ _ f37
      unfold okAt fitsG
      rw [← Bool.and_assoc ((g.name == msh) == decide (j = 0)), ← Bool.and_assoc (isName g.name), hv]; rfl
    have hv := (Bool.not_eq_false' _).mp hv
    have hoA : okAt j g = g.flds.all fitsF := by
      simp only [Bool.and_eq_true] at hv
      unfold okAt fitsG
      rw [hv.1, hv.2.1, hv.2.2]; rfl
    refine ⟨fun v w' => v = (decide (j = 0) && !headB m l) ∧ Fr Non w34 w', ?_, ?_⟩
    · rintro v w46 ⟨rfl, f46⟩
      refine ⟨fun hv => ?_, fun hv => ?_⟩
      · simp only [Bool.and_eq_true, Bool.not_eq_true'] at hv
        exact badH hv.2 _ f46
      have hhd' : headB m l = true := by
        by_cases hj0 : j = 0
        · rw [decide_eq_true hj0, Bool.true_and] at hv
          exact (Bool.not_eq_false' _).mp hv
        · exact hhd (by omega)
      have hX46 := hX.fr RF.stay (f34.trans' f46)
      refine ⟨fun t i w' => ∃ q : Nat, i = q ∧ q ≤ g.flds.length ∧ t = g.flds.length - q ∧ w' = w46 ∧ (g.flds.take q).all fitsF = true, ⟨g.flds.length, 0, rfl, by omega, by omega, rfl, rfl⟩, ?_⟩
      rintro t i w' ⟨q, rfl, hq, rfl, rfl, hfit⟩
      refine ⟨x, c1 f46, fun h => ?_, fun h => ?_⟩
      · have hq : q < g.flds.length := by have := of_decide_eq_true h; omega
        obtain ⟨a1, ha1, z, hz, hZ⟩ := hX46.2 q hq
        have hZL := hZ.1
        have hSf := hSg.2.2 _ (List.getElem_mem hq)
        have badF : fitsF g.flds[q] = false → k (.bool false) w' := fun hb => bad (by rw [hoA]; exact rall_take hq hb) _ f46
        have hgd : fitsF g.flds[q] = true → (g.flds.take (q + 1)).all fitsF = true := rall_step hq hfit
        generalize g.flds[q] = f at hz hZ hZL hSf badF hgd
        have hS1 := hSf.1
        unfold BB at hS1
        refine ⟨x, c1 f46, a1, ha1, ⟨by omega, by omega⟩, z, hz, fun h3 => ?_, fun h3 => ?_⟩
        · rw [hZL, gt50] at h3
          exact badF (by unfold fitsF; rw [(Bool.not_eq_true' _).mp h3]; rfl)
        rw [hZL, gt50] at h3
        have h3 := (Bool.not_eq_false' _).mp h3
        have hfF : fitsF f = f.all fitsR := by unfold fitsF; rw [h3]; rfl
        refine ⟨fun t i w2 => ∃ r : Nat, i = r ∧ r ≤ f.length ∧ t = f.length - r ∧ w2 = w' ∧ (f.take r).all fitsR = true, ⟨f.length, 0, rfl, by omega, by omega, rfl, rfl⟩, ?_⟩
        rintro t i w2 ⟨r, rfl, hr, rfl, rfl, hfr⟩
        refine ⟨x, c1 f46, a1, ha1, ⟨by omega, by omega⟩, z, hz, fun h4 => ?_, fun h4 => ?_⟩
        · have hr : r < f.length := by have := of_decide_eq_true h4; omega
          obtain ⟨a2, ha2, y, hy, hY⟩ := hZ.2 r hr
          have hYL := hY.1
          have hSr := hSf.2 _ (List.getElem_mem hr)
          have badR : fitsR f[r] = false → k (.bool false) w2 := fun hb => badF (by rw [hfF]; exact rall_take hr hb)
          have hgr : fitsR f[r] = true → (f.take (r + 1)).all fitsR = true := rall_step hr hfr
          generalize f[r] = p at hy hY hYL hSr badR hgr
          have hS2 := hSr.1
          unfold BB at hS2
          refine ⟨x, c1 f46, a1, ha1, ⟨by omega, by omega⟩, z, hz, a2, ha2, ⟨by omega, by omega⟩, y, hy, fun h5 => ?_, fun h5 => ?_⟩
          · rw [hYL, gt50] at h5
            exact badR (by unfold fitsR; rw [(Bool.not_eq_true' _).mp h5]; rfl)
          rw [hYL, gt50] at h5
          have h5 := (Bool.not_eq_false' _).mp h5
          have hfR : fitsR p = p.all fitsC := by unfold fitsR; rw [h5]; rfl
          refine ⟨fun t i w3 => ∃ c : Nat, i = c ∧ c ≤ p.length ∧ t = p.length - c ∧ w3 = w2 ∧ (p.take c).all fitsC = true, ⟨p.length, 0, rfl, by omega, by omega, rfl, rfl⟩, ?_⟩
          rintro t i w3 ⟨c, rfl, hcc, rfl, rfl, hfc⟩
          refine ⟨x, c1 f46, a1, ha1, ⟨by omega, by omega⟩, z, hz, a2, ha2, ⟨by omega, by omega⟩, y, hy, fun h6 => ?_, fun h6 => ?_⟩
          · have hcl : c < p.length := by have := of_decide_eq_true h6; omega
            obtain ⟨a3, ha3, u, hu, hU⟩ := hY.2 c hcl
            have hUL := hU.1
            have badC : fitsC p[c] = false → k (.bool false) w3 := fun hb => badR (by rw [hfR]; exact rall_take hcl hb)
            have hgc : fitsC p[c] = true → (p.take (c + 1)).all fitsC = true := rall_step hcl hfc
            generalize p[c] = e at hu hU hUL badC hgc
            refine ⟨x, c1 f46, a1, ha1, ⟨by omega, by omega⟩, z, hz, a2, ha2, ⟨by omega, by omega⟩, y, hy, a3, ha3, ⟨by omega, by omega⟩, u, hu, fun h7 => ?_, fun h7 => ?_⟩
            · rw [hUL, gt50] at h7
              exact badC (by unfold fitsC; rw [(Bool.not_eq_true' _).mp h7])
            · rw [hUL, gt50] at h7
              exact ⟨p.length - (c + 1), by omega, c + 1, by rw [w64_id (by omega) (by omega)]; push_cast; rfl, by omega, rfl, rfl, hgc (by unfold fitsC; exact (Bool.not_eq_false' _).mp h7)⟩
          · have hcl : c = p.length := by have := of_decide_eq_false h6; omega
            subst hcl
            rw [List.take_length] at hfc
            exact ⟨f.length - (r + 1), by omega, r + 1, by rw [w64_id (by omega) (by omega)]; push_cast; rfl, by omega, rfl, rfl, hgr (by rw [hfR]; exact hfc)⟩
        · have hrl : r = f.length := by have := of_decide_eq_false h4; omega
          subst hrl
          rw [List.take_length] at hfr
          have hS3 := hSg.2.1
          unfold BB at hS3
          exact ⟨g.flds.length - (q + 1), by omega, q + 1, by rw [w64_id (by omega) (by omega)]; push_cast; rfl, by omega, rfl, rfl, hgd (by rw [hfF]; exact hfr)⟩
      · have hql : q = g.flds.length := by have := of_decide_eq_false h; omega
        subst hql
        rw [List.take_length] at hfit
        refine ⟨l.length - (j + 1), by omega, j + 1, by rw [w64_id (by omega) (by omega)]; push_cast; rfl, by omega, rfl, f26.trans' (f34.trans' f46), fun q hq => ?_, fun _ => hhd'⟩
        by_cases hqj : q = j
        · subst hqj; rw [hoj, hoA]; exact hfit
        · exact hok q (by omega)
    · rintro w47 rfl
      have f47 : Fr Non w34 w37.drew := f37.drew
      have hX47 := hX.fr RF.stay (f34.trans' f47)
      rw [e0]
      refine ⟨fun h1 => ?_, fun h1 => ⟨by rw [h1]; rfl, f47⟩⟩
      have h0 := h0j (of_decide_eq_true h1)
      rw [h1]
      refine ⟨x, c1 f47, fun h2 => ⟨?_, f47⟩, fun h2 => ?_⟩
      · have h2 := of_decide_eq_true h2
        rw [h0, decide_eq_false (by omega)]; rfl
      have h2 : 2 ≤ g.flds.length := by have := of_decide_eq_false h2; omega
      rw [decide_eq_true h2, Bool.true_and, List.getD_eq_getElem?_getD, List.getD_eq_getElem?_getD, List.getElem?_eq_getElem (by omega), List.getElem?_eq_getElem (by omega), Option.getD_some, Option.getD_some] at h0
      rw [h0]
      obtain ⟨a1, ha1, z, hz, hZ⟩ := hX47.2 0 (by omega)
      have hM47 := (hM8.fr (k26.trans' (f34.trans' f47)) (fun h => h))
      refine ⟨x, c1 f47, a1, ha1, ⟨by omega, by omega⟩, z, hz, m.d1, hM47.cell rfl, ?_⟩
      intro b53 w54 hb53 hw54
      have g54 : Fr Non w37.drew w54 := hw54 ▸ (Fr.refl Non _).alloc _
      have f54 := f47.trans' g54
      have h53 : Blk w54 b53 5 (bys (sg1 m)) := by
        have : Blk w54 b53 5 [.int .u8 m.d1] := hb53 ▸ hw54 ▸ Blk.new w37.drew _ _
        have e1 := by1_eq (hd m.d1 (by simp [dl]))
        unfold bys sg1; simp only [List.map_cons, List.map_nil, e1]; exact this
      refine ⟨sg1 m, h53.bytes rfl, ris_spec z g.flds[0] (sg1 m) (hZ.fr RR.stay g54) ⟨_, rfl, fun h3 => ⟨?_, f54⟩, fun h3 => ?_⟩⟩
      · rw [(Bool.not_eq_true' _).mp h3]; rfl
      rw [(Bool.not_eq_false' _).mp h3, Bool.true_and]
      obtain ⟨a2, ha2, z2, hz2, hZ2⟩ := (hX47.fr RF.stay g54).2 1 (by omega)
      refine ⟨x, c1 f54, a2, ha2, ⟨by omega, by omega⟩, z2, hz2, m.d1, m.d2, m.d3, m.d4, m.d5, ats5 (hM8.fr (k26.trans' (f34.trans' f54)) (fun h => h)), rsigns_spec m hd fun w67 g67 => ⟨g67.ext, _, rfl, ?_⟩⟩
      exact ris_spec z2 g.flds[1] (sg2 m) (hZ2.fr RR.stay g67) ⟨_, rfl, rfl, f54.trans' g67⟩
  · have hj : j = l.length := by have := of_decide_eq_false h; omega
    subst hj
    have := hk _ (f8.trans' k26)
    rw [show (List.range l.length).all (okI l) = true from allR_all hok, hhd (by omega)] at this; exact this
end
end Go.Proofs.YthpeengmcjpknaaGreatDoor
