/- The reference's signs, and whether a message can be. -/
import Derived.Test.YthpeengmcjpknaaGreatDoorPMB
set_option linter.unusedSimpArgs false
set_option linter.unusedVariables false
namespace Go.Proofs.YthpeengmcjpknaaGreatDoor
open Go.V Go.RowKit
section
variable {w : World} {k : Value → World → Prop}
theorem rlist_spec (m : Mh) (hk : ∀ w', Fr Non w w' → k (.agg (List.toArray (dvs m))) w') : Cl Tryz.prog 295 [.agg (List.toArray (dvs m))] w k := by
  refine f295_ok ?_
  unfold f295
  intro b6 w7 hb6 hw7 b8 w9 hb8 hw9
  have f7 : Fr Non w w7 := hw7 ▸ (Fr.refl Non w).alloc _
  have f9 : Fr Non w w9 := hw9 ▸ f7.alloc _
  have hD7 : Blk w7 b6 23 (dvs m) := hb6 ▸ hw7 ▸ Blk.new w _ _
  have hD : Blk w9 b6 23 (dvs m) := hw9 ▸ hD7.alloc _
  have hB : Blk w9 b8 286 [.int .u8 0, .int .u8 0, .int .u8 0, .int .u8 0, .int .u8 0] := hb8 ▸ hw9 ▸ Blk.new w7 _ _
  have hc : ∀ {i : Nat} {v : Value}, (dvs m)[i]? = some v → w9.cell? ((⟨b6, 0, none⟩ : Addr).add i) = some v := fun h => by rw [add_mk, Nat.zero_add]; exact hD.cell h
  refine ⟨m.d1, hD.cell rfl, m.d2, hc rfl, m.d3, hc rfl, m.d4, hc rfl, m.d5, hc rfl, mayCells_of hB 0 5 (by simp), ?_⟩
  rintro w15 rfl
  have h2 := hB.setAll (vs := dvs m) rfl
  have z9 := f7.size
  exact ⟨_, _, _, _, _, ats5' h2, hk _ (f9.setAll hB rfl (fun h => absurd h (by omega)))⟩
def rokD (m : Mh) (i : Nat) : Bool := mayB ((dl m).getD i 0) && !((dl m).take i).contains ((dl m).getD i 0)
theorem rdvB_eq (m : Mh) : dvB m = (List.range 5).all (rokD m) := by
  have e : signsB (dl m) = (List.range 5).all (rokD m) := rfl
  unfold dvB; rw [e]
  cases h : ((m.d1 == 124) && ((m.d2 == 94) && ((m.d3 == 126) && ((m.d4 == 92) && ((m.d5 == 38) && true)))))
  · rfl
  · simp only [Bool.and_eq_true, beq_iff_eq] at h
    obtain ⟨h1, h2, h3, h4, h5, _⟩ := h
    have : (List.range 5).all (rokD m) = true := by
      unfold rokD dl; rw [h1, h2, h3, h4, h5]; decide
    rw [this]; rfl
set_option maxHeartbeats 1000000 in
theorem rdvalid_spec (m : Mh) (hk : ∀ w', Fr Non w w' → k (.bool (dvB m)) w') : Cl Tryz.prog 185 [.agg (List.toArray (dvs m))] w k := by
  refine f185_ok ?_
  unfold f185
  intro b6 w7 hb6 hw7
  have f7 : Fr Non w w7 := hw7 ▸ (Fr.refl Non w).alloc _
  have hD7 : Blk w7 b6 23 (dvs m) := hb6 ▸ hw7 ▸ Blk.new w _ _
  refine ⟨_, _, _, _, _, ats5' hD7, rlist_spec m fun w13 f13 => ⟨_, _, _, _, _, rfl, ?_⟩⟩
  intro b20 w21 hb20 hw21
  have f21 : Fr Non w7 w21 := hw21 ▸ f13.alloc _
  have hB : Blk w21 b20 286 [.int .u8 0, .int .u8 0, .int .u8 0, .int .u8 0, .int .u8 0] := hb20 ▸ hw21 ▸ Blk.new w13 _ _
  refine ⟨mayCells_of hB 0 5 (by simp), ?_⟩
  intro w22 hw22
  have hW : Blk w22 b20 286 (dvs m) := hw22 ▸ hB.setAll (vs := dvs m) rfl
  have z13 := f13.size
  have f22 : Fr Non w7 w22 := hw22 ▸ f21.setAll hB (vs := dvs m) rfl (fun h => absurd h (by omega))
  rw [rdvB_eq] at hk
  have hcell : ∀ j : Nat, j < 5 → w22.cell? ((⟨b20, 0, none⟩ : Addr).add ((j : Int).toNat * 1)) = some (.int .u8 ((dl m).getD j 0)) := fun j hj => by
    rw [add_mk, Nat.zero_add, Nat.mul_one, Int.toNat_natCast]
    refine hW.cell ?_
    match j, hj with
    | 0, _ => rfl
    | 1, _ => rfl
    | 2, _ => rfl
    | 3, _ => rfl
    | 4, _ => rfl
  have hlen : (dl m).length = 5 := rfl
  have bad : ∀ j, j < 5 → rokD m j = false → k (.bool false) w22 := fun j hj hb => by
    have := hk _ (f7.trans' f22)
    rw [show (List.range 5).all (rokD m) = false from allR_take hj hb] at this; exact this
  refine ⟨fun t i w' => ∃ j : Nat, i = j ∧ j ≤ 5 ∧ t = 5 - j ∧ w' = w22 ∧ ∀ q, q < j → rokD m q = true, ⟨5, 0, rfl, by omega, rfl, rfl, fun q hq => by omega⟩, ?_⟩
  rintro t i w27 ⟨j, rfl, hj, rfl, rfl, hok⟩
  refine ⟨fun h => ?_, fun h => ?_⟩
  · have hj : j < 5 := by have := of_decide_eq_true h; omega
    have hoj : rokD m j = (mayB ((dl m).getD j 0) && !((dl m).take j).contains ((dl m).getD j 0)) := rfl
    have hbad := bad j hj
    refine ⟨⟨by omega, by omega⟩, _, hcell j hj, fun v w' => v = !mayB ((dl m).getD j 0) ∧ w' = w27, ?_, ?_⟩
    · rintro v w' ⟨rfl, rfl⟩
      refine ⟨fun hv => ?_, fun hv => ?_⟩
      · have hv := (Bool.not_eq_true' _).mp hv
        exact hbad (by rw [hoj, hv]; rfl)
      have hv := (Bool.not_eq_false' _).mp hv
      refine ⟨fun t i w2 => ∃ q : Nat, i = q ∧ q ≤ j ∧ t = j - q ∧ w2 = w' ∧ ∀ r, r < q → (dl m).getD r 0 ≠ (dl m).getD j 0, ⟨j, 0, rfl, by omega, rfl, rfl, fun r hr => by omega⟩, ?_⟩
      rintro t i w2 ⟨q, rfl, hq, rfl, rfl, hne⟩
      refine ⟨fun h => ?_, fun h => ?_⟩
      · have hqj : q < j := by have := of_decide_eq_true h; omega
        refine ⟨⟨by omega, by omega⟩, _, hcell q (by omega), fun he => ?_, fun he => ⟨j - (q + 1), by omega, q + 1, by rw [w64_id (by omega) (by omega)]; push_cast; rfl, by omega, rfl, rfl, fun r hr => ?_⟩⟩
        · refine hbad ?_
          rw [hoj, show ((dl m).take j).contains ((dl m).getD j 0) = true from ?_]
          · simp
          · have he := eq_of_beq he
            rw [List.contains_iff_exists_mem_beq]
            refine ⟨_, ?_, beq_iff_eq.2 he.symm⟩
            rw [List.getD_eq_getElem?_getD, List.getElem?_eq_getElem (by omega), Option.getD_some]
            rw [List.mem_take_iff_getElem]
            exact ⟨q, by omega, rfl⟩
        · by_cases hrq : r = q
          · subst hrq; exact fun e => by rw [e] at he; simp at he
          · exact hne r (by omega)
      · have hqj : q = j := by have := of_decide_eq_false h; omega
        subst hqj
        refine ⟨5 - (q + 1), by omega, q + 1, by rw [w64_id (by omega) (by omega)]; push_cast; rfl, by omega, rfl, rfl, fun r hr => ?_⟩
        by_cases hrq : r = q
        · subst hrq
          rw [hoj, hv, Bool.true_and, Bool.not_eq_true']
          rw [Bool.eq_false_iff]
          intro hcon
          rw [List.contains_iff_exists_mem_beq] at hcon
          obtain ⟨y, hy, hye⟩ := hcon
          rw [List.mem_take_iff_getElem] at hy
          obtain ⟨p, hp, rfl⟩ := hy
          refine hne p (by omega) ?_
          rw [List.getD_eq_getElem?_getD, List.getElem?_eq_getElem (by omega), Option.getD_some]
          exact (eq_of_beq hye).symm
        · exact hok r (by omega)
    · generalize (dl m).getD j 0 = c
      refine ⟨fun h1 => ?_, fun h1 => ⟨fun h2 => ?_, fun h2 => ⟨fun h3 => ⟨fun h4 => ?_, fun h4 => ⟨fun h5 => ⟨fun h6 => ?_, fun h6 => ⟨fun h7 => ?_, fun h7 => ?_⟩⟩, fun h5 => ⟨fun h7 => ?_, fun h7 => ?_⟩⟩⟩, fun h3 => ⟨fun h5 => ⟨fun h6 => ?_, fun h6 => ⟨fun h7 => ?_, fun h7 => ?_⟩⟩, fun h5 => ⟨fun h7 => ?_, fun h7 => ?_⟩⟩⟩⟩⟩
      all_goals (refine ⟨?_, rfl⟩; clear hok hk hcell bad hbad hoj; simp only [decide_eq_true_eq, decide_eq_false_iff_not] at *; unfold mayB; rw [Bool.eq_iff_iff]; simp; omega)
  · have hj : j = 5 := by have := of_decide_eq_false h; omega
    subst hj
    have := hk _ (f7.trans' f22)
    rw [show (List.range 5).all (rokD m) = true from allR_all hok] at this; exact this
theorem ris_spec (x : Sl) (f : Fldt) (v : Str) (hx : RdL 1 RR w x f) (hk : k (.bool (isB f v)) w) : Cl Tryz.prog 186 [.slice x.base x.len x.cap, .string (mkS v)] w k := f186_ok (is_frm x f v hx hk)
theorem rsigns_spec (m : Mh) (hd : Dg m) (hk : ∀ w', Fr Non w w' → k (.string (mkS (sg2 m))) w') : Cl Tryz.prog 146 [.agg (List.toArray (dvs m))] w k := by
  refine f146_ok ?_
  unfold f146
  intro b6 w7 hb6 hw7
  have e2 := by1_eq (hd m.d2 (by simp [dl]))
  have e3 := by1_eq (hd m.d3 (by simp [dl]))
  have e4 := by1_eq (hd m.d4 (by simp [dl]))
  have e5 := by1_eq (hd m.d5 (by simp [dl]))
  have f7 : Fr Non w w7 := hw7 ▸ (Fr.refl Non w).alloc _
  have hD : Blk w7 b6 23 (dvs m) := hb6 ▸ hw7 ▸ Blk.new w _ _
  have hc : ∀ {i : Nat} {v : Value}, (dvs m)[i]? = some v → w7.cell? ((⟨b6, 0, none⟩ : Addr).add i) = some v := fun h => by rw [add_mk, Nat.zero_add]; exact hD.cell h
  refine ⟨m.d2, hc rfl, m.d3, hc rfl, m.d4, hc rfl, m.d5, hc rfl, ?_⟩
  intro b12 w13 hb12 hw13
  have f13 : Fr Non w w13 := hw13 ▸ f7.alloc _
  have h12 : Blk w13 b12 5 (bys (sg2 m)) := by
    have : Blk w13 b12 5 [.int .u8 m.d2, .int .u8 m.d3, .int .u8 m.d4, .int .u8 m.d5] := hb12 ▸ hw13 ▸ Blk.new w7 _ _
    unfold bys sg2; simp only [List.map_cons, List.map_nil, e2, e3, e4, e5]; exact this
  exact ⟨sg2 m, h12.bytes rfl, hk _ f13⟩
end
end Go.Proofs.YthpeengmcjpknaaGreatDoor
