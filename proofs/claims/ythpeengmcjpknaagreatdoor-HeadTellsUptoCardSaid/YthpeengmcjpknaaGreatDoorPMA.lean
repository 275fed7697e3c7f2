/- Whether a message can be: the signs, how much there is. -/
import Derived.Test.YthpeengmcjpknaaGreatDoorPM9
import Derived.Test.YthpeengmcjpknaaGreatDoorPVR
set_option linter.unusedSimpArgs false
set_option linter.unusedVariables false
namespace Go.Proofs.YthpeengmcjpknaaGreatDoor
open Go.V Go.RowKit
section
variable {w : World} {k : Value → World → Prop}
theorem may_spec (c : Int) (hk : k (.bool (mayB c)) w) : Cl Tryz.prog 288 [.int .u8 c] w k := by
  refine f288_ok ?_
  unfold f288
  refine ⟨fun v w' => v = !mayB c ∧ w' = w, ?_, fun h => ?_, fun h => ⟨fun h2 => ?_, fun h2 => ?_⟩⟩
  · rintro v w' ⟨rfl, rfl⟩
    refine ⟨fun h => ?_, fun h => ?_⟩
    · have h := (Bool.not_eq_true' _).mp h; rw [h] at hk; exact hk
    · have h := (Bool.not_eq_false' _).mp h; rw [h] at hk; exact hk
  · exact ⟨by unfold mayB; rw [h]; rfl, rfl⟩
  · exact ⟨by unfold mayB; rw [h, h2]; rfl, rfl⟩
  · refine ⟨fun v w' => v = (decide (97 ≤ c) && decide (c ≤ 122)) ∧ w' = w, ?_, fun h3 => ⟨by rw [h3]; rfl, rfl⟩, fun h3 => ⟨by rw [h3]; rfl, rfl⟩⟩
    rintro v w' ⟨rfl, rfl⟩
    refine ⟨fun h3 => ⟨by unfold mayB; rw [h, h2, h3]; rfl, rfl⟩, fun h3 => ⟨fun v w2 => v = (decide (65 ≤ c) && decide (c ≤ 90)) ∧ w2 = w', ?_, fun h4 => ⟨by rw [h4]; rfl, rfl⟩, fun h4 => ⟨by rw [h4]; rfl, rfl⟩⟩⟩
    rintro v w2 ⟨rfl, rfl⟩
    refine ⟨fun h4 => ⟨by unfold mayB; rw [h, h2, h3, h4]; rfl, rfl⟩, fun h4 => ⟨fun h5 => ⟨by unfold mayB; rw [h, h2, h3, h4, h5]; simp, rfl⟩, fun h5 => ⟨by unfold mayB; rw [h, h2, h3, h4, h5]; rfl, rfl⟩⟩⟩
def dl (m : Mh) : List Int := [m.d1, m.d2, m.d3, m.d4, m.d5]
def dvs (m : Mh) : List Value := [.int .u8 m.d1, .int .u8 m.d2, .int .u8 m.d3, .int .u8 m.d4, .int .u8 m.d5]
def dvB (m : Mh) : Bool := ((m.d1 == 124) && ((m.d2 == 94) && ((m.d3 == 126) && ((m.d4 == 92) && ((m.d5 == 38) && true))))) || signsB (dl m)
theorem ats5' {w : World} {b : Nat} {T : TypeId} {m : Mh} (h : Blk w b T (dvs m)) : cellsAt w ⟨b, 0, none⟩ 0 (dvs m) := h.ats (dvs m) 0 0 (fun q v hq => by simpa using hq)
theorem default_spec (hk : ∀ w', Fr Non w w' → k (.agg (List.toArray [.int .u8 124, .int .u8 94, .int .u8 126, .int .u8 92, .int .u8 38])) w') : Cl Tryz.prog 197 [] w k := by
  refine f197_ok ?_
  unfold f197
  intro b1 w2 hb1 hw2
  have f2 : Fr Non w w2 := hw2 ▸ (Fr.refl Non w).alloc _
  have hB : Blk w2 b1 23 [.int .u8 0, .int .u8 0, .int .u8 0, .int .u8 0, .int .u8 0] := hb1 ▸ hw2 ▸ Blk.new w _ _
  refine ⟨mayCells_of hB 0 5 (by simp), ?_⟩
  rintro w3 rfl
  have h2 := hB.setAll (vs := [.int .u8 124, .int .u8 94, .int .u8 126, .int .u8 92, .int .u8 38]) rfl
  exact ⟨_, _, _, _, _, h2.ats [.int .u8 124, .int .u8 94, .int .u8 126, .int .u8 92, .int .u8 38] 0 0 (fun q v hq => by simpa using hq), hk _ (f2.setAll hB rfl (fun h => absurd h (by omega)))⟩
theorem dsigns_spec (m : Mh) (hk : ∀ w', Fr Non w w' → k (.agg (List.toArray (dvs m))) w') : Cl Tryz.prog 277 [.agg (List.toArray (dvs m))] w k := by
  refine f277_ok ?_
  unfold f277
  intro b6 w7 hb6 hw7 b8 w9 hb8 hw9
  have f7 : Fr Non w w7 := hw7 ▸ (Fr.refl Non w).alloc _
  have f9 : Fr Non w w9 := hw9 ▸ f7.alloc _
  have hD7 : Blk w7 b6 23 (dvs m) := hb6 ▸ hw7 ▸ Blk.new w _ _
  have hD : Blk w9 b6 23 (dvs m) := hw9 ▸ hD7.alloc _
  have hB : Blk w9 b8 286 [.int .u8 0, .int .u8 0, .int .u8 0, .int .u8 0, .int .u8 0] := hb8 ▸ hw9 ▸ Blk.new w7 _ _
  have hc : ∀ {i : Nat} {v : Value}, (dvs m)[i]? = some v → w9.cell? ((⟨b6, 0, none⟩ : Addr).add i) = some v := fun h => by rw [add_mk, Nat.zero_add]; exact hD.cell h
  refine ⟨m.d1, hD.cell rfl, m.d2, hc rfl, m.d3, hc rfl, m.d4, hc rfl, m.d5, hc rfl, mayCells_of hB 0 5 (by simp), ?_⟩
  rintro w15 rfl
  have h2 := hB.setAll (vs := dvs m) rfl
  have z9 := f7.size
  exact ⟨_, _, _, _, _, ats5' h2, hk _ (f9.setAll hB rfl (fun h => absurd h (by omega)))⟩
theorem idx0 (a0 a1 a2 a3 a4 : Int) (u : World) : (Instr.index 286 (.agg (List.toArray [.int .u8 a0, .int .u8 a1, .int .u8 a2, .int .u8 a3, .int .u8 a4])) (.int .i64 0)).run Tryz.prog u = .ok (.int .u8 a0) u := by kernel_rfl
theorem idx1 (a0 a1 a2 a3 a4 : Int) (u : World) : (Instr.index 286 (.agg (List.toArray [.int .u8 a0, .int .u8 a1, .int .u8 a2, .int .u8 a3, .int .u8 a4])) (.int .i64 1)).run Tryz.prog u = .ok (.int .u8 a1) u := by kernel_rfl
theorem idx2 (a0 a1 a2 a3 a4 : Int) (u : World) : (Instr.index 286 (.agg (List.toArray [.int .u8 a0, .int .u8 a1, .int .u8 a2, .int .u8 a3, .int .u8 a4])) (.int .i64 2)).run Tryz.prog u = .ok (.int .u8 a2) u := by kernel_rfl
theorem idx3 (a0 a1 a2 a3 a4 : Int) (u : World) : (Instr.index 286 (.agg (List.toArray [.int .u8 a0, .int .u8 a1, .int .u8 a2, .int .u8 a3, .int .u8 a4])) (.int .i64 3)).run Tryz.prog u = .ok (.int .u8 a3) u := by kernel_rfl
theorem idx4 (a0 a1 a2 a3 a4 : Int) (u : World) : (Instr.index 286 (.agg (List.toArray [.int .u8 a0, .int .u8 a1, .int .u8 a2, .int .u8 a3, .int .u8 a4])) (.int .i64 4)).run Tryz.prog u = .ok (.int .u8 a4) u := by kernel_rfl
set_option maxHeartbeats 1000000 in
theorem dvalid_spec (m : Mh) (hk : ∀ w', Fr Non w w' → k (.bool (dvB m)) w') : Cl Tryz.prog 182 [.agg (List.toArray (dvs m))] w k := by
  refine f182_ok ?_
  unfold f182
  intro b6 w7 hb6 hw7
  have f7 : Fr Non w w7 := hw7 ▸ (Fr.refl Non w).alloc _
  have hD7 : Blk w7 b6 23 (dvs m) := hb6 ▸ hw7 ▸ Blk.new w _ _
  rintro w8 rfl
  have f8 : Fr Non w w7.drew := f7.drew
  have hD8 : Blk w7.drew b6 23 (dvs m) := hD7
  refine ⟨m.d1, m.d2, m.d3, m.d4, m.d5, ats5' hD8, default_spec fun w14 g14 => ⟨g14.ext, _, _, _, _, _, rfl, fun h => ?_, fun h => ?_⟩⟩
  · have := hk _ (f8.trans' g14)
    rw [show dvB m = true from by unfold dvB; rw [h]; rfl] at this; exact this
  have hdv : dvB m = signsB (dl m) := by unfold dvB; rw [h]; rfl
  rw [hdv] at hk
  have f14 := f8.trans' g14
  refine ⟨m.d1, m.d2, m.d3, m.d4, m.d5, ats5' (hD8.fr g14 (fun h => h)), dsigns_spec m fun w26 g26 => ⟨_, _, _, _, _, rfl, ?_⟩⟩
  have f26 := f14.trans' g26
  intro b33 w34 hb33 hw34
  have f34 : Fr Non w w34 := hw34 ▸ f26.alloc _
  have hB34 : Blk w34 b33 286 [.int .u8 0, .int .u8 0, .int .u8 0, .int .u8 0, .int .u8 0] := hb33 ▸ hw34 ▸ Blk.new w26 _ _
  refine ⟨mayCells_of hB34 0 5 (by simp), ?_⟩
  intro w35 hw35
  have hB : Blk w35 b33 286 (dvs m) := hw35 ▸ hB34.setAll rfl
  have z26 := f26.size
  have f35 : Fr Non w w35 := hw35 ▸ f34.setAll hB34 (vs := dvs m) rfl (fun h => absurd h (by omega))
  have pd : ∀ j : Nat, j < 5 → (dvs m)[j]? = some (.int .u8 ((dl m).getD j 0)) := by
    intro j hj
    have : j = 0 ∨ j = 1 ∨ j = 2 ∨ j = 3 ∨ j = 4 := by omega
    rcases this with rfl | rfl | rfl | rfl | rfl <;> rfl
  refine ⟨m.d1, m.d2, m.d3, m.d4, m.d5, ats5' hB, fun t i w' => ∃ j : Nat, i = j ∧ j ≤ 5 ∧ t = 5 - j ∧ w' = w35 ∧ ∀ q, q < j → (mayB ((dl m).getD q 0) && !((dl m).take q).contains ((dl m).getD q 0)) = true, ⟨5, 0, rfl, by omega, rfl, rfl, fun q hq => by omega⟩, ?_⟩
  rintro t i w45 ⟨j, rfl, hj, rfl, rfl, hall⟩
  refine ⟨fun h => ?_, fun h => ?_⟩
  · have hj : j < 5 := by have := of_decide_eq_true h; omega
    refine ⟨(dl m).getD j 0, ?_, may_spec _ ⟨_, rfl, fun hm => ?_, fun hm => ?_⟩⟩
    · have : j = 0 ∨ j = 1 ∨ j = 2 ∨ j = 3 ∨ j = 4 := by omega
      rcases this with rfl | rfl | rfl | rfl | rfl
      · exact idx0 _ _ _ _ _
      · exact idx1 _ _ _ _ _
      · exact idx2 _ _ _ _ _
      · exact idx3 _ _ _ _ _
      · exact idx4 _ _ _ _ _
    · have hm := (Bool.not_eq_true' _).mp hm
      have := hk _ f35
      rw [show signsB (dl m) = false from allR_take (n := (dl m).length) (j := j) (by simp [dl]; omega) (by rw [hm]; rfl)] at this; exact this
    · have hm := (Bool.not_eq_false' _).mp hm
      have e5 : slS ⟨some ⟨b33, 0, none⟩, 5, 5⟩ 1 (0 : Int) (j : Int) = ⟨some ⟨b33, 0, none⟩, j, 5⟩ := by rw [slS0]
      refine ⟨⟨by omega, by omega, by omega⟩, ?_⟩
      rw [e5]
      refine ⟨fun t i w' => ∃ q : Nat, i = q ∧ q ≤ j ∧ t = j - q ∧ w' = w45 ∧ ∀ p, p < q → (dl m).getD p 0 ≠ (dl m).getD j 0, ⟨j, 0, rfl, by omega, rfl, rfl, fun p hp => by omega⟩, ?_⟩
      rintro t i w54 ⟨q, rfl, hq, rfl, rfl, hne⟩
      have hct : ∀ c, ((dl m).take j).contains c = true ↔ ∃ p, p < j ∧ (dl m).getD p 0 = c := by
        intro c
        rw [List.contains_iff_mem, List.mem_take_iff_getElem]
        constructor
        · rintro ⟨p, hp, rfl⟩
          refine ⟨p, by omega, ?_⟩
          rw [List.getD_eq_getElem?_getD, List.getElem?_eq_getElem (by omega)]; rfl
        · rintro ⟨p, hp, rfl⟩
          have hl : (dl m).length = 5 := rfl
          refine ⟨p, by omega, ?_⟩
          rw [List.getD_eq_getElem?_getD, List.getElem?_eq_getElem (by omega)]; rfl
      refine ⟨fun h => ?_, fun h => ?_⟩
      · have hq : q < j := by have := of_decide_eq_true h; simp only at this; omega
        refine ⟨⟨b33, 0, none⟩, rfl, ⟨by omega, by simp only; omega⟩, (dl m).getD q 0, by rw [add_mk, Nat.zero_add]; simp only [Int.toNat_natCast, Nat.mul_one]; exact hB.cell (pd q (by omega)), fun he => ?_, fun he => ⟨j - (q + 1), by omega, q + 1, by rw [w64_id (by omega) (by omega)]; push_cast; rfl, by omega, rfl, rfl, fun p hp => ?_⟩⟩
        · have := hk _ f35
          rw [show signsB (dl m) = false from allR_take (n := (dl m).length) (j := j) (by simp [dl]; omega) (by rw [hm, (hct _).2 ⟨q, hq, by simpa using he⟩]; rfl)] at this; exact this
        · by_cases hpq : p = q
          · subst hpq; simpa using he
          · exact hne p (by omega)
      · have hq : q = j := by have := of_decide_eq_false h; simp only at this; omega
        subst hq
        refine ⟨5 - (q + 1), by omega, q + 1, by rw [w64_id (by omega) (by omega)]; push_cast; rfl, by omega, rfl, rfl, fun p hp => ?_⟩
        by_cases hpq : p = q
        · subst hpq
          rw [hm, Bool.true_and, Bool.not_eq_true', Bool.eq_false_iff]
          intro hc
          obtain ⟨p2, h1, h2⟩ := (hct _).1 hc
          exact hne p2 h1 h2
        · exact hall p (by omega)
  · have hj : j = 5 := by have := of_decide_eq_false h; omega
    subst hj
    have := hk _ f35
    rw [show signsB (dl m) = true from allR_all (n := (dl m).length) (fun i hi => hall i (by simpa [dl] using hi))] at this; exact this
end
end Go.Proofs.YthpeengmcjpknaaGreatDoor
