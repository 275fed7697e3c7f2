/- Whether it is a path. -/
import Derived.Test.YtpkkbbdffhcpaaaDoorS6
set_option linter.unusedSimpArgs false
set_option linter.unusedVariables false
namespace Go.Proofs.YtpkkbbdffhcpaaaDoor
open Go.V Go.RowKit
/-- A path. -/
structure Pa where
  seg : Str
  occ : Int
  fld : Int
  rep : Int
  cmp : Int
  sub : Int
def pc (p : Pa) : List Value := [.string (mkS p.seg), .int .i64 p.occ, .int .i64 p.fld, .int .i64 p.rep, .int .i64 p.cmp, .int .i64 p.sub]
def inR (n : Int) : Bool := decide (1 ≤ n) && decide (n ≤ 200)
def plain (p : Pa) : Bool := (p.fld == 0) && ((p.rep == 0) && ((p.cmp == 0) && ((p.sub == 0) && true)))
def validP (p : Pa) : Bool := (isName p.seg && inR p.occ) && (plain p || (inR p.fld && (inR p.rep && (inR p.cmp && inR p.sub))))
section
variable {w : World} {k : Value → World → Prop}
theorem in_spec (n : Int) (hk : k (.bool (inR n)) w) : Cl Tryd.prog 35 [.int .i64 n] w k := by
  refine f35_ok ?_
  unfold f35
  unfold inR at hk
  refine ⟨fun h => ?_, fun h => ?_⟩
  · rw [h] at hk; exact hk
  · rw [h] at hk; exact hk
theorem valid_spec (p : Pa) (hs : p.seg.length ≤ 1000000000000000) (hk : ∀ w', Fr Non w w' → k (.bool (validP p)) w') : Cl Tryd.prog 13 [.agg (List.toArray (pc p))] w k := by
  refine f13_ok ?_
  unfold f13
  rintro b7 w8 rfl hw8
  have f8 : Fr Non w w8 := hw8 ▸ (Fr.refl Non w).alloc _
  have hB : Blk w8 w.heap.size 23 (pc p) := hw8 ▸ Blk.new w (pc p) 23
  refine ⟨fun v w' => v = !(isName p.seg && inR p.occ) ∧ Fr Non w8 w', ?_, p.seg, hB.cell rfl, ?_⟩
  · rintro v w1 ⟨rfl, f1⟩
    have g1 := upN f8 f1 (fun g hg => hg.elim)
    have hB1 := hB.fr f1 (fun h => h)
    refine ⟨fun h => ?_, fun h => ?_⟩
    · have h := (Bool.not_eq_true' _).mp h
      have e : validP p = false := by unfold validP; rw [h]; rfl
      have := hk w1 g1
      rw [e] at this; exact this
    have h := (Bool.not_eq_false' _).mp h
    have ev : validP p = (plain p || (inR p.fld && (inR p.rep && (inR p.cmp && inR p.sub)))) := by unfold validP; rw [h]; rfl
    have hk1 := hk w1 g1
    rw [ev] at hk1
    refine ⟨p.seg, p.occ, p.fld, p.rep, p.cmp, p.sub, hB1.ats (pc p) 0 0 (fun q v hq => by simpa using hq), p.seg, hB1.cell rfl, p.occ, by rw [add_mk]; exact hB1.cell rfl, fun hp => ?_, fun hp => ?_⟩
    · have hp : plain p = true := by simpa [plain] using hp
      rw [hp] at hk1; exact hk1
    · have hp : plain p = false := by
        cases hq : plain p
        · rfl
        · exfalso; unfold plain at hq; rw [hq] at hp; simp at hp
      rw [hp, Bool.false_or] at hk1
      refine ⟨p.fld, by rw [add_mk]; exact hB1.cell rfl, in_spec _ ⟨_, rfl, fun h1 => ?_, fun h1 => by rw [h1] at hk1; exact hk1⟩⟩
      rw [h1, Bool.true_and] at hk1
      refine ⟨p.rep, by rw [add_mk]; exact hB1.cell rfl, in_spec _ ⟨_, rfl, fun h1 => ?_, fun h1 => by rw [h1] at hk1; exact hk1⟩⟩
      rw [h1, Bool.true_and] at hk1
      refine ⟨p.cmp, by rw [add_mk]; exact hB1.cell rfl, in_spec _ ⟨_, rfl, fun h1 => ?_, fun h1 => by rw [h1] at hk1; exact hk1⟩⟩
      rw [h1, Bool.true_and] at hk1
      exact ⟨p.sub, by rw [add_mk]; exact hB1.cell rfl, in_spec _ ⟨_, rfl, hk1⟩⟩
  · refine isName_spec p.seg hs fun w1 f1 => ⟨_, rfl, fun h => ?_, fun h => ?_⟩
    · have h := (Bool.not_eq_true' _).mp h
      exact ⟨by rw [h]; rfl, f1⟩
    · have h := (Bool.not_eq_false' _).mp h
      refine ⟨p.occ, by rw [add_mk]; exact (hB.fr f1 (fun h => h)).cell rfl, in_spec _ ⟨_, rfl, ?_, f1⟩⟩
      rw [h]; rfl
theorem decide_two (x : Int) : ((!decide (x < 1)) && !decide (200 < x)) = inR x := by
  unfold inR
  by_cases h1 : x < 1 <;> by_cases h2 : 200 < x <;> simp [h1, h2] <;> omega
theorem rvalid_spec (p : Pa) (hs : p.seg.length ≤ 1000000000000000) (hk : ∀ w', Fr Non w w' → k (.bool (validP p)) w') : Cl Tryd.prog 14 [.agg (List.toArray (pc p))] w k := by
  refine f14_ok ?_
  unfold f14
  rintro b7 w8 rfl hw8
  have f8 : Fr Non w w8 := hw8 ▸ (Fr.refl Non w).alloc _
  have hB : Blk w8 w.heap.size 23 (pc p) := hw8 ▸ Blk.new w (pc p) 23
  refine ⟨fun v w' => v = !(isName p.seg && inR p.occ) ∧ w' = w8, ?_, p.seg, hB.cell rfl, ?_⟩
  · rintro v w1 ⟨rfl, rfl⟩
    have hk1 := hk w1 f8
    refine ⟨fun h => ?_, fun h => ?_⟩
    · have h := (Bool.not_eq_true' _).mp h
      have e : validP p = false := by unfold validP; rw [h]; rfl
      rw [e] at hk1; exact hk1
    have h := (Bool.not_eq_false' _).mp h
    have ev : validP p = (plain p || (inR p.fld && (inR p.rep && (inR p.cmp && inR p.sub)))) := by unfold validP; rw [h]; rfl
    refine ⟨p.fld, by rw [add_mk]; exact hB.cell rfl, fun h0 => ?_, fun h0 => ?_⟩
    · have nf : inR p.fld = false := by have : p.fld = 0 := by simpa using h0
                                        rw [this]; rfl
      have ev2 : validP p = ((p.rep == 0) && ((p.cmp == 0) && (p.sub == 0))) := by rw [ev, nf]; simp only [plain, h0, Bool.true_and, Bool.and_true, Bool.false_and, Bool.or_false]
      rw [ev2] at hk1
      refine ⟨p.rep, by rw [add_mk]; exact hB.cell rfl, fun h1 => ?_, fun h1 => by rw [h1] at hk1; exact hk1⟩
      rw [h1, Bool.true_and] at hk1
      refine ⟨p.cmp, by rw [add_mk]; exact hB.cell rfl, fun h1 => ?_, fun h1 => by rw [h1] at hk1; exact hk1⟩
      rw [h1, Bool.true_and] at hk1
      exact ⟨p.sub, by rw [add_mk]; exact hB.cell rfl, hk1⟩
    · have np : plain p = false := by unfold plain; rw [h0]; rfl
      rw [ev, np, Bool.false_or] at hk1
      refine ⟨p.fld, by rw [add_mk]; exact hB.cell rfl, p.rep, by rw [add_mk]; exact hB.cell rfl, p.cmp, by rw [add_mk]; exact hB.cell rfl, p.sub, by rw [add_mk]; exact hB.cell rfl, ?_⟩
      rintro b26 w27 rfl hw27
      have f27 : Fr Non w1 w27 := hw27 ▸ (Fr.refl Non w1).alloc _
      have hA := Blk.new w1 [.int .i64 0, .int .i64 0, .int .i64 0, .int .i64 0] 63
      rw [← hw27] at hA
      refine ⟨mayCells_of hA 0 4 (by simp), ?_⟩
      rintro w28 hw28
      have hA2 : Blk w28 w1.heap.size 63 [.int .i64 p.fld, .int .i64 p.rep, .int .i64 p.cmp, .int .i64 p.sub] := hw28 ▸ hA.setAll rfl
      have f28 : Fr Non w1 w28 := hw28 ▸ f27.setAll hA (vs := [.int .i64 p.fld, .int .i64 p.rep, .int .i64 p.cmp, .int .i64 p.sub]) rfl (fun h => absurd h (Nat.lt_irrefl _))
      have hk2 : k (.bool (inR p.fld && (inR p.rep && (inR p.cmp && inR p.sub)))) w28 := by
        have := hk w28 (upN f8 f28 (fun g hg => hg.elim))
        rw [ev, np, Bool.false_or] at this; exact this
      let vs : List Int := [p.fld, p.rep, p.cmp, p.sub]
      have hvs : (inR p.fld && (inR p.rep && (inR p.cmp && inR p.sub))) = vs.all inR := by simp [vs]
      rw [hvs] at hk2
      refine ⟨fun m i w' => ∃ j : Nat, i = j ∧ j ≤ 4 ∧ m = 4 - j ∧ w' = w28 ∧ (vs.take j).all inR = true, ⟨4, 0, rfl, by omega, by omega, rfl, rfl⟩, ?_⟩
      rintro m i w33 ⟨j, rfl, hj, rfl, rfl, hall⟩
      have hlen : vs.length = 4 := rfl
      refine ⟨fun hlt => ?_, fun hge => ?_⟩
      · have hjl : j < 4 := by have := of_decide_eq_true hlt; omega
        have hcell : w33.cell? ((⟨w1.heap.size, 0, none⟩ : Addr).add (((j : Int)).toNat * 1)) = some (.int .i64 (vs[j]'(by omega))) := by
          rw [add_mk]
          refine hA2.cell ?_
          have : j = 0 ∨ j = 1 ∨ j = 2 ∨ j = 3 := by omega
          rcases this with rfl | rfl | rfl | rfl <;> rfl
        refine ⟨fun v w' => v = !inR (vs[j]'(by omega)) ∧ w' = w33, ?_, ⟨by omega, by omega⟩, _, hcell, fun h1 => ⟨?_, rfl⟩, fun h1 => ⟨⟨by omega, by omega⟩, _, hcell, ?_, rfl⟩⟩
        · rintro v w36 ⟨rfl, rfl⟩
          refine ⟨fun hb => ?_, fun hb => ?_⟩
          · have hb := (Bool.not_eq_true' _).mp hb
            have : vs.all inR = false := by
              rw [Bool.eq_false_iff]; intro ha
              have := List.all_eq_true.1 ha _ (List.getElem_mem (show j < vs.length by omega))
              rw [hb] at this; cases this
            rw [this] at hk2; exact hk2
          · have hb := (Bool.not_eq_false' _).mp hb
            refine ⟨4 - (j + 1), by omega, j + 1, by rw [w64_id (by omega) (by omega)]; push_cast; rfl, by omega, rfl, rfl, ?_⟩
            rw [List.take_succ_eq_append_getElem (by omega), List.all_append, hall]; simp [hb]
        · rw [← decide_two, h1]; rfl
        · rw [← decide_two, h1]; simp
      · obtain rfl : j = 4 := by have := of_decide_eq_false hge; omega
        have : vs.all inR = true := hall
        rw [this] at hk2; exact hk2
  · refine rname_spec p.seg hs ⟨_, rfl, fun h => ?_, fun h => ?_⟩
    · have h := (Bool.not_eq_true' _).mp h
      exact ⟨by rw [h]; rfl, rfl⟩
    · have h := (Bool.not_eq_false' _).mp h
      refine ⟨p.occ, by rw [add_mk]; exact hB.cell rfl, fun h1 => ⟨?_, rfl⟩, fun h1 => ⟨p.occ, by rw [add_mk]; exact hB.cell rfl, ?_, rfl⟩⟩
      · rw [h, ← decide_two, h1]; rfl
      · rw [h, ← decide_two, h1]; simp
end
end Go.Proofs.YtpkkbbdffhcpaaaDoor
