/- A value of signs, opened. -/
import Derived.Test.YtoaoofobidhfjaaGreatDoorSR1
import Derived.Test.YtoaoofobidhfjaaGreatDoorE1
set_option linter.unusedSimpArgs false
set_option linter.unusedVariables false
set_option maxRecDepth 100000
namespace Go.Proofs.YtoaoofobidhfjaaGreatDoor
open Go.ChangeShapes Go.WideShapes Go.ChangeAt Go.ChangeMaps Go.RowKit Go.V
section
variable {H : Type} {enc : TypeId × Value → H} {W : World} {base : Nat} {spare : Nat → Bool} {held : Bool}
theorem open_delims {b0 : Nat} {v : Value} {d : DataW H} {p : List MemPlace} (hv : Value.okWide Tryz.prog W .any b0 23 v) (h : DataW.Trod enc Tryz.prog W base spare held 23 v d p) :
    ∃ dm : Dm, v = .agg (List.toArray (dvD dm)) := by
  obtain ⟨cs, rfl, hsz⟩ := okWide_struct uD hv
  obtain ⟨fuel, hf⟩ := h
  obtain ⟨zs, n2, _, hz, _, hlen2, hel2⟩ := DataW.trod_struct uD hf
  rw [cD] at hsz
  obtain ⟨cs⟩ := cs
  have hlen2 : zs.length = 5 := hlen2
  have q0 : DataW.trod enc Tryz.prog W base spare held n2 5 (((Value.agg ⟨cs⟩).cells.toList.drop 0).take (Tryz.prog.cellsOf 5)) = zs[0]? := hel2 0 _ rfl
  have q1 : DataW.trod enc Tryz.prog W base spare held n2 5 (((Value.agg ⟨cs⟩).cells.toList.drop 1).take (Tryz.prog.cellsOf 5)) = zs[1]? := hel2 1 _ rfl
  have q2 : DataW.trod enc Tryz.prog W base spare held n2 5 (((Value.agg ⟨cs⟩).cells.toList.drop 2).take (Tryz.prog.cellsOf 5)) = zs[2]? := hel2 2 _ rfl
  have q3 : DataW.trod enc Tryz.prog W base spare held n2 5 (((Value.agg ⟨cs⟩).cells.toList.drop 3).take (Tryz.prog.cellsOf 5)) = zs[3]? := hel2 3 _ rfl
  have q4 : DataW.trod enc Tryz.prog W base spare held n2 5 (((Value.agg ⟨cs⟩).cells.toList.drop 4).take (Tryz.prog.cellsOf 5)) = zs[4]? := hel2 4 _ rfl
  rw [cU8] at q0 q1 q2 q3 q4
  match cs, hsz, zs, hlen2 with
  | [c0, c1, c2, c3, c4], _, [z0, z1, z2, z3, z4], _ =>
    simp only [Value.cells] at q0 q1 q2 q3 q4
    obtain ⟨n0, g0, _, wf0⟩ := DataW.trod_int rU8 q0
    obtain ⟨n1, g1, _, wf1⟩ := DataW.trod_int rU8 q1
    obtain ⟨n2, g2, _, wf2⟩ := DataW.trod_int rU8 q2
    obtain ⟨n3, g3, _, wf3⟩ := DataW.trod_int rU8 q3
    obtain ⟨n4, g4, _, wf4⟩ := DataW.trod_int rU8 q4
    simp at g0 g1 g2 g3 g4
    subst g0 g1 g2 g3 g4
    have rng : ∀ {n : Int}, (Lit.int .u8 n).wf = true → 0 ≤ n ∧ n ≤ 255 := fun h => by simpa [Lit.wf, show IntKind.u8.min = 0 from rfl, show IntKind.u8.max = 255 from rfl] using h
    have hD : Dg ⟨n0, n1, n2, n3, n4, ⟨none, 0, 0⟩⟩ := by
      intro d hd
      have hd : d ∈ [n0, n1, n2, n3, n4] := hd
      simp at hd
      rcases hd with rfl | rfl | rfl | rfl | rfl
      · exact rng wf0
      · exact rng wf1
      · exact rng wf2
      · exact rng wf3
      · exact rng wf4
    have h := mD_dm hD
    refine ⟨dmM ⟨n0, n1, n2, n3, n4, ⟨none, 0, 0⟩⟩, ?_⟩
    have e : dvD (dmM ⟨n0, n1, n2, n3, n4, ⟨none, 0, 0⟩⟩) = dvs (mD (dmM ⟨n0, n1, n2, n3, n4, ⟨none, 0, 0⟩⟩) ⟨none, 0, 0⟩) := rfl
    rw [e, h]; rfl
end
end Go.Proofs.YtoaoofobidhfjaaGreatDoor
