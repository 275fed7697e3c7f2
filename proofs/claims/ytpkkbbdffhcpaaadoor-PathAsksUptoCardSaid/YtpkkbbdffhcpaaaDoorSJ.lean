/- The first calls whose answers the document fixes. -/
import Derived.Test.YtpkkbbdffhcpaaaDoorSI
set_option linter.unusedSimpArgs false
set_option linter.unusedVariables false
namespace Go.Proofs.YtpkkbbdffhcpaaaDoor
open Go.V Go.RowKit
theorem newPa {w0 w1 : World} (f : Fr Non w0 w1) (p : Pa) {b : Nat} {w2 : World} (hb : b = w1.heap.size) (hw : w2 = w1.alloc (.cells (List.toArray (pc zPa)) 23)) :
    mayCells w2 ⟨b, 0, none⟩ 0 6 ∧ ∀ w3, w3 = setCells w2 ⟨b, 0, none⟩ 0 (pc p) → Blk w3 b 23 (pc p) ∧ Fr Non w1 w3 ∧ Fr Non w0 w3 := by
  have hB : Blk w2 b 23 (pc zPa) := hb ▸ hw ▸ Blk.new w1 (pc zPa) 23
  have f2 : Fr Non w1 w2 := hw ▸ (Fr.refl Non w1).alloc _
  refine ⟨mayCells_of hB 0 6 (by simp [pc]), ?_⟩
  rintro w3 rfl
  have f3 := f2.setAll hB (vs := pc p) rfl (fun h => absurd h (by omega))
  exact ⟨hB.setAll rfl, f3, f.trans' f3⟩
theorem patat {w : World} {b : Nat} {p : Pa} (h : Blk w b 23 (pc p)) : cellsAt w ⟨b, 0, none⟩ 0 (pc p) := h.ats (pc p) 0 0 (fun q v hq => by simpa using hq)
theorem al1 : parseP [80, 73, 68, 91, 50, 93, 45, 53, 46, 49, 46, 50] = some ⟨[80, 73, 68], 2, 5, 1, 1, 2⟩ := by kernel_rfl
theorem al2 : parseP [80, 73, 68, 45, 50, 46, 50] = some ⟨[80, 73, 68], 1, 2, 1, 2, 1⟩ := by kernel_rfl
theorem al3 : printP ⟨[80, 73, 68], 2, 5, 1, 1, 2⟩ = [80, 73, 68, 91, 50, 93, 45, 53, 46, 49, 46, 50] := by kernel_rfl
theorem al4 : validP ⟨[80, 73, 68], 1, 2, 1, 2, 1⟩ = true := by kernel_rfl
section
variable {w : World} {k : Value → World → Prop}
theorem alive_spec (hk : ∀ w', Fr Non w w' → k (.bool true) w') : Cl Tryd.prog 8 [] w k := by
  refine f8_ok ?_
  unfold f8
  refine parse_spec _ (by decide) fun w1 g1 => ?_
  rw [al1]
  refine ⟨_, _, _, _, _, _, _, rfl, ?_⟩
  intro b10 w11 hb10 hw11
  obtain ⟨m1, n1⟩ := newPa g1 ⟨[80, 73, 68], 2, 5, 1, 1, 2⟩ hb10 hw11
  refine ⟨m1, fun w12 hw12 => ?_⟩
  obtain ⟨hP, _, f12⟩ := n1 w12 hw12
  refine parse_spec _ (by decide) fun w13 g13 => ?_
  rw [al2]
  refine ⟨_, _, _, _, _, _, _, rfl, ?_⟩
  intro b22 w23 hb22 hw23
  obtain ⟨m2, n2⟩ := newPa (f12.trans' g13) ⟨[80, 73, 68], 1, 2, 1, 2, 1⟩ hb22 hw23
  refine ⟨m2, fun w24 hw24 => ?_⟩
  obtain ⟨hQ, g24, f24⟩ := n2 w24 hw24
  have hP24 := (hP.fr g13 (fun h => h)).fr g24 (fun h => h)
  refine ⟨fun _ => ⟨fun _ => ⟨_, _, _, _, _, _, patat hP24, ?_⟩, fun h => absurd h (by decide)⟩, fun h => absurd h (by decide)⟩
  refine print_spec ⟨[80, 73, 68], 2, 5, 1, 1, 2⟩ (by decide) fun w31 g31 => ?_
  rw [al3]
  have hQ31 := hQ.fr g31 (fun h => h)
  refine ⟨_, rfl, fun _ => ⟨2, by rw [add_mk]; exact hQ31.cell rfl, fun _ => ⟨1, by rw [add_mk]; exact hQ31.cell rfl, fun _ => ⟨_, _, _, _, _, _, patat hQ31, ?_⟩, fun h => absurd h (by decide)⟩, fun h => absurd h (by decide)⟩, fun h => absurd h (by decide)⟩
  refine valid_spec ⟨[80, 73, 68], 1, 2, 1, 2, 1⟩ (by decide) fun w42 g42 => ?_
  rw [al4]
  exact ⟨_, rfl, hk _ ((f24.trans' g31).trans' g42)⟩
end
end Go.Proofs.YtpkkbbdffhcpaaaDoor
