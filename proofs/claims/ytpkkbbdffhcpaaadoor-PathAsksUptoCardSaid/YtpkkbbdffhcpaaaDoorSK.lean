/- The law PathTexts. -/
import Derived.Test.YtpkkbbdffhcpaaaDoorSJ
set_option linter.unusedSimpArgs false
set_option linter.unusedVariables false
namespace Go.Proofs.YtpkkbbdffhcpaaaDoor
open Go.V Go.RowKit
section
variable {w : World} {k : Value → World → Prop}
theorem texts_spec (s : Str) (p : Pa) (hs : s.length ≤ 1000000000000000) (hp : p.seg.length ≤ 1000000000000000) (hk : ∀ w', Fr Non w w' → k (.bool true) w') : Cl Tryd.prog 3 [.string (mkS s), .agg (List.toArray (pc p))] w k := by
  refine f3_ok ?_
  unfold f3
  intro b8 w9 hb8 hw9
  have f9 : Fr Non w w9 := hw9 ▸ (Fr.refl Non w).alloc _
  have hA : Blk w9 b8 23 (pc p) := hb8 ▸ hw9 ▸ Blk.new w (pc p) 23
  refine ⟨fun _ => alive_spec fun w1 g1 => ⟨_, rfl, hk _ (f9.trans' g1)⟩, fun _ => ?_⟩
  refine parse_spec s hs fun w13 g13 => ⟨_, _, _, _, _, _, _, rfl, ?_⟩
  intro b22 w23 hb22 hw23
  obtain ⟨m1, n1⟩ := newPa (f9.trans' g13) (pp (parseP s)) hb22 hw23
  refine ⟨m1, fun w24 hw24 => ?_⟩
  obtain ⟨hP, g24, f24⟩ := n1 w24 hw24
  refine rparse_spec s hs fun w25 g25 => ?_
  rw [← parse_alike]
  refine ⟨_, _, _, _, _, _, _, rfl, ?_⟩
  intro b34 w35 hb34 hw35
  obtain ⟨m2, n2⟩ := newPa (f24.trans' g25) (pp (parseP s)) hb34 hw35
  refine ⟨m2, fun w36 hw36 => ?_⟩
  obtain ⟨hQ, g36, f36⟩ := n2 w36 hw36
  rintro w37 rfl
  refine alive_spec fun w38 g38 => ⟨_, rfl, fun _ => ?_, fun h => by cases h⟩
  have gd : Fr Non w36 w38 := ((Fr.refl Non w36).drew).trans' g38
  have f38 : Fr Non w w38 := f36.trans' gd
  have hP2 := ((hP.fr g25 (fun h => h)).fr g36 (fun h => h)).fr gd (fun h => h)
  have hQ2 := hQ.fr gd (fun h => h)
  have hA2 := ((((hA.fr g13 (fun h => h)).fr g24 (fun h => h)).fr g25 (fun h => h)).fr g36 (fun h => h)).fr gd (fun h => h)
  refine ⟨_, _, _, _, _, _, patat hP2, _, _, _, _, _, _, patat hQ2, fun _ => ⟨fun _ => ⟨_, _, _, _, _, _, patat hA2, _, _, _, _, _, _, patat hA2, ?_⟩, fun h => by simp at h⟩, fun h => by simp at h⟩
  refine print_spec p hp fun w65 g65 => ⟨g65.ext, _, rfl, rprint_spec p hp fun w68 g68 => ⟨_, rfl, fun _ => ?_, fun h => by simp at h⟩⟩
  have hA3 := (hA2.fr g65 (fun h => h)).fr g68 (fun h => h)
  refine ⟨_, _, _, _, _, _, patat hA3, _, _, _, _, _, _, patat hA3, valid_spec p hp fun w83 g83 => ⟨g83.ext, _, rfl, rvalid_spec p hp fun w86 g86 => ⟨_, rfl, ?_⟩⟩⟩
  rw [show (validP p == validP p) = true from by simp]
  exact hk _ (((f38.trans' g65).trans' g68).trans' (g83.trans' g86))
end
end Go.Proofs.YtpkkbbdffhcpaaaDoor
