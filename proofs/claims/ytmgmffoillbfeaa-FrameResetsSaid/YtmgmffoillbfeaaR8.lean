/- Proved: for every two strings and every int, FrameResets returns true and the strings and the int read afterwards as they read before. Conditions: none beyond those that the given statement itself bears. -/
import Derived.Test.YtmgmffoillbfeaaX8
import Derived.Test.YtmgmffoillbfeaaChecked
import Derived.ProofKit
import Derived.SizedLaws
namespace Go.Proofs.Ytmgmffoillbfeaa
open Go.ChangeShapes Go.WideShapes Go.ChangeAt Go.ChangeMaps Go.RowKit Go.V

theorem Try.own : ownKnob Try.prog.godebug = none := by kernel_rfl
theorem rU3 : Try.prog.underlying 3 = some (.int .i64) := by kernel_rfl

set_option maxRecDepth 100000 in
theorem row_lifted (os : Os) (started : os.Started) (H : Type) (enc : TypeId × Value → H) :
    ReturnsInHanded {} Try.checked os 8 .any (Rows.frameResetsSpec.pre6 enc Try.prog Try.f8 Rows.frameResetsRow.domain false) (Rows.frameResetsSpec.post enc Try.prog Try.f8 false true false false) := by
  refine returnsInHanded_of_change_sized (C := Try.checked) Try.own started (by kernel_rfl) Try.func8
    (ChangeSpec.witness6 (enc := enc) (C := Try.checked) false ⟨#[], #[.string .empty, .string .empty, .int .i64 0], []⟩ 8 (by kernel_rfl) (by kernel_rfl) (by kernel_rfl) (by kernel_rfl)) ?_
  intro W base args ds gs before hval0 hW _ hsz _
  have hval : ∀ (j : Nat) t v, Try.f8.params[j]? = some t → args[j]? = some v → Value.okWide Try.prog W .any base t v := hval0
  have hW' := hW
  obtain ⟨p, q, hA0, hV, rfl, _, _⟩ := hW
  have hA : DataW.TrodAll enc Try.prog W 0 (fun _ => true) true Try.f8.params.toList args.toList ds p := hA0
  rw [show Try.f8.params = #[9, 9, 3] from rfl] at hA hval
  obtain ⟨v0, v1, v2, d0, d1, d2, p0, p1, p2, rfl, rfl, rfl, h0, h1, h2⟩ := trodAll_three hA
  obtain ⟨rfl, rfl⟩ := trodVars_none hV
  obtain ⟨a0, rfl, rfl, rfl, wa0⟩ := open_string tU9 (hval 0 9 v0 rfl rfl) h0
  have la0 : a0.data.toList.length ≤ reachBytes := sized_string hsz (j := 0) (t := 9) rfl rfl
  obtain ⟨a1, rfl, rfl, rfl, wa1⟩ := open_string tU9 (hval 1 9 v1 rfl rfl) h1
  have la1 : a1.data.toList.length ≤ reachBytes := sized_string hsz (j := 1) (t := 9) rfl rfl
  obtain ⟨a2, rfl, rfl, rfl, wa2⟩ := open_int rU3 (hval 2 3 v2 rfl rfl) h2
  have hr := reachBytes_lt
  have key := resets_spec (w := W) (k := fun v W' => Rows.frameResetsSpec.post enc Try.prog Try.f8 false true false false W #[.string a0, .string a1, .int .i64 a2] v W') a0.data.toList a1.data.toList a2 (by omega) (by omega) (fun W' hf => ?_)
  · rw [mkS_toList, mkS_toList] at key
    exact key
  · exact ⟨_, _, _, [], [], [], hW', trodAll_mk1 (shut_bool tU4 _), trodAll_mk3 (shut_string tU9 wa0) (shut_string tU9 wa1) (shut_int rU3 wa2), rfl, hf.below.frame _, fun h => by cases h⟩

theorem frameResets_holds : Rows.FrameResetsSaid :=
  OpenClaim.holds_of_wide 8 Try.f8 rfl rfl rfl rfl rfl rfl rfl ⟨rfl, rfl, rfl, rfl, rfl⟩ rfl rfl rfl rfl rfl (by kernel_rfl) Try.func8 (by kernel_rfl)
    (of_decide_eq_true (by kernel_rfl)) (by unfold Func.isWrapper; rw [if_neg (by decide +kernel)]; exact ⟨rfl, rfl⟩)
    (fun os started H enc _ => row_lifted os started H enc)
#print axioms frameResets_holds
end Go.Proofs.Ytmgmffoillbfeaa
