/- Proved: for every string, FrameWraps returns true and the string reads afterwards as it read before. Conditions: none beyond those that the given statement itself bears. -/
import Derived.Test.YtmgmffoillbfeaaX7
import Derived.Test.YtmgmffoillbfeaaChecked
import Derived.ProofKit
import Derived.SizedLaws
namespace Go.Proofs.Ytmgmffoillbfeaa
open Go.ChangeShapes Go.WideShapes Go.ChangeAt Go.ChangeMaps Go.RowKit Go.V

theorem Try.own : ownKnob Try.prog.godebug = none := by kernel_rfl

set_option maxRecDepth 100000 in
theorem row_lifted (os : Os) (started : os.Started) (H : Type) (enc : TypeId × Value → H) :
    ReturnsInHanded {} Try.checked os 7 .any (Rows.frameWrapsSpec.pre6 enc Try.prog Try.f7 Rows.frameWrapsRow.domain false) (Rows.frameWrapsSpec.post enc Try.prog Try.f7 false true false false) := by
  refine returnsInHanded_of_change_sized (C := Try.checked) Try.own started (by kernel_rfl) Try.func7
    (ChangeSpec.witness6 (enc := enc) (C := Try.checked) false ⟨#[], #[.string .empty], []⟩ 8 (by kernel_rfl) (by kernel_rfl) (by kernel_rfl) (by kernel_rfl)) ?_
  intro W base args ds gs before hval0 hW _ hsz _
  have hval : ∀ (j : Nat) t v, Try.f7.params[j]? = some t → args[j]? = some v → Value.okWide Try.prog W .any base t v := hval0
  have hW' := hW
  obtain ⟨p, q, hA0, hV, rfl, _, _⟩ := hW
  have hA : DataW.TrodAll enc Try.prog W 0 (fun _ => true) true Try.f7.params.toList args.toList ds p := hA0
  rw [show Try.f7.params = #[9] from rfl] at hA hval
  obtain ⟨v0, d0, rfl, rfl, h0⟩ := trodAll_one hA
  obtain ⟨rfl, rfl⟩ := trodVars_none hV
  obtain ⟨a0, rfl, rfl, rfl, wa0⟩ := open_string tU9 (hval 0 9 v0 rfl rfl) h0
  have la0 : a0.data.toList.length ≤ reachBytes := sized_string hsz (j := 0) (t := 9) rfl rfl
  have hr := reachBytes_lt
  have key := wraps_spec (w := W) (k := fun v W' => Rows.frameWrapsSpec.post enc Try.prog Try.f7 false true false false W #[.string a0] v W') a0.data.toList (by omega) (fun W' hf => ?_)
  · rw [mkS_toList] at key
    exact key
  · exact ⟨_, _, _, [], [], [], hW', trodAll_mk1 (shut_bool tU4 _), trodAll_mk1 (shut_string tU9 wa0), rfl, hf.below.frame _, fun h => by cases h⟩

theorem frameWraps_holds : Rows.FrameWrapsSaid :=
  OpenClaim.holds_of_wide 7 Try.f7 rfl rfl rfl rfl rfl rfl rfl ⟨rfl, rfl, rfl, rfl, rfl⟩ rfl rfl rfl rfl rfl (by kernel_rfl) Try.func7 (by kernel_rfl)
    (of_decide_eq_true (by kernel_rfl)) (by unfold Func.isWrapper; rw [if_neg (by decide +kernel)]; exact ⟨rfl, rfl⟩)
    (fun os started H enc _ => row_lifted os started H enc)
#print axioms frameWraps_holds
end Go.Proofs.Ytmgmffoillbfeaa
