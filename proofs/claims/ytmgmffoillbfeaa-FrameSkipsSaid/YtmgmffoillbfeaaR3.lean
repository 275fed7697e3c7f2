/- Proved: for every two strings, FrameSkips returns true and the strings read afterwards as they read before. Conditions: none beyond those that the given statement itself bears. -/
import Derived.Test.YtmgmffoillbfeaaX6
import Derived.Test.YtmgmffoillbfeaaChecked
import Derived.ProofKit
import Derived.SizedLaws
namespace Go.Proofs.Ytmgmffoillbfeaa
open Go.ChangeShapes Go.WideShapes Go.ChangeAt Go.ChangeMaps Go.RowKit Go.V

theorem Try.own : ownKnob Try.prog.godebug = none := by kernel_rfl

set_option maxRecDepth 100000 in
theorem skips_lifted (os : Os) (started : os.Started) (H : Type) (enc : TypeId × Value → H) :
    ReturnsInHanded {} Try.checked os 3 .any (Rows.frameSkipsSpec.pre6 enc Try.prog Try.f3 Rows.frameSkipsRow.domain false) (Rows.frameSkipsSpec.post enc Try.prog Try.f3 false true false false) := by
  refine returnsInHanded_of_change_sized (C := Try.checked) Try.own started (by kernel_rfl) Try.func3
    (ChangeSpec.witness6 (enc := enc) (C := Try.checked) false ⟨#[], #[.string .empty, .string .empty], []⟩ 8 (by kernel_rfl) (by kernel_rfl) (by kernel_rfl) (by kernel_rfl)) ?_
  intro W base args ds gs before hval0 hW _ hsz _
  have hval : ∀ (j : Nat) t v, Try.f3.params[j]? = some t → args[j]? = some v → Value.okWide Try.prog W .any base t v := hval0
  have hW' := hW
  obtain ⟨p, q, hA0, hV, rfl, _, _⟩ := hW
  have hA : DataW.TrodAll enc Try.prog W 0 (fun _ => true) true Try.f3.params.toList args.toList ds p := hA0
  rw [show Try.f3.params = #[9, 9] from rfl] at hA hval
  obtain ⟨v0, v1, d0, d1, p0, p1, rfl, rfl, rfl, h0, h1⟩ := trodAll_two hA
  obtain ⟨rfl, rfl⟩ := trodVars_none hV
  obtain ⟨a, rfl, rfl, rfl, wa⟩ := open_string tU9 (hval 0 9 v0 rfl rfl) h0
  obtain ⟨b, rfl, rfl, rfl, wb⟩ := open_string tU9 (hval 1 9 v1 rfl rfl) h1
  have la : a.data.toList.length ≤ reachBytes := sized_string hsz (j := 0) (t := 9) rfl rfl
  have lb : b.data.toList.length ≤ reachBytes := sized_string hsz (j := 1) (t := 9) rfl rfl
  have hr := reachBytes_lt
  have key := skips_spec (w := W) (k := fun v W' => Rows.frameSkipsSpec.post enc Try.prog Try.f3 false true false false W #[.string a, .string b] v W') a.data.toList b.data.toList (by omega) (by omega) (fun W' hf => ?_)
  · rw [mkS_toList, mkS_toList] at key
    exact key
  · exact ⟨_, _, _, [], [], [], hW', trodAll_mk1 (shut_bool tU4 _), trodAll_mk2 (shut_string tU9 wa) (shut_string tU9 wb), rfl, hf.below.frame _, fun h => by cases h⟩

theorem frameSkips_holds : Rows.FrameSkipsSaid :=
  OpenClaim.holds_of_wide 3 Try.f3 rfl rfl rfl rfl rfl rfl rfl ⟨rfl, rfl, rfl, rfl, rfl⟩ rfl rfl rfl rfl rfl (by kernel_rfl) Try.func3 (by kernel_rfl)
    (of_decide_eq_true (by kernel_rfl)) (by unfold Func.isWrapper; rw [if_neg (by decide +kernel)]; exact ⟨rfl, rfl⟩)
    (fun os started H enc _ => skips_lifted os started H enc)
#print axioms frameSkips_holds
end Go.Proofs.Ytmgmffoillbfeaa
