/- Proved: for every two ints and every string, FrameLong returns true and the ints and the string read afterwards as they read before. Conditions: none beyond those that the given statement itself bears. -/
import Derived.Test.YtmgmffoillbfeaaX9
import Derived.Test.YtmgmffoillbfeaaChecked
import Derived.ProofKit
import Derived.SizedLaws
namespace Go.Proofs.Ytmgmffoillbfeaa
open Go.ChangeShapes Go.WideShapes Go.ChangeAt Go.ChangeMaps Go.RowKit Go.V

theorem Try.own : ownKnob Try.prog.godebug = none := by kernel_rfl
theorem rU3 : Try.prog.underlying 3 = some (.int .i64) := by kernel_rfl

set_option maxRecDepth 100000 in
theorem row_lifted (os : Os) (started : os.Started) (H : Type) (enc : TypeId × Value → H) :
    ReturnsInHanded {} Try.checked os 5 .any (Rows.frameLongSpec.pre6 enc Try.prog Try.f5 Rows.frameLongRow.domain false) (Rows.frameLongSpec.post enc Try.prog Try.f5 false true false false) := by
  refine returnsInHanded_of_change_sized (C := Try.checked) Try.own started (by kernel_rfl) Try.func5
    (ChangeSpec.witness6 (enc := enc) (C := Try.checked) false ⟨#[], #[.int .i64 0, .int .i64 0, .string .empty], []⟩ 8 (by kernel_rfl) (by kernel_rfl) (by kernel_rfl) (by kernel_rfl)) ?_
  intro W base args ds gs before hval0 hW _ hsz _
  have hval : ∀ (j : Nat) t v, Try.f5.params[j]? = some t → args[j]? = some v → Value.okWide Try.prog W .any base t v := hval0
  have hW' := hW
  obtain ⟨p, q, hA0, hV, rfl, _, _⟩ := hW
  have hA : DataW.TrodAll enc Try.prog W 0 (fun _ => true) true Try.f5.params.toList args.toList ds p := hA0
  rw [show Try.f5.params = #[3, 3, 9] from rfl] at hA hval
  obtain ⟨v0, v1, v2, d0, d1, d2, p0, p1, p2, rfl, rfl, rfl, h0, h1, h2⟩ := trodAll_three hA
  obtain ⟨rfl, rfl⟩ := trodVars_none hV
  obtain ⟨a0, rfl, rfl, rfl, wa0⟩ := open_int rU3 (hval 0 3 v0 rfl rfl) h0
  obtain ⟨a1, rfl, rfl, rfl, wa1⟩ := open_int rU3 (hval 1 3 v1 rfl rfl) h1
  obtain ⟨a2, rfl, rfl, rfl, wa2⟩ := open_string tU9 (hval 2 9 v2 rfl rfl) h2
  have la2 : a2.data.toList.length ≤ reachBytes := sized_string hsz (j := 2) (t := 9) rfl rfl
  have hr := reachBytes_lt
  have key := long_spec (w := W) (k := fun v W' => Rows.frameLongSpec.post enc Try.prog Try.f5 false true false false W #[.int .i64 a0, .int .i64 a1, .string a2] v W') a0 a1 a2.data.toList (by omega) (fun W' hf => ?_)
  · rw [mkS_toList] at key
    exact key
  · exact ⟨_, _, _, [], [], [], hW', trodAll_mk1 (shut_bool tU4 _), trodAll_mk3 (shut_int rU3 wa0) (shut_int rU3 wa1) (shut_string tU9 wa2), rfl, hf.below.frame _, fun h => by cases h⟩

theorem frameLong_holds : Rows.FrameLongSaid :=
  OpenClaim.holds_of_wide 5 Try.f5 rfl rfl rfl rfl rfl rfl rfl ⟨rfl, rfl, rfl, rfl, rfl⟩ rfl rfl rfl rfl rfl (by kernel_rfl) Try.func5 (by kernel_rfl)
    (of_decide_eq_true (by kernel_rfl)) (by unfold Func.isWrapper; rw [if_neg (by decide +kernel)]; exact ⟨rfl, rfl⟩)
    (fun os started H enc _ => row_lifted os started H enc)
#print axioms frameLong_holds
end Go.Proofs.Ytmgmffoillbfeaa
