/- Proved: for every string and every path, PathTexts returns true and both read afterwards as they read before; the card over the row. Conditions: none beyond those that the given statement itself bears. -/
import Derived.Test.YtpkkbbdffhcpaaaDoorSK
import Derived.Test.YtpkkbbdffhcpaaaDoorSR0
namespace Go.Proofs.YtpkkbbdffhcpaaaDoor
open Go.ChangeShapes Go.WideShapes Go.ChangeAt Go.ChangeMaps Go.RowKit Go.V

set_option maxRecDepth 100000 in
theorem pathTexts_lifted (os : Os) (started : os.Started) (H : Type) (enc : TypeId × Value → H) (F : Stop.Interp) :
    ReturnsInHanded {} Tryd.checked os 3 .any ((OpenSpec.ofChange Rows.pathTextsSpec).preRow enc Tryd.prog Tryd.f3 Rows.pathTextsRow.domain false Rows.pathTextsRow.laid) (((OpenSpec.ofChange Rows.pathTextsSpec).at F).post enc Tryd.prog Tryd.f3 false true false false) := by
  refine returnsInHanded_of_row (C := Tryd.checked) (s := OpenSpec.ofChange Rows.pathTextsSpec) Tryd.own started (by kernel_rfl) Tryd.func3
    (witness_row_at (enc := enc) (C := Tryd.checked) false (World.laidAll Tryd.prog os Rows.pathTextsRow.laid) #[.string .empty, .agg (List.toArray (pc zPa))] (World.laidAll_os _ _ _) (by kernel_rfl) (by kernel_rfl) (by kernel_rfl)
      (OpenSpec.preRow_of_cond 8 (x := ([.lit (.string []), .agg [.lit (.string []), .lit (.int .i64 0), .lit (.int .i64 0), .lit (.int .i64 0), .lit (.int .i64 0), .lit (.int .i64 0)]], [], [])) (by kernel_rfl) (by kernel_rfl) (fun k hk => by cases hk) (by kernel_rfl)
        (by rw [MakeChecks.laidMetH_plain _ _ _ (by kernel_rfl)]; exact laidMet_laidAll _ (by kernel_rfl) (by kernel_rfl)))) ?_
  intro W base args ds gs before hval0 hW _ _ hsz _ _ _
  have hval : ∀ (j : Nat) t v, Tryd.f3.params[j]? = some t → args[j]? = some v → Value.okWide Tryd.prog W .any base t v := hval0
  have hW' := hW
  have hlt := hW.lt
  obtain ⟨p, q, hA0, hV, rfl, _, _⟩ := hW
  have hA : DataW.TrodAll enc Tryd.prog W 0 (fun _ => true) true Tryd.f3.params.toList args.toList ds p := hA0
  rw [show Tryd.f3.params = #[9, 23] from rfl] at hA hval
  have hA2 := hA
  obtain ⟨v0, v1, d0, d1, p0, p1, rfl, rfl, rfl, h0, h1⟩ := trodAll_two hA
  obtain ⟨rfl, rfl⟩ := trodVars_none hV
  obtain ⟨a, rfl, rfl, rfl, wa⟩ := open_string rU9 (hval 0 9 v0 rfl rfl) h0
  obtain ⟨pa, rfl, rfl⟩ := open_path (hval 1 23 v1 rfl rfl) h1
  have hr := reachBytes_lt
  have la : a.data.toList.length ≤ reachBytes := sized_string hsz (j := 0) (t := 9) rfl rfl
  have lp : pa.seg.length ≤ reachBytes := sized_string (sized_parts rUP (sized_arg hsz (j := 1) (t := 23) rfl rfl)) (j := 0) (t := 9) rfl rfl
  have hfin : ∀ W', Fr Non W W' → Rows.pathTextsSpec.post enc Tryd.prog Tryd.f3 false true false false W #[.string a, .agg (List.toArray (pc pa))] (.bool true) W' := fun W' hf =>
    ⟨_, _, _, [], _, [], hW', trodAll_mk1 (shut_bool tU4 _), args_stay Tryd.laidOut hf.below (by kernel_rfl) (fun x hx => hlt x (List.mem_append_left _ hx)) hA2, rfl, hf.below.frame _, fun h => by cases h⟩
  have key := texts_spec (w := W) (k := fun v W' => Rows.pathTextsSpec.post enc Tryd.prog Tryd.f3 false true false false W #[.string a, .agg (List.toArray (pc pa))] v W') a.data.toList pa (by omega) (by omega) hfin
  rw [mkS_toList] at key
  exact key

theorem pathTexts_said : Rows.PathTextsSaid :=
  OpenClaim.holds_of_cond 3 Tryd.f3 rfl rfl rfl rfl rfl rfl rfl ⟨rfl, rfl, rfl, rfl, rfl⟩ rfl rfl rfl rfl rfl (by kernel_rfl) Tryd.func3 (by kernel_rfl)
    (of_decide_eq_true (by kernel_rfl)) (by unfold Func.isWrapper; rw [if_neg (by decide +kernel)]; exact ⟨rfl, rfl⟩)
    (fun os started H enc _ F => by rw [OpenClaim.pre_eq_preRow]; exact pathTexts_lifted os started H enc F)
theorem pathTexts_plain (f : FuncId) (fn : Func) (hf : Tryd.pinned.checked.prog.funcNamed "caduceus/caduceuslaw9.PathTexts" = some f) (hfn : Tryd.pinned.checked.prog.funcs[f]? = some fn) :
    false = Tryd.pinned.checked.prog.looks [] ∧ ∀ (j : Nat) t, fn.params[j]? = some t → Tryd.pinned.checked.prog.wantsStandIn t = false := by
  obtain rfl : f = 3 := Option.some.inj ((show Tryd.prog.funcNamed "caduceus/caduceuslaw9.PathTexts" = some 3 by kernel_rfl).symm.trans hf) |>.symm
  obtain rfl : fn = Tryd.f3 := (Option.some.inj (Tryd.func3.symm.trans hfn)).symm
  refine ⟨by kernel_rfl, fun j t ht => ?_⟩
  rw [show Tryd.f3.params = #[9, 23] from rfl] at ht
  have hm : t ∈ [9, 23] := by simpa using Array.mem_of_getElem? ht
  have hall : ([9, 23].all fun u => !Tryd.prog.wantsStandIn u) = true := by kernel_rfl
  exact (show Tryd.prog.wantsStandIn t = false by simpa using List.all_eq_true.1 hall t hm)
theorem pathTexts_holds : Rows.PathTextsCardSaid :=
  Claim7.holds_tied_plain_at .later [] _ _ _ _ pathTexts_said (fun _ h => by cases h) (by kernel_rfl) (fun _ h => by cases h) pathTexts_row_tie rfl ⟨rfl, rfl⟩ (by kernel_rfl) rfl pathTexts_plain (by kernel_rfl)
#print axioms pathTexts_holds
end Go.Proofs.YtpkkbbdffhcpaaaDoor
