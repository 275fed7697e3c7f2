/- Proved: for every message of at most so much bulk, HeadTells returns true and all read afterwards as they read before; the card over the row. Conditions: none beyond those that the given statement itself bears. -/
import Derived.Test.YthpeengmcjpknaaGreatDoorPU5
import Derived.Test.YthpeengmcjpknaaGreatDoorPSR1
set_option linter.unusedSimpArgs false
namespace Go.Proofs.YthpeengmcjpknaaGreatDoor
open Go.ChangeShapes Go.WideShapes Go.ChangeAt Go.ChangeMaps Go.RowKit Go.V

set_option maxRecDepth 100000 in
theorem headTells_lifted (os : Os) (started : os.Started) (H : Type) (enc : TypeId × Value → H) (F : Stop.Interp) :
    ReturnsInHanded {} Tryz.checked os 6 .any ((Rows.OpenSpec.upto Rows.headTellsSpec).preRow enc Tryz.prog Tryz.f6 Rows.headTellsUptoRow.domain false Rows.headTellsUptoRow.laid) (((Rows.OpenSpec.upto Rows.headTellsSpec).at F).post enc Tryz.prog Tryz.f6 false true false false) := by
  refine returnsInHanded_of_row (C := Tryz.checked) (s := (Rows.OpenSpec.upto Rows.headTellsSpec)) Tryz.own started (by kernel_rfl) Tryz.func6
    (witness_row_at (enc := enc) (C := Tryz.checked) false (World.laidAll Tryz.prog os Rows.headTellsUptoRow.laid) #[.agg (List.toArray (mc ⟨0, 0, 0, 0, 0, ⟨none, 0, 0⟩⟩))] (World.laidAll_os _ _ _) (by kernel_rfl) (by kernel_rfl) (by kernel_rfl)
      (OpenSpec.preRow_of_cond 8 (x := ([.agg [.agg [.lit (.int .u8 0), .lit (.int .u8 0), .lit (.int .u8 0), .lit (.int .u8 0), .lit (.int .u8 0)], .nil]], [], [])) (by kernel_rfl) (by kernel_rfl) (fun k hk => by cases hk; kernel_rfl) (by kernel_rfl)
        (by rw [MakeChecks.laidMetH_plain _ _ _ (by kernel_rfl)]; exact laidMet_laidAll _ (by kernel_rfl) (by kernel_rfl)))) ?_
  intro W base args ds gs before hval0 hW _ hcond hsz _ hsh _
  have hval : ∀ (j : Nat) t v, Tryz.f6.params[j]? = some t → args[j]? = some v → Value.okWide Tryz.prog W .any base t v := hval0
  have hW' := hW
  have hlt := hW.lt
  obtain ⟨p, q, hA0, hV, rfl, _, _⟩ := hW
  have hA : DataW.TrodAll enc Tryz.prog W 0 (fun _ => true) true Tryz.f6.params.toList args.toList ds p := hA0
  rw [show Tryz.f6.params = #[26] from rfl] at hA hval
  have hA2 := hA
  obtain ⟨v0, vs0, d0, ds0, p0, q0, e0, rfl, rfl, h0, r0⟩ := trodAll_cons hA
  obtain ⟨e1, rfl, rfl⟩ := trodAll_nil r0
  obtain rfl : args = #[v0] := by cases args; simp_all
  obtain ⟨rfl, rfl⟩ := trodVars_none hV
  obtain ⟨m0, l0, rfl, rm0, bm0, dg0⟩ := open_msg (hval 0 26 v0 rfl rfl) h0
  have hb := of_decide_eq_true (hcond _ rfl)
  simp only [List.append_nil, List.cons_append, List.nil_append, Rows.uptoBulkAll, Rows.uptoBulk] at hb
  have hfin : ∀ W', Fr Non W W' → Rows.headTellsSpec.post enc Tryz.prog Tryz.f6 false true false false W #[.agg (List.toArray (mc m0))] (.bool true) W' := fun W' hf =>
    ⟨_, _, _, [], _, [], hW', trodAll_mk1 (shut_bool tU4 _), args_stay Tryz.laidOut hf.below (by kernel_rfl) (fun x hx => hlt x (List.mem_append_left _ hx)) hA2, rfl, hf.below.frame _, fun h => by cases h⟩
  have key := htells_spec (w := W) (k := fun v W' => Rows.headTellsSpec.post enc Tryz.prog Tryz.f6 false true false false W #[.agg (List.toArray (mc m0))] v W') m0 l0 rm0 (by omega) dg0 (gmax_of hsh) hfin
  exact key

theorem headTells_c1 : (Rows.headTellsUptoRow.inPlace == Tryz.pinned.checked.prog.inPlace 6) = true := by kernel_rfl
theorem headTells_c2 : (Rows.headTellsUptoRow.unfollowed == Tryz.pinned.checked.prog.unfollowed 6) = true := by kernel_rfl
theorem headTells_c3 : (Rows.headTellsUptoRow.recurses == Tryz.pinned.checked.prog.recurses 6) = true := by kernel_rfl
theorem headTells_c4 : (Rows.headTellsUptoRow.named == Tryz.pinned.checked.prog.varsNamed 6) = true := by kernel_rfl
theorem headTells_closed : joinedFacts Tryz.pinned.checked.prog 6 Tryz.f6 (Rows.OpenSpec.upto Rows.headTellsSpec).bare Rows.headTellsUptoRow = true := by
  unfold joinedFacts
  rw [headTells_c1, headTells_c2, headTells_c3, headTells_c4]
  kernel_rfl
theorem headTells_said : Rows.HeadTellsUptoSaid :=
  OpenClaim.holds_of_cond 6 Tryz.f6 rfl rfl rfl rfl rfl rfl rfl ⟨rfl, rfl, rfl, rfl, rfl⟩ rfl rfl rfl rfl rfl (by kernel_rfl) Tryz.func6 headTells_closed
    (of_decide_eq_true (by kernel_rfl)) (by unfold Func.isWrapper; rw [if_neg (by decide +kernel)]; exact ⟨rfl, rfl⟩)
    (fun os started H enc _ F => by rw [OpenClaim.pre_eq_preRow]; exact headTells_lifted os started H enc F)
theorem headTells_plain (f : FuncId) (fn : Func) (hf : Tryz.pinned.checked.prog.funcNamed "caduceus/caduceuslaw10.HeadTells" = some f) (hfn : Tryz.pinned.checked.prog.funcs[f]? = some fn) :
    false = Tryz.pinned.checked.prog.looks [] ∧ ∀ (j : Nat) t, fn.params[j]? = some t → Tryz.pinned.checked.prog.wantsStandIn t = false := by
  obtain rfl : f = 6 := Option.some.inj ((show Tryz.prog.funcNamed "caduceus/caduceuslaw10.HeadTells" = some 6 by kernel_rfl).symm.trans hf) |>.symm
  obtain rfl : fn = Tryz.f6 := (Option.some.inj (Tryz.func6.symm.trans hfn)).symm
  refine ⟨by kernel_rfl, fun j t ht => ?_⟩
  rw [show Tryz.f6.params = #[26] from rfl] at ht
  have hm : t ∈ [26] := by simpa using Array.mem_of_getElem? ht
  have hall : ([26].all fun u => !Tryz.prog.wantsStandIn u) = true := by kernel_rfl
  exact (show Tryz.prog.wantsStandIn t = false by simpa using List.all_eq_true.1 hall t hm)
theorem headTells_holds : Rows.HeadTellsUptoCardSaid :=
  Claim7.holds_tied_plain_at .later [] _ _ _ _ headTells_said (fun _ h => by cases h) (by kernel_rfl) (fun _ h => by cases h) headTellsUpto_row_tie rfl ⟨rfl, rfl⟩ (by kernel_rfl) rfl headTells_plain (by kernel_rfl)
#print axioms headTells_holds
end Go.Proofs.YthpeengmcjpknaaGreatDoor
