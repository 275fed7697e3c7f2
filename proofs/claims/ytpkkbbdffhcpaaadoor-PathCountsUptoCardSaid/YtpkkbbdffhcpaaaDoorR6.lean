/- Proved: for every message and every string of at most so much bulk, PathCounts returns true and both read afterwards as they read before; the card over the row. Conditions: none beyond those that the given statement itself bears. -/
import Derived.Test.YtpkkbbdffhcpaaaDoorM3
import Derived.Test.YtpkkbbdffhcpaaaDoorSR1
namespace Go.Proofs.YtpkkbbdffhcpaaaDoor
open Go.ChangeShapes Go.WideShapes Go.ChangeAt Go.ChangeMaps Go.RowKit Go.V

set_option maxRecDepth 100000 in
theorem pathCounts_lifted (os : Os) (started : os.Started) (H : Type) (enc : TypeId × Value → H) (F : Stop.Interp) :
    ReturnsInHanded {} Tryd.checked os 6 .any ((Rows.OpenSpec.upto Rows.pathCountsSpec).preRow enc Tryd.prog Tryd.f6 Rows.pathCountsUptoRow.domain false Rows.pathCountsUptoRow.laid) (((Rows.OpenSpec.upto Rows.pathCountsSpec).at F).post enc Tryd.prog Tryd.f6 false true false false) := by
  refine returnsInHanded_of_row (C := Tryd.checked) (s := (Rows.OpenSpec.upto Rows.pathCountsSpec)) Tryd.own started (by kernel_rfl) Tryd.func6
    (witness_row_at (enc := enc) (C := Tryd.checked) false (World.laidAll Tryd.prog os Rows.pathCountsUptoRow.laid) #[.agg (List.toArray (mc ⟨0, 0, 0, 0, 0, ⟨none, 0, 0⟩⟩)), .string .empty] (World.laidAll_os _ _ _) (by kernel_rfl) (by kernel_rfl) (by kernel_rfl)
      (OpenSpec.preRow_of_cond 8 (x := ([.agg [.agg [.lit (.int .u8 0), .lit (.int .u8 0), .lit (.int .u8 0), .lit (.int .u8 0), .lit (.int .u8 0)], .nil], .lit (.string [])], [], [])) (by kernel_rfl) (by kernel_rfl) (fun k hk => by cases hk; kernel_rfl) (by kernel_rfl)
        (by rw [MakeChecks.laidMetH_plain _ _ _ (by kernel_rfl)]; exact laidMet_laidAll _ (by kernel_rfl) (by kernel_rfl)))) ?_
  intro W base args ds gs before hval0 hW _ hcond hsz _ _ _
  have hval : ∀ (j : Nat) t v, Tryd.f6.params[j]? = some t → args[j]? = some v → Value.okWide Tryd.prog W .any base t v := hval0
  have hW' := hW
  have hlt := hW.lt
  obtain ⟨p, q, hA0, hV, rfl, _, _⟩ := hW
  have hA : DataW.TrodAll enc Tryd.prog W 0 (fun _ => true) true Tryd.f6.params.toList args.toList ds p := hA0
  rw [show Tryd.f6.params = #[36, 9] from rfl] at hA hval
  have hA2 := hA
  obtain ⟨v0, vs0, d0, ds0, p0, q0, e0, rfl, rfl, h0, r0⟩ := trodAll_cons hA
  obtain ⟨v1, vs1, d1, ds1, p1, q1, e1, rfl, rfl, h1, r1⟩ := trodAll_cons r0
  obtain ⟨e2, rfl, rfl⟩ := trodAll_nil r1
  obtain rfl : args = #[v0, v1] := by cases args; simp_all
  obtain ⟨rfl, rfl⟩ := trodVars_none hV
  obtain ⟨m0, l0, rfl, rm0, bm0⟩ := open_msg (hval 0 36 v0 rfl rfl) h0
  obtain ⟨a1, rfl, rfl, rfl, wa1⟩ := open_string rU9 (hval 1 9 v1 rfl rfl) h1
  have hb := of_decide_eq_true (hcond _ rfl)
  simp only [List.append_nil, List.cons_append, List.nil_append, Rows.uptoBulkAll, Rows.uptoBulk] at hb
  have hfin : ∀ W', Fr Non W W' → Rows.pathCountsSpec.post enc Tryd.prog Tryd.f6 false true false false W #[.agg (List.toArray (mc m0)), .string a1] (.bool true) W' := fun W' hf =>
    ⟨_, _, _, [], _, [], hW', trodAll_mk1 (shut_bool tU4 _), args_stay Tryd.laidOut hf.below (by kernel_rfl) (fun x hx => hlt x (List.mem_append_left _ hx)) hA2, rfl, hf.below.frame _, fun h => by cases h⟩
  have key := counts_spec (w := W) (k := fun v W' => Rows.pathCountsSpec.post enc Tryd.prog Tryd.f6 false true false false W #[.agg (List.toArray (mc m0)), .string a1] v W') m0 a1.data.toList l0 rm0 (SmM_of (by unfold BB; omega)) (by omega) hfin
  rw [mkS_toList] at key
  exact key

theorem pathCounts_said : Rows.PathCountsUptoSaid :=
  OpenClaim.holds_of_cond 6 Tryd.f6 rfl rfl rfl rfl rfl rfl rfl ⟨rfl, rfl, rfl, rfl, rfl⟩ rfl rfl rfl rfl rfl (by kernel_rfl) Tryd.func6 (by kernel_rfl)
    (of_decide_eq_true (by kernel_rfl)) (by unfold Func.isWrapper; rw [if_neg (by decide +kernel)]; exact ⟨rfl, rfl⟩)
    (fun os started H enc _ F => by rw [OpenClaim.pre_eq_preRow]; exact pathCounts_lifted os started H enc F)
theorem pathCounts_plain (f : FuncId) (fn : Func) (hf : Tryd.pinned.checked.prog.funcNamed "caduceus/caduceuslaw9.PathCounts" = some f) (hfn : Tryd.pinned.checked.prog.funcs[f]? = some fn) :
    false = Tryd.pinned.checked.prog.looks [] ∧ ∀ (j : Nat) t, fn.params[j]? = some t → Tryd.pinned.checked.prog.wantsStandIn t = false := by
  obtain rfl : f = 6 := Option.some.inj ((show Tryd.prog.funcNamed "caduceus/caduceuslaw9.PathCounts" = some 6 by kernel_rfl).symm.trans hf) |>.symm
  obtain rfl : fn = Tryd.f6 := (Option.some.inj (Tryd.func6.symm.trans hfn)).symm
  refine ⟨by kernel_rfl, fun j t ht => ?_⟩
  rw [show Tryd.f6.params = #[36, 9] from rfl] at ht
  have hm : t ∈ [36, 9] := by simpa using Array.mem_of_getElem? ht
  have hall : ([36, 9].all fun u => !Tryd.prog.wantsStandIn u) = true := by kernel_rfl
  exact (show Tryd.prog.wantsStandIn t = false by simpa using List.all_eq_true.1 hall t hm)
theorem pathCounts_holds : Rows.PathCountsUptoCardSaid :=
  Claim7.holds_tied_plain_at .later [] _ _ _ _ pathCounts_said (fun _ h => by cases h) (by kernel_rfl) (fun _ h => by cases h) pathCountsUpto_row_tie rfl ⟨rfl, rfl⟩ (by kernel_rfl) rfl pathCounts_plain (by kernel_rfl)
#print axioms pathCounts_holds
end Go.Proofs.YtpkkbbdffhcpaaaDoor
