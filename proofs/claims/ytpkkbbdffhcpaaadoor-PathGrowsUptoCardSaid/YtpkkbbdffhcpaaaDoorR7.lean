/- Proved: for every message, every string of at most so much bulk and every int, PathGrows returns true and all three read afterwards as they read before; the card over the row. Conditions: none beyond those that the given statement itself bears. -/
import Derived.Test.YtpkkbbdffhcpaaaDoorME
import Derived.Test.YtpkkbbdffhcpaaaDoorSR1
set_option linter.unusedSimpArgs false
namespace Go.Proofs.YtpkkbbdffhcpaaaDoor
open Go.ChangeShapes Go.WideShapes Go.ChangeAt Go.ChangeMaps Go.RowKit Go.V

set_option maxRecDepth 100000 in
theorem pathGrows_lifted (os : Os) (started : os.Started) (H : Type) (enc : TypeId × Value → H) (F : Stop.Interp) :
    ReturnsInHanded {} Tryd.checked os 7 .any ((Rows.OpenSpec.upto Rows.pathGrowsSpec).preRow enc Tryd.prog Tryd.f7 Rows.pathGrowsUptoRow.domain false Rows.pathGrowsUptoRow.laid) (((Rows.OpenSpec.upto Rows.pathGrowsSpec).at F).post enc Tryd.prog Tryd.f7 false true false false) := by
  refine returnsInHanded_of_row (C := Tryd.checked) (s := (Rows.OpenSpec.upto Rows.pathGrowsSpec)) Tryd.own started (by kernel_rfl) Tryd.func7
    (witness_row_at (enc := enc) (C := Tryd.checked) false (World.laidAll Tryd.prog os Rows.pathGrowsUptoRow.laid) #[.agg (List.toArray (mc ⟨0, 0, 0, 0, 0, ⟨none, 0, 0⟩⟩)), .string .empty, .int .i64 0] (World.laidAll_os _ _ _) (by kernel_rfl) (by kernel_rfl) (by kernel_rfl)
      (OpenSpec.preRow_of_cond 8 (x := ([.agg [.agg [.lit (.int .u8 0), .lit (.int .u8 0), .lit (.int .u8 0), .lit (.int .u8 0), .lit (.int .u8 0)], .nil], .lit (.string []), .lit (.int .i64 0)], [], [])) (by kernel_rfl) (by kernel_rfl) (fun k hk => by cases hk; kernel_rfl) (by kernel_rfl)
        (by rw [MakeChecks.laidMetH_plain _ _ _ (by kernel_rfl)]; exact laidMet_laidAll _ (by kernel_rfl) (by kernel_rfl)))) ?_
  intro W base args ds gs before hval0 hW _ hcond hsz _ _ _
  have hval : ∀ (j : Nat) t v, Tryd.f7.params[j]? = some t → args[j]? = some v → Value.okWide Tryd.prog W .any base t v := hval0
  have hW' := hW
  have hlt := hW.lt
  obtain ⟨p, q, hA0, hV, rfl, _, _⟩ := hW
  have hA : DataW.TrodAll enc Tryd.prog W 0 (fun _ => true) true Tryd.f7.params.toList args.toList ds p := hA0
  rw [show Tryd.f7.params = #[36, 9, 3] from rfl] at hA hval
  have hA2 := hA
  obtain ⟨v0, vs0, d0, ds0, p0, q0, e0, rfl, rfl, h0, r0⟩ := trodAll_cons hA
  obtain ⟨v1, vs1, d1, ds1, p1, q1, e1, rfl, rfl, h1, r1⟩ := trodAll_cons r0
  obtain ⟨v2, vs2, d2, ds2, p2, q2, e2, rfl, rfl, h2, r2⟩ := trodAll_cons r1
  obtain ⟨e3, rfl, rfl⟩ := trodAll_nil r2
  obtain rfl : args = #[v0, v1, v2] := by cases args; simp_all
  obtain ⟨rfl, rfl⟩ := trodVars_none hV
  obtain ⟨m0, l0, rfl, rm0, bm0, dg0⟩ := open_msg (hval 0 36 v0 rfl rfl) h0
  obtain ⟨a1, rfl, rfl, rfl, wa1⟩ := open_string rU9 (hval 1 9 v1 rfl rfl) h1
  obtain ⟨n2, rfl, rfl, rfl, wn2⟩ := open_int rU3 (hval 2 3 v2 rfl rfl) h2
  have hb := of_decide_eq_true (hcond _ rfl)
  simp only [List.append_nil, List.cons_append, List.nil_append, Rows.uptoBulkAll, Rows.uptoBulk] at hb
  have hfin : ∀ W', Fr Non W W' → Rows.pathGrowsSpec.post enc Tryd.prog Tryd.f7 false true false false W #[.agg (List.toArray (mc m0)), .string a1, .int .i64 n2] (.bool true) W' := fun W' hf =>
    ⟨_, _, _, [], _, [], hW', trodAll_mk1 (shut_bool tU4 _), args_stay Tryd.laidOut hf.below (by kernel_rfl) (fun x hx => hlt x (List.mem_append_left _ hx)) hA2, rfl, hf.below.frame _, fun h => by cases h⟩
  have key := grows_spec (w := W) (k := fun v W' => Rows.pathGrowsSpec.post enc Tryd.prog Tryd.f7 false true false false W #[.agg (List.toArray (mc m0)), .string a1, .int .i64 n2] v W') m0 a1.data.toList n2 l0 rm0 (SmM_of (by unfold BB; omega)) dg0 (by omega) (len_of (by omega)) hfin
  rw [mkS_toList] at key
  exact key

theorem pathGrows_said : Rows.PathGrowsUptoSaid :=
  OpenClaim.holds_of_cond 7 Tryd.f7 rfl rfl rfl rfl rfl rfl rfl ⟨rfl, rfl, rfl, rfl, rfl⟩ rfl rfl rfl rfl rfl (by kernel_rfl) Tryd.func7 (by kernel_rfl)
    (of_decide_eq_true (by kernel_rfl)) (by unfold Func.isWrapper; rw [if_neg (by decide +kernel)]; exact ⟨rfl, rfl⟩)
    (fun os started H enc _ F => by rw [OpenClaim.pre_eq_preRow]; exact pathGrows_lifted os started H enc F)
theorem pathGrows_plain (f : FuncId) (fn : Func) (hf : Tryd.pinned.checked.prog.funcNamed "caduceus/caduceuslaw9.PathGrows" = some f) (hfn : Tryd.pinned.checked.prog.funcs[f]? = some fn) :
    false = Tryd.pinned.checked.prog.looks [] ∧ ∀ (j : Nat) t, fn.params[j]? = some t → Tryd.pinned.checked.prog.wantsStandIn t = false := by
  obtain rfl : f = 7 := Option.some.inj ((show Tryd.prog.funcNamed "caduceus/caduceuslaw9.PathGrows" = some 7 by kernel_rfl).symm.trans hf) |>.symm
  obtain rfl : fn = Tryd.f7 := (Option.some.inj (Tryd.func7.symm.trans hfn)).symm
  refine ⟨by kernel_rfl, fun j t ht => ?_⟩
  rw [show Tryd.f7.params = #[36, 9, 3] from rfl] at ht
  have hm : t ∈ [36, 9, 3] := by simpa using Array.mem_of_getElem? ht
  have hall : ([36, 9, 3].all fun u => !Tryd.prog.wantsStandIn u) = true := by kernel_rfl
  exact (show Tryd.prog.wantsStandIn t = false by simpa using List.all_eq_true.1 hall t hm)
theorem pathGrows_holds : Rows.PathGrowsUptoCardSaid :=
  Claim7.holds_tied_plain_at .later [] _ _ _ _ pathGrows_said (fun _ h => by cases h) (by kernel_rfl) (fun _ h => by cases h) pathGrowsUpto_row_tie rfl ⟨rfl, rfl⟩ (by kernel_rfl) rfl pathGrows_plain (by kernel_rfl)
#print axioms pathGrows_holds
end Go.Proofs.YtpkkbbdffhcpaaaDoor
