/- Proved: for every message, int and two texts of at most so much bulk, AckBack returns true and all read afterwards as they read before; the card over the row. Conditions: none beyond those that the given statement itself bears. -/
import Derived.Test.YtoaoofobidhfjaaGreatDoorWTA
import Derived.Test.YtoaoofobidhfjaaGreatDoorWSR1
set_option linter.unusedSimpArgs false
namespace Go.Proofs.YtoaoofobidhfjaaGreatDoor
open Go.ChangeShapes Go.WideShapes Go.ChangeAt Go.ChangeMaps Go.RowKit Go.V
set_option maxRecDepth 100000 in
theorem ackBack_lifted (os : Os) (started : os.Started) (H : Type) (enc : TypeId × Value → H) (F : Stop.Interp) :
    ReturnsInHanded {} Tryz.checked os 12 .any ((Rows.OpenSpec.upto Rows.ackBackSpec).preRow enc Tryz.prog Tryz.f12 Rows.ackBackUptoRow.domain false Rows.ackBackUptoRow.laid) (((Rows.OpenSpec.upto Rows.ackBackSpec).at F).post enc Tryz.prog Tryz.f12 false true false false) := by
  refine returnsInHanded_of_row (C := Tryz.checked) (s := (Rows.OpenSpec.upto Rows.ackBackSpec)) Tryz.own started (by kernel_rfl) Tryz.func12
    (witness_row_at (enc := enc) (C := Tryz.checked) false (World.laidAll Tryz.prog os Rows.ackBackUptoRow.laid) #[.agg (List.toArray (mc ⟨0, 0, 0, 0, 0, ⟨none, 0, 0⟩⟩)), .int .i64 0, .string .empty, .string .empty] (World.laidAll_os _ _ _) (by kernel_rfl) (by kernel_rfl) (by kernel_rfl)
      (OpenSpec.preRow_of_cond 8 (x := ([.agg [.agg [.lit (.int .u8 0), .lit (.int .u8 0), .lit (.int .u8 0), .lit (.int .u8 0), .lit (.int .u8 0)], .nil], .lit (.int .i64 0), .lit (.string []), .lit (.string [])], [], [])) (by kernel_rfl) (by kernel_rfl) (fun k hk => by cases hk; kernel_rfl) (by kernel_rfl)
        (by rw [MakeChecks.laidMetH_plain _ _ _ (by kernel_rfl)]; exact laidMet_laidAll _ (by kernel_rfl) (by kernel_rfl)))) ?_
  intro W base args ds gs before hval0 hW _ hcond hsz _ hsh _
  have hval : ∀ (j : Nat) t v, Tryz.f12.params[j]? = some t → args[j]? = some v → Value.okWide Tryz.prog W .any base t v := hval0
  have hW' := hW
  have hlt := hW.lt
  obtain ⟨p, q, hA0, hV, rfl, _, _⟩ := hW
  have hA : DataW.TrodAll enc Tryz.prog W 0 (fun _ => true) true Tryz.f12.params.toList args.toList ds p := hA0
  rw [show Tryz.f12.params = #[26, 3, 9, 9] from rfl] at hA hval
  have hA2 := hA
  obtain ⟨v0, vs0, d0, ds0, p0, q0, e0, rfl, rfl, h0, r0⟩ := trodAll_cons hA
  obtain ⟨v1, vs1, d1, ds1, p1, q1, e1, rfl, rfl, h1, r1⟩ := trodAll_cons r0
  obtain ⟨v2, vs2, d2, ds2, p2, q2, e2, rfl, rfl, h2, r2⟩ := trodAll_cons r1
  obtain ⟨v3, vs3, d3, ds3, p3, q3, e3, rfl, rfl, h3, r3⟩ := trodAll_cons r2
  obtain ⟨e4, rfl, rfl⟩ := trodAll_nil r3
  obtain rfl : args = #[v0, v1, v2, v3] := by cases args; simp_all
  obtain ⟨rfl, rfl⟩ := trodVars_none hV
  obtain ⟨m0, l0, rfl, rm0, bm0, dg0⟩ := open_msg (hval 0 26 v0 rfl rfl) h0
  obtain ⟨n1, rfl, rfl, rfl, wn1⟩ := open_int rU3 (hval 1 3 v1 rfl rfl) h1
  obtain ⟨a2, rfl, rfl, rfl, wa2⟩ := open_string rU9 (hval 2 9 v2 rfl rfl) h2
  obtain ⟨a3, rfl, rfl, rfl, wa3⟩ := open_string rU9 (hval 3 9 v3 rfl rfl) h3
  have hb := of_decide_eq_true (hcond _ rfl)
  simp only [List.append_nil, List.cons_append, List.nil_append, Rows.uptoBulkAll, Rows.uptoBulk] at hb
  have hfin : ∀ W', Fr Non W W' → Rows.ackBackSpec.post enc Tryz.prog Tryz.f12 false true false false W #[.agg (List.toArray (mc m0)), .int .i64 n1, .string a2, .string a3] (.bool true) W' := fun W' hf =>
    ⟨_, _, _, [], _, [], hW', trodAll_mk1 (shut_bool tU4 _), args_stay Tryz.laidOut hf.below (by kernel_rfl) (fun x hx => hlt x (List.mem_append_left _ hx)) hA2, rfl, hf.below.frame _, fun h => by cases h⟩
  have key := aback_spec (w := W) (k := fun v W' => Rows.ackBackSpec.post enc Tryz.prog Tryz.f12 false true false false W #[.agg (List.toArray (mc m0)), .int .i64 n1, .string a2, .string a3] v W') m0 n1 a2.data.toList a3.data.toList l0 rm0 (by omega) (by omega) (by omega) dg0 (gmax_of hsh) hfin
  rw [mkS_toList, mkS_toList] at key
  exact key
theorem ackBack_said : Rows.AckBackUptoSaid :=
  OpenClaim.holds_of_cond 12 Tryz.f12 rfl rfl rfl rfl rfl rfl rfl ⟨rfl, rfl, rfl, rfl, rfl⟩ rfl rfl rfl rfl rfl (by kernel_rfl) Tryz.func12 (by kernel_rfl)
    (of_decide_eq_true (by kernel_rfl)) (by unfold Func.isWrapper; rw [if_neg (by decide +kernel)]; exact ⟨rfl, rfl⟩)
    (fun os started H enc _ F => by rw [OpenClaim.pre_eq_preRow]; exact ackBack_lifted os started H enc F)
theorem ackBack_plain (f : FuncId) (fn : Func) (hf : Tryz.pinned.checked.prog.funcNamed "caduceus/caduceuslaw11.AckBack" = some f) (hfn : Tryz.pinned.checked.prog.funcs[f]? = some fn) :
    false = Tryz.pinned.checked.prog.looks [] ∧ ∀ (j : Nat) t, fn.params[j]? = some t → Tryz.pinned.checked.prog.wantsStandIn t = false := by
  obtain rfl : f = 12 := Option.some.inj ((show Tryz.prog.funcNamed "caduceus/caduceuslaw11.AckBack" = some 12 by kernel_rfl).symm.trans hf) |>.symm
  obtain rfl : fn = Tryz.f12 := (Option.some.inj (Tryz.func12.symm.trans hfn)).symm
  refine ⟨by kernel_rfl, fun j t ht => ?_⟩
  rw [show Tryz.f12.params = #[26, 3, 9, 9] from rfl] at ht
  have hm : t ∈ [26, 3, 9, 9] := by simpa using Array.mem_of_getElem? ht
  have hall : ([26, 3, 9, 9].all fun u => !Tryz.prog.wantsStandIn u) = true := by kernel_rfl
  exact (show Tryz.prog.wantsStandIn t = false by simpa using List.all_eq_true.1 hall t hm)
theorem ackBack_holds : Rows.AckBackUptoCardSaid :=
  Claim7.holds_tied_plain_at .later [] _ _ _ _ ackBack_said (fun _ h => by cases h) (by kernel_rfl) (fun _ h => by cases h) ackBackUpto_row_tie rfl ⟨rfl, rfl⟩ (by kernel_rfl) rfl ackBack_plain (by kernel_rfl)
#print axioms ackBack_holds
end Go.Proofs.YtoaoofobidhfjaaGreatDoor
