/- Proved: for every string, every int and every slice of ints, FramePieces returns true and all three read afterwards as they read before. Conditions: none beyond those that the given statement itself bears. -/
import Derived.Test.YtmgmffoillbfeaaXB
import Derived.Test.YtmgmffoillbfeaaChecked
namespace Go.Proofs.Ytmgmffoillbfeaa
open Go.ChangeShapes Go.WideShapes Go.ChangeAt Go.ChangeMaps Go.RowKit Go.V

theorem Try.own : ownKnob Try.prog.godebug = none := by kernel_rfl
theorem Try.laidOut : laidOutB Try.prog = true := by kernel_rfl
theorem rU3 : Try.prog.underlying 3 = some (.int .i64) := by kernel_rfl
theorem rU31 : Try.prog.underlying 31 = some (.slice 3) := by kernel_rfl

set_option maxRecDepth 100000 in
theorem row_lifted (os : Os) (started : os.Started) (H : Type) (enc : TypeId × Value → H) :
    ReturnsInHanded {} Try.checked os 4 .any (Rows.framePiecesSpec.pre6 enc Try.prog Try.f4 Rows.framePiecesRow.domain false) (Rows.framePiecesSpec.post enc Try.prog Try.f4 false true false false) := by
  refine returnsInHanded_of_change_sized (C := Try.checked) Try.own started (by kernel_rfl) Try.func4
    (ChangeSpec.witness6 (enc := enc) (C := Try.checked) false ⟨#[], #[.string .empty, .int .i64 0, .slice none 0 0], []⟩ 8 (by kernel_rfl) (by kernel_rfl) (by kernel_rfl) (by kernel_rfl)) ?_
  intro W base args ds gs before hval0 hW _ hsz _
  have hval : ∀ (j : Nat) t v, Try.f4.params[j]? = some t → args[j]? = some v → Value.okWide Try.prog W .any base t v := hval0
  have hW' := hW
  have hlt := hW.lt
  obtain ⟨p, q, hA0, hV, rfl, _, _⟩ := hW
  have hA : DataW.TrodAll enc Try.prog W 0 (fun _ => true) true Try.f4.params.toList args.toList ds p := hA0
  rw [show Try.f4.params = #[9, 3, 31] from rfl] at hA hval
  have hA2 := hA
  obtain ⟨v0, v1, v2, d0, d1, d2, p0, p1, p2, rfl, rfl, rfl, h0, h1, h2⟩ := trodAll_three hA
  obtain ⟨rfl, rfl⟩ := trodVars_none hV
  obtain ⟨b, rfl, rfl, rfl, wb⟩ := open_string tU9 (hval 0 9 v0 rfl rfl) h0
  obtain ⟨m, rfl, rfl, rfl, wm⟩ := open_int rU3 (hval 1 3 v1 rfl rfl) h1
  have lb : b.data.toList.length ≤ reachBytes := sized_string hsz (j := 0) (t := 9) rfl rfl
  have hr := reachBytes_lt
  obtain ⟨sa, sl, sc, rfl⟩ := okWide_slice rU31 (hval 2 31 v2 rfl rfl)
  have hfin : ∀ W', Fr Non W W' → Rows.framePiecesSpec.post enc Try.prog Try.f4 false true false false W #[.string b, .int .i64 m, .slice sa sl sc] (.bool true) W' := fun W' hf =>
    ⟨_, _, _, [], _, [], hW', trodAll_mk1 (shut_bool tU4 _), args_stay Try.laidOut hf.below (by kernel_rfl) (fun x hx => hlt x (List.mem_append_left _ hx)) hA2, rfl, hf.below.frame _, fun h => by cases h⟩
  obtain ⟨fuel, hs⟩ := h2
  have key : ∀ z : Nat → Int, sl ≤ 9223372036854775807 → Ar W ⟨sa, sl, sc⟩ sl (fun i => .int .i64 (z i)) → Cl Try.prog 4 [.string b, .int .i64 m, .slice sa sl sc] W (fun v W' => Rows.framePiecesSpec.post enc Try.prog Try.f4 false true false false W #[.string b, .int .i64 m, .slice sa sl sc] v W') := by
    intro z hl hz
    have := pieces_spec (w := W) (k := fun v W' => Rows.framePiecesSpec.post enc Try.prog Try.f4 false true false false W #[.string b, .int .i64 m, .slice sa sl sc] v W') b.data.toList m ⟨sa, sl, sc⟩ z (by omega) hl hz hfin
    rw [mkS_toList] at this
    exact this
  rcases open_ints rU31 rU3 (by kernel_rfl) hs with ⟨hcs, _⟩ | ⟨a, len, cap, zs, hcs, hb, hl, hm, hlen, hx, hcell, hwf⟩
  · simp [Value.cells] at hcs
    obtain ⟨rfl, rfl, rfl⟩ := hcs
    exact key (fun _ => 0) (by omega) (fun i hi => by simp at hi)
  · simp [Value.cells] at hcs
    obtain ⟨rfl, rfl, rfl⟩ := hcs
    refine key (fun i => zs.getD i 0) (by unfold maxLen at hm; omega) (fun i hi => ⟨a, rfl, hcell i ?_⟩)
    simp only [if_true] at hlen
    omega

theorem framePieces_holds : Rows.FramePiecesSaid :=
  OpenClaim.holds_of_wide 4 Try.f4 rfl rfl rfl rfl rfl rfl rfl ⟨rfl, rfl, rfl, rfl, rfl⟩ rfl rfl rfl rfl rfl (by kernel_rfl) Try.func4 (by kernel_rfl)
    (of_decide_eq_true (by kernel_rfl)) (by unfold Func.isWrapper; rw [if_neg (by decide +kernel)]; exact ⟨rfl, rfl⟩)
    (fun os started H enc _ => row_lifted os started H enc)
#print axioms framePieces_holds
end Go.Proofs.Ytmgmffoillbfeaa
