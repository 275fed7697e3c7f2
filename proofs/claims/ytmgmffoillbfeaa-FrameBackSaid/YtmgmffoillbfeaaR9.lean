/- Proved: for every slice of strings and every string, FrameBack returns true and both read afterwards as they read before. Conditions: none beyond those that the given statement itself bears. -/
import Derived.Test.YtmgmffoillbfeaaXB
import Derived.Test.YtmgmffoillbfeaaXC
import Derived.SliceStrings
import Derived.Test.YtmgmffoillbfeaaChecked
namespace Go.Proofs.Ytmgmffoillbfeaa
open Go.ChangeShapes Go.WideShapes Go.ChangeAt Go.ChangeMaps Go.RowKit Go.V

theorem Try.own : ownKnob Try.prog.godebug = none := by kernel_rfl
theorem Try.laidOut : laidOutB Try.prog = true := by kernel_rfl
theorem rU56 : Try.prog.underlying 56 = some (.slice 9) := by kernel_rfl

theorem weightsAll_mem {H : Type} {P : Program} {e : TypeId} {d : DataW H} {n : Nat} (hn : n ∈ d.weights P e) : ∀ {l : List (DataW H)}, d ∈ l → n ∈ DataW.weightsAll P e l
  | x :: l, h => by
    simp only [DataW.weightsAll, List.mem_append]
    rcases List.mem_cons.1 h with rfl | h
    · exact .inl hn
    · exact .inr (weightsAll_mem hn h)

set_option maxRecDepth 100000 in
theorem row_lifted (os : Os) (started : os.Started) (H : Type) (enc : TypeId × Value → H) :
    ReturnsInHanded {} Try.checked os 9 .any (Rows.frameBackSpec.pre6 enc Try.prog Try.f9 Rows.frameBackRow.domain false) (Rows.frameBackSpec.post enc Try.prog Try.f9 false true false false) := by
  refine returnsInHanded_of_change_sized (C := Try.checked) Try.own started (by kernel_rfl) Try.func9
    (ChangeSpec.witness6 (enc := enc) (C := Try.checked) false ⟨#[], #[.slice none 0 0, .string .empty], []⟩ 8 (by kernel_rfl) (by kernel_rfl) (by kernel_rfl) (by kernel_rfl)) ?_
  intro W base args ds gs before hval0 hW _ hsz _
  have hval : ∀ (j : Nat) t v, Try.f9.params[j]? = some t → args[j]? = some v → Value.okWide Try.prog W .any base t v := hval0
  have hW' := hW
  have hlt := hW.lt
  obtain ⟨p, q, hA0, hV, rfl, _, _⟩ := hW
  have hA : DataW.TrodAll enc Try.prog W 0 (fun _ => true) true Try.f9.params.toList args.toList ds p := hA0
  rw [show Try.f9.params = #[56, 9] from rfl] at hA hval
  have hA2 := hA
  obtain ⟨v0, v1, d0, d1, p0, p1, rfl, rfl, rfl, h0, h1⟩ := trodAll_two hA
  obtain ⟨rfl, rfl⟩ := trodVars_none hV
  obtain ⟨b, rfl, rfl, rfl, wb⟩ := open_string tU9 (hval 1 9 v1 rfl rfl) h1
  have lb : b.data.toList.length ≤ reachBytes := sized_string hsz (j := 1) (t := 9) rfl rfl
  have hr := reachBytes_lt
  obtain ⟨sa, sl, sc, rfl⟩ := okWide_slice rU56 (hval 0 56 v0 rfl rfl)
  have hfin : ∀ W', Fr Non W W' → Rows.frameBackSpec.post enc Try.prog Try.f9 false true false false W #[.slice sa sl sc, .string b] (.bool true) W' := fun W' hf =>
    ⟨_, _, _, [], _, [], hW', trodAll_mk1 (shut_bool tU4 _), args_stay Try.laidOut hf.below (by kernel_rfl) (fun x hx => hlt x (List.mem_append_left _ hx)) hA2, rfl, hf.below.frame _, fun h => by cases h⟩
  obtain ⟨fuel, hs⟩ := h0
  have key : ∀ z : Nat → Str, (∀ i, (z i).length ≤ 1000000000000000) → Ar W ⟨sa, sl, sc⟩ sl (fun i => .string (mkS (z i))) → Cl Try.prog 9 [.slice sa sl sc, .string b] W (fun v W' => Rows.frameBackSpec.post enc Try.prog Try.f9 false true false false W #[.slice sa sl sc, .string b] v W') := by
    intro z hl hz
    have := back_spec (w := W) (k := fun v W' => Rows.frameBackSpec.post enc Try.prog Try.f9 false true false false W #[.slice sa sl sc, .string b] v W') ⟨sa, sl, sc⟩ z b.data.toList hz hl hfin
    rw [mkS_toList] at this
    exact this
  rcases open_strings rU56 tU9 (by kernel_rfl) hs with ⟨hcs, _⟩ | ⟨a, len, cap, ss, hcs, hb, hl, hm, hlen, hx, hcell, hwf⟩
  · simp [Value.cells] at hcs
    obtain ⟨rfl, rfl, rfl⟩ := hcs
    exact key (fun _ => []) (fun _ => by simp) (fun i hi => by simp at hi)
  · simp [Value.cells] at hcs
    obtain ⟨rfl, rfl, rfl⟩ := hcs
    simp only [if_true] at hlen
    have hd0 : d0 = .slice (strs (ss.take sl)) (strs (ss.drop sl)) := congrArg Prod.fst hx
    have hweigh : ∀ s ∈ ss.take sl, s.data.toList.length ≤ reachBytes := by
      intro s hsm
      have := List.all_eq_true.1 hsz s.data.toList.length (DataW.weights_mem_each (j := 0) (t := 56) (d := d0) rfl rfl _ (by
        rw [hd0]
        show _ ∈ DataW.weights Try.prog 56 _
        simp only [DataW.weights, rU56, List.mem_cons, List.mem_append]
        exact .inr (.inl (weightsAll_mem (d := .lit (.string s.data.toList)) (by simp [DataW.weights]) (by simp only [strs]; exact List.mem_map.2 ⟨s, hsm, rfl⟩)))))
      simpa using this
    refine key (fun i => if i < sl then (ss.getD i .empty).data.toList else []) (fun i => ?_) (fun i hi => ⟨a, rfl, ?_⟩)
    · split
      · rename_i hi
        have hmem : ss.getD i .empty ∈ ss.take sl := by
          rw [List.getD_eq_getElem?_getD, List.getElem?_eq_getElem (show i < ss.length by omega), Option.getD_some]
          exact List.mem_take_iff_getElem.2 ⟨i, by omega, rfl⟩
        have := hweigh _ hmem
        omega
      · simp
    · rw [hcell i (by omega)]
      simp [hi, mkS_toList]

theorem frameBack_holds : Rows.FrameBackSaid :=
  OpenClaim.holds_of_wide 9 Try.f9 rfl rfl rfl rfl rfl rfl rfl ⟨rfl, rfl, rfl, rfl, rfl⟩ rfl rfl rfl rfl rfl (by kernel_rfl) Try.func9 (by kernel_rfl)
    (of_decide_eq_true (by kernel_rfl)) (by unfold Func.isWrapper; rw [if_neg (by decide +kernel)]; exact ⟨rfl, rfl⟩)
    (fun os started H enc _ => row_lifted os started H enc)
#print axioms frameBack_holds
end Go.Proofs.Ytmgmffoillbfeaa
