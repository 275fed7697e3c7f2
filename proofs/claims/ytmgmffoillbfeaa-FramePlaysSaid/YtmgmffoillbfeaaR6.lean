/- Proved: for every int, every bool and every slice of operations, FramePlays returns true and all three read afterwards as they read before. Conditions: none beyond those that the given statement itself bears. -/
import Derived.Test.YtmgmffoillbfeaaXB
import Derived.Test.YtmgmffoillbfeaaXE
import Derived.Test.YtmgmffoillbfeaaChecked
namespace Go.Proofs.Ytmgmffoillbfeaa
open Go.ChangeShapes Go.WideShapes Go.ChangeAt Go.ChangeMaps Go.RowKit Go.V

theorem Try.own : ownKnob Try.prog.godebug = none := by kernel_rfl
theorem Try.laidOut : laidOutB Try.prog = true := by kernel_rfl
theorem rU3 : Try.prog.underlying 3 = some (.int .i64) := by kernel_rfl
theorem rU40 : Try.prog.underlying 40 = some (.slice 47) := by kernel_rfl
theorem rU47 : Try.prog.underlying 47 = some (.struct #[⟨ "Kind", 3, 0, false, "", "", 0⟩, ⟨ "Data", 9, 1, false, "", "", 8⟩]) := by kernel_rfl

set_option maxRecDepth 100000 in
theorem row_lifted (os : Os) (started : os.Started) (H : Type) (enc : TypeId × Value → H) :
    ReturnsInHanded {} Try.checked os 6 .any (Rows.framePlaysSpec.pre6 enc Try.prog Try.f6 Rows.framePlaysRow.domain false) (Rows.framePlaysSpec.post enc Try.prog Try.f6 false true false false) := by
  refine returnsInHanded_of_change_sized (C := Try.checked) Try.own started (by kernel_rfl) Try.func6
    (ChangeSpec.witness6 (enc := enc) (C := Try.checked) false ⟨#[], #[.int .i64 0, .bool false, .slice none 0 0], []⟩ 8 (by kernel_rfl) (by kernel_rfl) (by kernel_rfl) (by kernel_rfl)) ?_
  intro W base args ds gs before hval0 hW _ hsz _
  have hval : ∀ (j : Nat) t v, Try.f6.params[j]? = some t → args[j]? = some v → Value.okWide Try.prog W .any base t v := hval0
  have hW' := hW
  have hlt := hW.lt
  obtain ⟨p, q, hA0, hV, rfl, _, _⟩ := hW
  have hA : DataW.TrodAll enc Try.prog W 0 (fun _ => true) true Try.f6.params.toList args.toList ds p := hA0
  rw [show Try.f6.params = #[3, 4, 40] from rfl] at hA hval
  have hA2 := hA
  obtain ⟨v0, v1, v2, d0, d1, d2, p0, p1, p2, rfl, rfl, rfl, h0, h1, h2⟩ := trodAll_three hA
  obtain ⟨rfl, rfl⟩ := trodVars_none hV
  obtain ⟨m, rfl, rfl, rfl, wm⟩ := open_int rU3 (hval 0 3 v0 rfl rfl) h0
  obtain ⟨z, rfl, rfl, rfl⟩ := open_bool tU4 (hval 1 4 v1 rfl rfl) h1
  obtain ⟨sa, sl, sc, rfl⟩ := okWide_slice rU40 (hval 2 40 v2 rfl rfl)
  have hfin : ∀ W', Fr Non W W' → Rows.framePlaysSpec.post enc Try.prog Try.f6 false true false false W #[.int .i64 m, .bool z, .slice sa sl sc] (.bool true) W' := fun W' hf =>
    ⟨_, _, _, [], _, [], hW', trodAll_mk1 (shut_bool tU4 _), args_stay Try.laidOut hf.below (by kernel_rfl) (fun x hx => hlt x (List.mem_append_left _ hx)) hA2, rfl, hf.below.frame _, fun h => by cases h⟩
  obtain ⟨fuel, hs⟩ := h2
  have key : ∀ (kd : Nat → Int) (dt : Nat → Str), (∀ i, i < sl → OpAt W ⟨sa, sl, sc⟩ i (kd i) (dt i)) → Cl Try.prog 6 [.int .i64 m, .bool z, .slice sa sl sc] W (fun v W' => Rows.framePlaysSpec.post enc Try.prog Try.f6 false true false false W #[.int .i64 m, .bool z, .slice sa sl sc] v W') := by
    intro kd dt hl
    exact plays_spec (w := W) (k := fun v W' => Rows.framePlaysSpec.post enc Try.prog Try.f6 false true false false W #[.int .i64 m, .bool z, .slice sa sl sc] v W') m z ⟨sa, sl, sc⟩ kd dt hl hfin
  rcases DataW.trod_slice rU40 hs with ⟨hcs, _⟩ | ⟨a, len, cap, elems, rest, n, _, hcs, _, hb, hl, hm, hlen, hel, _⟩
  · simp [Value.cells] at hcs
    obtain ⟨rfl, rfl, rfl⟩ := hcs
    exact key (fun _ => 0) (fun _ => []) (fun i hi => by simp at hi)
  · simp [Value.cells] at hcs
    obtain ⟨rfl, rfl, rfl⟩ := hcs
    have each : ∀ i, i < sl → ∃ (kd : Int) (dt : Str), OpAt W ⟨some a, sl, sc⟩ i kd dt := by
      intro i hi
      have h := hel i hi
      have e2 : Try.prog.cellsOf 47 = 2 := by kernel_rfl
      rw [e2, List.getElem?_eq_getElem (by omega), Option.bind_eq_some_iff] at h
      obtain ⟨cs, hcs, ht⟩ := h
      obtain ⟨y0, y1, n', _, hcl, t0, t1⟩ := trod_struct2 rU47 ht
      obtain ⟨_, hclen, hcell⟩ := World.cells?_some hcs
      obtain ⟨kd, k1, _⟩ := DataW.trod_int rU3 t0
      obtain ⟨st, s1, _⟩ := DataW.trod_string tU9 t1
      have c3 : Try.prog.cellsOf 3 = 1 := by kernel_rfl
      have c9 : Try.prog.cellsOf 9 = 1 := by kernel_rfl
      simp only [c3, c9, List.drop_zero] at k1 s1
      have hk0 : cs[0]? = some (.int .i64 kd) := by
        have := congrArg (fun l => l[0]?) k1
        simpa using this
      have hk1 : cs[1]? = some (.string st) := by
        have := congrArg (fun l => l[0]?) s1
        simpa using this
      refine ⟨kd, st.data.toList, a, rfl, ?_, ?_⟩
      · have := hcell 0 (by omega)
        rw [hk0] at this; exact this
      · have := hcell 1 (by omega)
        rw [hk1] at this; rw [mkS_toList]; exact this
    refine key (fun i => if h : i < sl then (each i h).choose else 0) (fun i => if h : i < sl then (each i h).choose_spec.choose else []) (fun i hi => ?_)
    simp only [hi, dite_true]
    exact (each i hi).choose_spec.choose_spec

theorem framePlays_holds : Rows.FramePlaysSaid :=
  OpenClaim.holds_of_wide 6 Try.f6 rfl rfl rfl rfl rfl rfl rfl ⟨rfl, rfl, rfl, rfl, rfl⟩ rfl rfl rfl rfl rfl (by kernel_rfl) Try.func6 (by kernel_rfl)
    (of_decide_eq_true (by kernel_rfl)) (by unfold Func.isWrapper; rw [if_neg (by decide +kernel)]; exact ⟨rfl, rfl⟩)
    (fun os started H enc _ => row_lifted os started H enc)
#print axioms framePlays_holds
end Go.Proofs.Ytmgmffoillbfeaa
