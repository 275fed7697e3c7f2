/- token.joined: the texts of a list's elements, with a sign between. -/
import Derived.Test.YthpeengmcjpknaaGreatDoorPE1
set_option linter.unusedSimpArgs false
set_option linter.unusedVariables false
namespace Go.Proofs.YthpeengmcjpknaaGreatDoor
open Go.V Go.RowKit
theorem join_snoc (sep : UInt8) : ∀ (l : List Str) (x : Str), joinP sep (l ++ [x]) = if l = [] then x else joinP sep l ++ sep :: x
  | [], x => rfl
  | [a], x => rfl
  | a :: b :: l, x => by
    have ih := join_snoc sep (b :: l) x
    rw [if_neg (by simp)] at ih ⊢
    show a ++ sep :: joinP sep (b :: l ++ [x]) = (a ++ sep :: joinP sep (b :: l)) ++ sep :: x
    rw [ih]; simp
theorem join_take_le (sep : UInt8) (l : List Str) (j : Nat) : (joinP sep (l.take j)).length ≤ (joinP sep l).length := by
  by_cases hj : j < l.length
  · have key : ∀ n, j + n ≤ l.length → (joinP sep (l.take j)).length ≤ (joinP sep (l.take (j + n))).length := by
      intro n
      induction n with
      | zero => intro _; exact Nat.le_refl _
      | succ n ih =>
        intro h
        have h1 := ih (by omega)
        rw [← Nat.add_assoc, take_snoc (show j + n < l.length by omega), join_snoc]
        split
        · rename_i e; rw [e, show (joinP sep ([] : List Str)).length = 0 from rfl] at h1; omega
        · simp; omega
    have := key (l.length - j) (by omega)
    rwa [show j + (l.length - j) = l.length by omega, List.take_length] at this
  · rw [List.take_of_length_le (by omega)]; exact Nat.le_refl _
section
variable {w : World} {k : Value → World → Prop}
theorem join0_spec (x : Sl) (sg : UInt8) (fv : Value) (g : Str → Str) (l : List (Str)) (hx : RdL 1 RdStr w x l) (hl : l.length ≤ BB) (hlen : (joinP sg (l.map g)).length ≤ 140737488355328)
    (hf : ∀ (a : Str) (w1 : World) (k1 : Value → World → Prop), Fr Non w w1 → a ∈ l → (∀ w2, Fr Non w1 w2 → k1 (.string (mkS (g a))) w2) → Cv Tryz.prog fv [.string (mkS a)] w1 k1)
    (hk : ∀ w', Fr Non w w' → k (.string (mkS (joinP sg (l.map g)))) w') : Cl Tryz.prog 164 [.slice x.base x.len x.cap, .int .u8 (sg.toNat : Int), fv] w k := by
  refine f164_ok ?_
  unfold f164
  intro b4 w5 hb4 hw5
  have f5 : Fr Non w w5 := hw5 ▸ (Fr.refl Non w).alloc _
  have hB5 : Bd w.heap.size b4 [] w5 := hb4 ▸ Bd.new hw5
  have hL := hx.1
  unfold BB at hl
  refine ⟨fun t i w' => ∃ j : Nat, i = j ∧ j ≤ l.length ∧ t = l.length - j ∧ Bd w.heap.size b4 (joinP sg ((l.take j).map g)) w' ∧ Fr Non w w', ⟨l.length, 0, rfl, by omega, rfl, hB5, f5⟩, ?_⟩
  rintro t i w10 ⟨j, rfl, hj, rfl, hB, f10⟩
  refine ⟨fun h => ?_, fun h => ?_⟩
  · have hj : j < l.length := by have := of_decide_eq_true h; omega
    obtain ⟨a, ha, hz⟩ := (hx.fr RdStr.stay f10).2 j hj
    have hT : (l.take (j + 1)).map g = (l.take j).map g ++ [g l[j]] := by rw [take_snoc hj, List.map_append]; rfl
    have hm := join_take_le sg (l.map g) (j + 1)
    rw [← List.map_take, hT, join_snoc] at hm
    have hne : ((l.take j).map g = []) ↔ j = 0 := by
      constructor
      · intro e
        have := congrArg List.length e
        rw [List.length_map, List.length_take] at this; simp only [List.length_nil] at this; omega
      · rintro rfl; rfl
    refine ⟨a, ha, ⟨by omega, by omega⟩, _, hz, fun w' => Bd w.heap.size b4 (if j = 0 then [] else joinP sg ((l.take j).map g) ++ [sg]) w' ∧ Fr Non w w', ?_, fun h => ?_, fun h => ?_⟩
    · rintro w14 ⟨hB14, f14⟩
      have := f14.size
      refine hf l[j] w14 _ f14 (List.getElem_mem hj) fun w18 g18 => ⟨_, rfl, ?_⟩
      have f18 := f14.trans' g18
      refine wstr_spec (g l[j]) (hB14.fr g18) ?_ f18.size fun w21 hB21 b21 => ⟨_, _, rfl, l.length - (j + 1), by omega, j + 1, by rw [w64_id (by omega) (by omega)]; push_cast; rfl, by omega, rfl, ?_, belowFr b21 f18⟩
      · by_cases h0 : j = 0
        · rw [if_pos h0]
          rw [if_pos (hne.2 h0)] at hm
          simp only [List.length_nil]; omega
        · rw [if_neg h0]
          rw [if_neg (fun e => h0 (hne.1 e))] at hm
          simp only [List.length_append, List.length_cons, List.length_nil] at hm ⊢; omega
      · rw [hT, join_snoc]
        by_cases h0 : j = 0
        · rw [if_pos h0] at hB21
          rw [if_pos (hne.2 h0)]; exact hB21
        · rw [if_neg h0] at hB21
          rw [if_neg (fun e => h0 (hne.1 e))]
          simpa using hB21
    · have h0 : ¬ j = 0 := by have := of_decide_eq_true h; omega
      rw [if_neg (fun e => h0 (hne.1 e))] at hm
      refine wbyte_spec sg hB (by simp only [List.length_append, List.length_cons] at hm; omega) f10.size fun w15 hB15 b15 => ⟨_, rfl, ?_, belowFr b15 f10⟩
      rw [if_neg h0]; exact hB15
    · have h0 : j = 0 := by have := of_decide_eq_false h; omega
      refine ⟨?_, f10⟩
      rw [if_pos h0]
      rw [h0] at hB; exact hB
  · have hj : j = l.length := by have := of_decide_eq_false h; omega
    subst hj
    rw [List.take_length] at hB
    exact bstr_spec hB f10.size fun w25 b25 => ⟨_, rfl, hk _ (belowFr b25 f10)⟩
theorem join1_spec (x : Sl) (sg : UInt8) (fv : Value) (g : Cmp → Str) (l : List (Cmp)) (hx : RdL 1 RC w x l) (hl : l.length ≤ BB) (hlen : (joinP sg (l.map g)).length ≤ 140737488355328)
    (hf : ∀ (z : Sl) (a : Cmp) (w1 : World) (k1 : Value → World → Prop), Fr Non w w1 → RdL 1 RdStr w1 z a → a ∈ l → (∀ w2, Fr Non w1 w2 → k1 (.string (mkS (g a))) w2) → Cv Tryz.prog fv [.slice z.base z.len z.cap] w1 k1)
    (hk : ∀ w', Fr Non w w' → k (.string (mkS (joinP sg (l.map g)))) w') : Cl Tryz.prog 168 [.slice x.base x.len x.cap, .int .u8 (sg.toNat : Int), fv] w k := by
  refine f168_ok ?_
  unfold f168
  intro b4 w5 hb4 hw5
  have f5 : Fr Non w w5 := hw5 ▸ (Fr.refl Non w).alloc _
  have hB5 : Bd w.heap.size b4 [] w5 := hb4 ▸ Bd.new hw5
  have hL := hx.1
  unfold BB at hl
  refine ⟨fun t i w' => ∃ j : Nat, i = j ∧ j ≤ l.length ∧ t = l.length - j ∧ Bd w.heap.size b4 (joinP sg ((l.take j).map g)) w' ∧ Fr Non w w', ⟨l.length, 0, rfl, by omega, rfl, hB5, f5⟩, ?_⟩
  rintro t i w10 ⟨j, rfl, hj, rfl, hB, f10⟩
  refine ⟨fun h => ?_, fun h => ?_⟩
  · have hj : j < l.length := by have := of_decide_eq_true h; omega
    obtain ⟨a, ha, z, hz, hZ⟩ := (hx.fr RC.stay f10).2 j hj
    have hT : (l.take (j + 1)).map g = (l.take j).map g ++ [g l[j]] := by rw [take_snoc hj, List.map_append]; rfl
    have hm := join_take_le sg (l.map g) (j + 1)
    rw [← List.map_take, hT, join_snoc] at hm
    have hne : ((l.take j).map g = []) ↔ j = 0 := by
      constructor
      · intro e
        have := congrArg List.length e
        rw [List.length_map, List.length_take] at this; simp only [List.length_nil] at this; omega
      · rintro rfl; rfl
    refine ⟨a, ha, ⟨by omega, by omega⟩, z, hz, fun w' => Bd w.heap.size b4 (if j = 0 then [] else joinP sg ((l.take j).map g) ++ [sg]) w' ∧ Fr Non w w', ?_, fun h => ?_, fun h => ?_⟩
    · rintro w14 ⟨hB14, f14⟩
      obtain ⟨a1, ha1, z1, hz1, hZ1⟩ := hx.2 j hj
      obtain rfl : a1 = a := Option.some.inj (ha1.symm.trans ha)
      have ez : z1 = z := by
        have e := (f10.cell hz1 (fun h => h)).symm.trans hz
        simp only [Option.some.injEq, Value.slice.injEq] at e
        obtain ⟨e1, e2, e3⟩ := e
        obtain ⟨b, n, c⟩ := z
        obtain ⟨b', n', c'⟩ := z1
        simp only at e1 e2 e3
        rw [e1, e2, e3]
      subst ez
      have hZ14 := RdL.fr RdStr.stay hZ1 f14
      refine hf z1 l[j] w14 _ f14 hZ14 (List.getElem_mem hj) fun w18 g18 => ⟨_, rfl, ?_⟩
      have f18 := f14.trans' g18
      refine wstr_spec (g l[j]) (hB14.fr g18) ?_ f18.size fun w21 hB21 b21 => ⟨_, _, rfl, l.length - (j + 1), by omega, j + 1, by rw [w64_id (by omega) (by omega)]; push_cast; rfl, by omega, rfl, ?_, belowFr b21 f18⟩
      · by_cases h0 : j = 0
        · rw [if_pos h0]
          rw [if_pos (hne.2 h0)] at hm
          simp only [List.length_nil]; omega
        · rw [if_neg h0]
          rw [if_neg (fun e => h0 (hne.1 e))] at hm
          simp only [List.length_append, List.length_cons, List.length_nil] at hm ⊢; omega
      · rw [hT, join_snoc]
        by_cases h0 : j = 0
        · rw [if_pos h0] at hB21
          rw [if_pos (hne.2 h0)]; exact hB21
        · rw [if_neg h0] at hB21
          rw [if_neg (fun e => h0 (hne.1 e))]
          simpa using hB21
    · have h0 : ¬ j = 0 := by have := of_decide_eq_true h; omega
      rw [if_neg (fun e => h0 (hne.1 e))] at hm
      refine wbyte_spec sg hB (by simp only [List.length_append, List.length_cons] at hm; omega) f10.size fun w15 hB15 b15 => ⟨_, rfl, ?_, belowFr b15 f10⟩
      rw [if_neg h0]; exact hB15
    · have h0 : j = 0 := by have := of_decide_eq_false h; omega
      refine ⟨?_, f10⟩
      rw [if_pos h0]
      rw [h0] at hB; exact hB
  · have hj : j = l.length := by have := of_decide_eq_false h; omega
    subst hj
    rw [List.take_length] at hB
    exact bstr_spec hB f10.size fun w25 b25 => ⟨_, rfl, hk _ (belowFr b25 f10)⟩
theorem join2_spec (x : Sl) (sg : UInt8) (fv : Value) (g : Rept → Str) (l : List (Rept)) (hx : RdL 1 RR w x l) (hl : l.length ≤ BB) (hlen : (joinP sg (l.map g)).length ≤ 140737488355328)
    (hf : ∀ (z : Sl) (a : Rept) (w1 : World) (k1 : Value → World → Prop), Fr Non w w1 → RdL 1 RC w1 z a → a ∈ l → (∀ w2, Fr Non w1 w2 → k1 (.string (mkS (g a))) w2) → Cv Tryz.prog fv [.slice z.base z.len z.cap] w1 k1)
    (hk : ∀ w', Fr Non w w' → k (.string (mkS (joinP sg (l.map g)))) w') : Cl Tryz.prog 170 [.slice x.base x.len x.cap, .int .u8 (sg.toNat : Int), fv] w k := by
  refine f170_ok ?_
  unfold f170
  intro b4 w5 hb4 hw5
  have f5 : Fr Non w w5 := hw5 ▸ (Fr.refl Non w).alloc _
  have hB5 : Bd w.heap.size b4 [] w5 := hb4 ▸ Bd.new hw5
  have hL := hx.1
  unfold BB at hl
  refine ⟨fun t i w' => ∃ j : Nat, i = j ∧ j ≤ l.length ∧ t = l.length - j ∧ Bd w.heap.size b4 (joinP sg ((l.take j).map g)) w' ∧ Fr Non w w', ⟨l.length, 0, rfl, by omega, rfl, hB5, f5⟩, ?_⟩
  rintro t i w10 ⟨j, rfl, hj, rfl, hB, f10⟩
  refine ⟨fun h => ?_, fun h => ?_⟩
  · have hj : j < l.length := by have := of_decide_eq_true h; omega
    obtain ⟨a, ha, z, hz, hZ⟩ := (hx.fr RR.stay f10).2 j hj
    have hT : (l.take (j + 1)).map g = (l.take j).map g ++ [g l[j]] := by rw [take_snoc hj, List.map_append]; rfl
    have hm := join_take_le sg (l.map g) (j + 1)
    rw [← List.map_take, hT, join_snoc] at hm
    have hne : ((l.take j).map g = []) ↔ j = 0 := by
      constructor
      · intro e
        have := congrArg List.length e
        rw [List.length_map, List.length_take] at this; simp only [List.length_nil] at this; omega
      · rintro rfl; rfl
    refine ⟨a, ha, ⟨by omega, by omega⟩, z, hz, fun w' => Bd w.heap.size b4 (if j = 0 then [] else joinP sg ((l.take j).map g) ++ [sg]) w' ∧ Fr Non w w', ?_, fun h => ?_, fun h => ?_⟩
    · rintro w14 ⟨hB14, f14⟩
      obtain ⟨a1, ha1, z1, hz1, hZ1⟩ := hx.2 j hj
      obtain rfl : a1 = a := Option.some.inj (ha1.symm.trans ha)
      have ez : z1 = z := by
        have e := (f10.cell hz1 (fun h => h)).symm.trans hz
        simp only [Option.some.injEq, Value.slice.injEq] at e
        obtain ⟨e1, e2, e3⟩ := e
        obtain ⟨b, n, c⟩ := z
        obtain ⟨b', n', c'⟩ := z1
        simp only at e1 e2 e3
        rw [e1, e2, e3]
      subst ez
      have hZ14 := RdL.fr RC.stay hZ1 f14
      refine hf z1 l[j] w14 _ f14 hZ14 (List.getElem_mem hj) fun w18 g18 => ⟨_, rfl, ?_⟩
      have f18 := f14.trans' g18
      refine wstr_spec (g l[j]) (hB14.fr g18) ?_ f18.size fun w21 hB21 b21 => ⟨_, _, rfl, l.length - (j + 1), by omega, j + 1, by rw [w64_id (by omega) (by omega)]; push_cast; rfl, by omega, rfl, ?_, belowFr b21 f18⟩
      · by_cases h0 : j = 0
        · rw [if_pos h0]
          rw [if_pos (hne.2 h0)] at hm
          simp only [List.length_nil]; omega
        · rw [if_neg h0]
          rw [if_neg (fun e => h0 (hne.1 e))] at hm
          simp only [List.length_append, List.length_cons, List.length_nil] at hm ⊢; omega
      · rw [hT, join_snoc]
        by_cases h0 : j = 0
        · rw [if_pos h0] at hB21
          rw [if_pos (hne.2 h0)]; exact hB21
        · rw [if_neg h0] at hB21
          rw [if_neg (fun e => h0 (hne.1 e))]
          simpa using hB21
    · have h0 : ¬ j = 0 := by have := of_decide_eq_true h; omega
      rw [if_neg (fun e => h0 (hne.1 e))] at hm
      refine wbyte_spec sg hB (by simp only [List.length_append, List.length_cons] at hm; omega) f10.size fun w15 hB15 b15 => ⟨_, rfl, ?_, belowFr b15 f10⟩
      rw [if_neg h0]; exact hB15
    · have h0 : j = 0 := by have := of_decide_eq_false h; omega
      refine ⟨?_, f10⟩
      rw [if_pos h0]
      rw [h0] at hB; exact hB
  · have hj : j = l.length := by have := of_decide_eq_false h; omega
    subst hj
    rw [List.take_length] at hB
    exact bstr_spec hB f10.size fun w25 b25 => ⟨_, rfl, hk _ (belowFr b25 f10)⟩
end
end Go.Proofs.YthpeengmcjpknaaGreatDoor
