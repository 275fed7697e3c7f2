/- What is empty at ends is left away. -/
import Derived.Test.YthpeengmcjpknaaGreatDoorPM8
import Derived.Test.YthpeengmcjpknaaGreatDoorPVR
set_option linter.unusedSimpArgs false
set_option linter.unusedVariables false
namespace Go.Proofs.YthpeengmcjpknaaGreatDoor
open Go.V Go.RowKit
theorem snoc_of {α : Type} {l : List α} (h : 0 < l.length) : ∃ i x, l = i ++ [x] := by
  have hne : l ≠ [] := by intro e; subst e; simp at h
  exact ⟨l.dropLast, l.getLast hne, (List.dropLast_concat_getLast hne).symm⟩
section
variable {w : World} {k : Value → World → Prop}
set_option maxHeartbeats 1000000 in
theorem trim3_spec (x : Sl) (g : List Rept → List Rept) (inner empty : Value) (l : List (List Rept)) (hx : RdL 1 RF w x l) (hl : l.length ≤ BB)
    (hin : ∀ (z : Sl) (le : List Rept) (w1 : World) (k1 : Value → World → Prop), RdL 1 RR w1 z le → le ∈ l → Fr Non w w1 → (∀ (y : Sl) (w2 : World), EF w2 [.slice y.base y.len y.cap] (g le) (fun b => w1.heap.size ≤ b ∧ b < w2.heap.size) → Fr Non w1 w2 → k1 (.slice y.base y.len y.cap) w2) → Cv Tryz.prog inner [.slice z.base z.len z.cap] w1 k1)
    (hem : ∀ (z : Sl) (w1 : World) (k1 : Value → World → Prop), k1 (.bool ((z.len : Int) == 0)) w1 → Cv Tryz.prog empty [.slice z.base z.len z.cap] w1 k1)
    (hk : ∀ (y : Sl) (w' : World), Own 44 1 (fun _ => EF) w' y (trimT (l.map g)) (fun b => w.heap.size ≤ b ∧ b < w'.heap.size) → Fr Non w w' → k (.slice y.base y.len y.cap) w') : Cl Tryz.prog 178 [.slice x.base x.len x.cap, inner, empty] w k := by
  refine f178_ok ?_
  unfold f178
  have hL := hx.1
  unfold BB at hl
  refine ⟨fun t out i w' => ∃ j : Nat, i = j ∧ j ≤ l.length ∧ t = l.length - j ∧ Own 44 1 (fun _ => EF) w' out ((l.take j).map g) (fun b => w.heap.size ≤ b ∧ b < w'.heap.size) ∧ Fr Non w w', ⟨l.length, 0, rfl, by omega, by omega, by simpa using Own.nil _ _ _ _ _, Fr.refl _ _⟩, ?_⟩
  rintro t out i w9 ⟨j, rfl, hj, rfl, ho, f9⟩
  refine ⟨fun h => ?_, fun h => ?_⟩
  · have hj : j < l.length := by have := of_decide_eq_true h; omega
    obtain ⟨a, ha, z, hz, hZ⟩ := (hx.fr RF.stay f9).2 j hj
    refine ⟨a, ha, ⟨by omega, by omega⟩, z, hz, hin z l[j] w9 _ hZ (List.getElem_mem hj) f9 fun y w12 hy f12 => ⟨y, rfl, ?_⟩⟩
    intro b15 w16 hb15 hw16
    have f16 : Fr Non w12 w16 := hw16 ▸ (Fr.refl Non w12).alloc _
    have hB : Blk w16 b15 44 [.slice y.base y.len y.cap] := hb15 ▸ hw16 ▸ Blk.new w12 _ _
    have h16 := ho.fr (fun _ => EF.st) (f12.trans' f16) (fun _ _ h => h)
    have y16 := EF.st _ _ _ _ _ (fun b hb => f16.blk b hb.2 (fun h => h)) hy
    have z1 := f16.size
    have z2 := f12.size
    have z3 := f9.size
    obtain ⟨s2, w2, hr2, ho2, hf2⟩ := h16.push (P := Tryz.prog) kU47 kS64 kZ64 kB64 rfl (by omega) (fun _ => EF.st) (x := g l[j]) (cx := [.slice y.base y.len y.cap]) y16 rfl (by intro v hv; simp at hv; subst hv; rfl) (fun b hb => ⟨by omega, by omega⟩) (a := ⟨b15, 0, none⟩) (c := 1) (cell1 hB) (by simp only [List.length_map, List.length_take]; omega) (by simp only [List.length_map, List.length_take]; omega) 45
    refine ⟨s2, w2, hr2, l.length - (j + 1), by omega, j + 1, by rw [w64_id (by omega) (by omega)]; push_cast; rfl, by omega, rfl, ?_, upN (f9.trans' (f12.trans' f16)) hf2 (fun g hg => hg.1)⟩
    rw [take_snoc hj, List.map_append]
    exact ho2.mono fun b hb => ⟨by omega, hb.2⟩
  · have hj : j = l.length := by have := of_decide_eq_false h; omega
    subst hj
    rw [List.take_length] at ho
    refine ⟨fun t out w' => ∃ L, w' = w9 ∧ t = L.length ∧ Own 44 1 (fun _ => EF) w9 out L (fun b => w.heap.size ≤ b ∧ b < w9.heap.size) ∧ trimT L = trimT (l.map g) ∧ L.length ≤ l.length, ⟨_, l.map g, rfl, rfl, ho, rfl, by simp⟩, ?_⟩
    rintro t out w23 ⟨L, rfl, rfl, hL2, htr, hLl⟩
    have hlen := hL2.len
    refine ⟨fun v w' => w' = w23 ∧ (v = true → ∃ i x, L = i ++ [x] ∧ x.isEmpty = true) ∧ (v = false → trimT L = L), ?_, fun h => ?_, fun h => ⟨rfl, fun h => (by cases h), fun _ => ?_⟩⟩
    · rintro v w26 ⟨rfl, hv1, hv2⟩
      refine ⟨fun hv => ?_, fun hv => ?_⟩
      · obtain ⟨i, x, rfl, he⟩ := hv1 hv
        simp only [List.length_append, List.length_cons, List.length_nil, Nat.zero_add] at hlen hLl
        have hle := hL2.le
        have e : IntKind.i64.wrap ((out.len : Int) - 1) = (i.length : Int) := by rw [w64_id (by omega) (by omega)]; omega
        rw [e, slS0]
        have hi := hL2.take (n := i.length) (by simp)
        rw [List.take_left] at hi
        rw [trimT_snoc, if_pos he] at htr
        exact ⟨⟨by omega, by omega, by omega⟩, i.length, by simp, i, rfl, rfl, hi, htr, by omega⟩
      · rw [← htr, hv2 hv] at hk
        exact hk _ _ hL2 f9
    · have h := of_decide_eq_true h
      obtain ⟨i, x, rfl⟩ := snoc_of (l := L) (by omega)
      have hl2 := hlen
      simp only [List.length_append, List.length_cons, List.length_nil, Nat.zero_add] at hl2 hLl
      have e : IntKind.i64.wrap ((out.len : Int) - 1) = (i.length : Int) := by rw [w64_id (by omega) (by omega)]; omega
      rw [e]
      have hd := hL2
      obtain ⟨xs, G, o, hP⟩ := hd
      obtain ⟨a, ha, _, _⟩ := hP.base (by omega) (i := i.length) (by simp)
      obtain ⟨z, hz, hZ⟩ := hP.el i.length (by simp)
      have hc := hP.cell ha (i := i.length) (k := 0) (v := .slice z.base z.len z.cap) (by rw [hz]; rfl) (by omega)
      have hzl := hZ.len
      simp only [List.getElem_append_right (Nat.le_refl _), Nat.sub_self, List.getElem_cons_zero] at hzl
      refine ⟨a, ha, ⟨by omega, by omega⟩, z, hc, hem z _ _ ⟨_, rfl, rfl, fun hb => ⟨i, x, rfl, ?_⟩, fun hb => ?_⟩⟩
      · have : z.len = 0 := by simp at hb; omega
        rw [List.isEmpty_iff]; exact List.eq_nil_of_length_eq_zero (by omega)
      · have : ¬ z.len = 0 := by simp at hb; omega
        rw [trimT_snoc, if_neg]
        rw [List.isEmpty_iff]; intro e; subst e; simp at hzl; omega
    · have h := of_decide_eq_false h
      have : L = [] := List.eq_nil_of_length_eq_zero (by omega)
      subst this; rfl
set_option maxHeartbeats 1000000 in
theorem trim2_spec (x : Sl) (g : List Cmp → List Cmp) (inner empty : Value) (l : List (List Cmp)) (hx : RdL 1 RR w x l) (hl : l.length ≤ BB)
    (hin : ∀ (z : Sl) (le : List Cmp) (w1 : World) (k1 : Value → World → Prop), RdL 1 RC w1 z le → le ∈ l → Fr Non w w1 → (∀ (y : Sl) (w2 : World), ER w2 [.slice y.base y.len y.cap] (g le) (fun b => w1.heap.size ≤ b ∧ b < w2.heap.size) → Fr Non w1 w2 → k1 (.slice y.base y.len y.cap) w2) → Cv Tryz.prog inner [.slice z.base z.len z.cap] w1 k1)
    (hem : ∀ (z : Sl) (w1 : World) (k1 : Value → World → Prop), k1 (.bool ((z.len : Int) == 0)) w1 → Cv Tryz.prog empty [.slice z.base z.len z.cap] w1 k1)
    (hk : ∀ (y : Sl) (w' : World), Own 38 1 (fun _ => ER) w' y (trimT (l.map g)) (fun b => w.heap.size ≤ b ∧ b < w'.heap.size) → Fr Non w w' → k (.slice y.base y.len y.cap) w') : Cl Tryz.prog 286 [.slice x.base x.len x.cap, inner, empty] w k := by
  refine f286_ok ?_
  unfold f286
  have hL := hx.1
  unfold BB at hl
  refine ⟨fun t out i w' => ∃ j : Nat, i = j ∧ j ≤ l.length ∧ t = l.length - j ∧ Own 38 1 (fun _ => ER) w' out ((l.take j).map g) (fun b => w.heap.size ≤ b ∧ b < w'.heap.size) ∧ Fr Non w w', ⟨l.length, 0, rfl, by omega, by omega, by simpa using Own.nil _ _ _ _ _, Fr.refl _ _⟩, ?_⟩
  rintro t out i w9 ⟨j, rfl, hj, rfl, ho, f9⟩
  refine ⟨fun h => ?_, fun h => ?_⟩
  · have hj : j < l.length := by have := of_decide_eq_true h; omega
    obtain ⟨a, ha, z, hz, hZ⟩ := (hx.fr RR.stay f9).2 j hj
    refine ⟨a, ha, ⟨by omega, by omega⟩, z, hz, hin z l[j] w9 _ hZ (List.getElem_mem hj) f9 fun y w12 hy f12 => ⟨y, rfl, ?_⟩⟩
    intro b15 w16 hb15 hw16
    have f16 : Fr Non w12 w16 := hw16 ▸ (Fr.refl Non w12).alloc _
    have hB : Blk w16 b15 38 [.slice y.base y.len y.cap] := hb15 ▸ hw16 ▸ Blk.new w12 _ _
    have h16 := ho.fr (fun _ => ER.st) (f12.trans' f16) (fun _ _ h => h)
    have y16 := ER.st _ _ _ _ _ (fun b hb => f16.blk b hb.2 (fun h => h)) hy
    have z1 := f16.size
    have z2 := f12.size
    have z3 := f9.size
    obtain ⟨s2, w2, hr2, ho2, hf2⟩ := h16.push (P := Tryz.prog) kU64 kS65 kZ65 kB65 rfl (by omega) (fun _ => ER.st) (x := g l[j]) (cx := [.slice y.base y.len y.cap]) y16 rfl (by intro v hv; simp at hv; subst hv; rfl) (fun b hb => ⟨by omega, by omega⟩) (a := ⟨b15, 0, none⟩) (c := 1) (cell1 hB) (by simp only [List.length_map, List.length_take]; omega) (by simp only [List.length_map, List.length_take]; omega) 44
    refine ⟨s2, w2, hr2, l.length - (j + 1), by omega, j + 1, by rw [w64_id (by omega) (by omega)]; push_cast; rfl, by omega, rfl, ?_, upN (f9.trans' (f12.trans' f16)) hf2 (fun g hg => hg.1)⟩
    rw [take_snoc hj, List.map_append]
    exact ho2.mono fun b hb => ⟨by omega, hb.2⟩
  · have hj : j = l.length := by have := of_decide_eq_false h; omega
    subst hj
    rw [List.take_length] at ho
    refine ⟨fun t out w' => ∃ L, w' = w9 ∧ t = L.length ∧ Own 38 1 (fun _ => ER) w9 out L (fun b => w.heap.size ≤ b ∧ b < w9.heap.size) ∧ trimT L = trimT (l.map g) ∧ L.length ≤ l.length, ⟨_, l.map g, rfl, rfl, ho, rfl, by simp⟩, ?_⟩
    rintro t out w23 ⟨L, rfl, rfl, hL2, htr, hLl⟩
    have hlen := hL2.len
    refine ⟨fun v w' => w' = w23 ∧ (v = true → ∃ i x, L = i ++ [x] ∧ x.isEmpty = true) ∧ (v = false → trimT L = L), ?_, fun h => ?_, fun h => ⟨rfl, fun h => (by cases h), fun _ => ?_⟩⟩
    · rintro v w26 ⟨rfl, hv1, hv2⟩
      refine ⟨fun hv => ?_, fun hv => ?_⟩
      · obtain ⟨i, x, rfl, he⟩ := hv1 hv
        simp only [List.length_append, List.length_cons, List.length_nil, Nat.zero_add] at hlen hLl
        have hle := hL2.le
        have e : IntKind.i64.wrap ((out.len : Int) - 1) = (i.length : Int) := by rw [w64_id (by omega) (by omega)]; omega
        rw [e, slS0]
        have hi := hL2.take (n := i.length) (by simp)
        rw [List.take_left] at hi
        rw [trimT_snoc, if_pos he] at htr
        exact ⟨⟨by omega, by omega, by omega⟩, i.length, by simp, i, rfl, rfl, hi, htr, by omega⟩
      · rw [← htr, hv2 hv] at hk
        exact hk _ _ hL2 f9
    · have h := of_decide_eq_true h
      obtain ⟨i, x, rfl⟩ := snoc_of (l := L) (by omega)
      have hl2 := hlen
      simp only [List.length_append, List.length_cons, List.length_nil, Nat.zero_add] at hl2 hLl
      have e : IntKind.i64.wrap ((out.len : Int) - 1) = (i.length : Int) := by rw [w64_id (by omega) (by omega)]; omega
      rw [e]
      have hd := hL2
      obtain ⟨xs, G, o, hP⟩ := hd
      obtain ⟨a, ha, _, _⟩ := hP.base (by omega) (i := i.length) (by simp)
      obtain ⟨z, hz, hZ⟩ := hP.el i.length (by simp)
      have hc := hP.cell ha (i := i.length) (k := 0) (v := .slice z.base z.len z.cap) (by rw [hz]; rfl) (by omega)
      have hzl := hZ.len
      simp only [List.getElem_append_right (Nat.le_refl _), Nat.sub_self, List.getElem_cons_zero] at hzl
      refine ⟨a, ha, ⟨by omega, by omega⟩, z, hc, hem z _ _ ⟨_, rfl, rfl, fun hb => ⟨i, x, rfl, ?_⟩, fun hb => ?_⟩⟩
      · have : z.len = 0 := by simp at hb; omega
        rw [List.isEmpty_iff]; exact List.eq_nil_of_length_eq_zero (by omega)
      · have : ¬ z.len = 0 := by simp at hb; omega
        rw [trimT_snoc, if_neg]
        rw [List.isEmpty_iff]; intro e; subst e; simp at hzl; omega
    · have h := of_decide_eq_false h
      have : L = [] := List.eq_nil_of_length_eq_zero (by omega)
      subst this; rfl
set_option maxHeartbeats 1000000 in
theorem trim1_spec (x : Sl) (g : List Str → List Str) (inner empty : Value) (l : List (List Str)) (hx : RdL 1 RC w x l) (hl : l.length ≤ BB)
    (hin : ∀ (z : Sl) (le : List Str) (w1 : World) (k1 : Value → World → Prop), RdL 1 RdStr w1 z le → le ∈ l → Fr Non w w1 → (∀ (y : Sl) (w2 : World), EC w2 [.slice y.base y.len y.cap] (g le) (fun b => w1.heap.size ≤ b ∧ b < w2.heap.size) → Fr Non w1 w2 → k1 (.slice y.base y.len y.cap) w2) → Cv Tryz.prog inner [.slice z.base z.len z.cap] w1 k1)
    (hem : ∀ (z : Sl) (w1 : World) (k1 : Value → World → Prop), k1 (.bool ((z.len : Int) == 0)) w1 → Cv Tryz.prog empty [.slice z.base z.len z.cap] w1 k1)
    (hk : ∀ (y : Sl) (w' : World), Own 80 1 (fun _ => EC) w' y (trimT (l.map g)) (fun b => w.heap.size ≤ b ∧ b < w'.heap.size) → Fr Non w w' → k (.slice y.base y.len y.cap) w') : Cl Tryz.prog 284 [.slice x.base x.len x.cap, inner, empty] w k := by
  refine f284_ok ?_
  unfold f284
  have hL := hx.1
  unfold BB at hl
  refine ⟨fun t out i w' => ∃ j : Nat, i = j ∧ j ≤ l.length ∧ t = l.length - j ∧ Own 80 1 (fun _ => EC) w' out ((l.take j).map g) (fun b => w.heap.size ≤ b ∧ b < w'.heap.size) ∧ Fr Non w w', ⟨l.length, 0, rfl, by omega, by omega, by simpa using Own.nil _ _ _ _ _, Fr.refl _ _⟩, ?_⟩
  rintro t out i w9 ⟨j, rfl, hj, rfl, ho, f9⟩
  refine ⟨fun h => ?_, fun h => ?_⟩
  · have hj : j < l.length := by have := of_decide_eq_true h; omega
    obtain ⟨a, ha, z, hz, hZ⟩ := (hx.fr RC.stay f9).2 j hj
    refine ⟨a, ha, ⟨by omega, by omega⟩, z, hz, hin z l[j] w9 _ hZ (List.getElem_mem hj) f9 fun y w12 hy f12 => ⟨y, rfl, ?_⟩⟩
    intro b15 w16 hb15 hw16
    have f16 : Fr Non w12 w16 := hw16 ▸ (Fr.refl Non w12).alloc _
    have hB : Blk w16 b15 80 [.slice y.base y.len y.cap] := hb15 ▸ hw16 ▸ Blk.new w12 _ _
    have h16 := ho.fr (fun _ => EC.st) (f12.trans' f16) (fun _ _ h => h)
    have y16 := EC.st _ _ _ _ _ (fun b hb => f16.blk b hb.2 (fun h => h)) hy
    have z1 := f16.size
    have z2 := f12.size
    have z3 := f9.size
    obtain ⟨s2, w2, hr2, ho2, hf2⟩ := h16.push (P := Tryz.prog) kU65 kS66 kZ66 kB66 rfl (by omega) (fun _ => EC.st) (x := g l[j]) (cx := [.slice y.base y.len y.cap]) y16 rfl (by intro v hv; simp at hv; subst hv; rfl) (fun b hb => ⟨by omega, by omega⟩) (a := ⟨b15, 0, none⟩) (c := 1) (cell1 hB) (by simp only [List.length_map, List.length_take]; omega) (by simp only [List.length_map, List.length_take]; omega) 38
    refine ⟨s2, w2, hr2, l.length - (j + 1), by omega, j + 1, by rw [w64_id (by omega) (by omega)]; push_cast; rfl, by omega, rfl, ?_, upN (f9.trans' (f12.trans' f16)) hf2 (fun g hg => hg.1)⟩
    rw [take_snoc hj, List.map_append]
    exact ho2.mono fun b hb => ⟨by omega, hb.2⟩
  · have hj : j = l.length := by have := of_decide_eq_false h; omega
    subst hj
    rw [List.take_length] at ho
    refine ⟨fun t out w' => ∃ L, w' = w9 ∧ t = L.length ∧ Own 80 1 (fun _ => EC) w9 out L (fun b => w.heap.size ≤ b ∧ b < w9.heap.size) ∧ trimT L = trimT (l.map g) ∧ L.length ≤ l.length, ⟨_, l.map g, rfl, rfl, ho, rfl, by simp⟩, ?_⟩
    rintro t out w23 ⟨L, rfl, rfl, hL2, htr, hLl⟩
    have hlen := hL2.len
    refine ⟨fun v w' => w' = w23 ∧ (v = true → ∃ i x, L = i ++ [x] ∧ x.isEmpty = true) ∧ (v = false → trimT L = L), ?_, fun h => ?_, fun h => ⟨rfl, fun h => (by cases h), fun _ => ?_⟩⟩
    · rintro v w26 ⟨rfl, hv1, hv2⟩
      refine ⟨fun hv => ?_, fun hv => ?_⟩
      · obtain ⟨i, x, rfl, he⟩ := hv1 hv
        simp only [List.length_append, List.length_cons, List.length_nil, Nat.zero_add] at hlen hLl
        have hle := hL2.le
        have e : IntKind.i64.wrap ((out.len : Int) - 1) = (i.length : Int) := by rw [w64_id (by omega) (by omega)]; omega
        rw [e, slS0]
        have hi := hL2.take (n := i.length) (by simp)
        rw [List.take_left] at hi
        rw [trimT_snoc, if_pos he] at htr
        exact ⟨⟨by omega, by omega, by omega⟩, i.length, by simp, i, rfl, rfl, hi, htr, by omega⟩
      · rw [← htr, hv2 hv] at hk
        exact hk _ _ hL2 f9
    · have h := of_decide_eq_true h
      obtain ⟨i, x, rfl⟩ := snoc_of (l := L) (by omega)
      have hl2 := hlen
      simp only [List.length_append, List.length_cons, List.length_nil, Nat.zero_add] at hl2 hLl
      have e : IntKind.i64.wrap ((out.len : Int) - 1) = (i.length : Int) := by rw [w64_id (by omega) (by omega)]; omega
      rw [e]
      have hd := hL2
      obtain ⟨xs, G, o, hP⟩ := hd
      obtain ⟨a, ha, _, _⟩ := hP.base (by omega) (i := i.length) (by simp)
      obtain ⟨z, hz, hZ⟩ := hP.el i.length (by simp)
      have hc := hP.cell ha (i := i.length) (k := 0) (v := .slice z.base z.len z.cap) (by rw [hz]; rfl) (by omega)
      have hzl := hZ.len
      simp only [List.getElem_append_right (Nat.le_refl _), Nat.sub_self, List.getElem_cons_zero] at hzl
      refine ⟨a, ha, ⟨by omega, by omega⟩, z, hc, hem z _ _ ⟨_, rfl, rfl, fun hb => ⟨i, x, rfl, ?_⟩, fun hb => ?_⟩⟩
      · have : z.len = 0 := by simp at hb; omega
        rw [List.isEmpty_iff]; exact List.eq_nil_of_length_eq_zero (by omega)
      · have : ¬ z.len = 0 := by simp at hb; omega
        rw [trimT_snoc, if_neg]
        rw [List.isEmpty_iff]; intro e; subst e; simp at hzl; omega
    · have h := of_decide_eq_false h
      have : L = [] := List.eq_nil_of_length_eq_zero (by omega)
      subst this; rfl
set_option maxHeartbeats 1000000 in
theorem trim0_spec (x : Sl) (inner empty : Value) (l : Cmp) (hx : RdL 1 RdStr w x l) (hl : l.length ≤ BB)
    (hin : ∀ (s : Str) (w1 : World) (k1 : Value → World → Prop), k1 (.string (mkS s)) w1 → Cv Tryz.prog inner [.string (mkS s)] w1 k1)
    (hem : ∀ (s : Str) (w1 : World) (k1 : Value → World → Prop), k1 (.bool (s == [])) w1 → Cv Tryz.prog empty [.string (mkS s)] w1 k1)
    (hk : ∀ (y : Sl) (w' : World), OwC w' y (trimT l) (fun b => w.heap.size ≤ b ∧ b < w'.heap.size) → Fr Non w w' → k (.slice y.base y.len y.cap) w') : Cl Tryz.prog 280 [.slice x.base x.len x.cap, inner, empty] w k := by
  refine f280_ok ?_
  unfold f280
  have hL := hx.1
  unfold BB at hl
  refine ⟨fun t out i w' => ∃ j : Nat, i = j ∧ j ≤ l.length ∧ t = l.length - j ∧ OwC w' out (l.take j) (fun b => w.heap.size ≤ b ∧ b < w'.heap.size) ∧ Fr Non w w', ⟨l.length, 0, rfl, by omega, by omega, by simpa using Own.nil _ _ _ _ _, Fr.refl _ _⟩, ?_⟩
  rintro t out i w9 ⟨j, rfl, hj, rfl, ho, f9⟩
  refine ⟨fun h => ?_, fun h => ?_⟩
  · have hj : j < l.length := by have := of_decide_eq_true h; omega
    obtain ⟨a, ha, hz⟩ := (hx.fr RdStr.stay f9).2 j hj
    refine ⟨a, ha, ⟨by omega, by omega⟩, _, hz, hin l[j] w9 _ ⟨_, rfl, ?_⟩⟩
    intro b15 w16 hb15 hw16
    have f16 : Fr Non w9 w16 := hw16 ▸ (Fr.refl Non w9).alloc _
    have hB : Blk w16 b15 9 [.string (mkS l[j])] := hb15 ▸ hw16 ▸ Blk.new w9 _ _
    have h16 := ho.fr (fun _ => EStr.st) f16 (fun _ _ h => h)
    have z1 := f16.size
    have z3 := f9.size
    obtain ⟨s2, w2, hr2, ho2, hf2⟩ := h16.push (P := Tryz.prog) kU66 kS9 kZ9 kB9 rfl (by omega) (fun _ => EStr.st) (x := l[j]) (cx := [.string (mkS l[j])]) (ox := fun _ => False) rfl rfl (by intro v hv; simp at hv; subst hv; rfl) (fun b hb => hb.elim) (a := ⟨b15, 0, none⟩) (c := 1) (cell1 hB) (by simp only [List.length_take]; omega) (by simp only [List.length_take]; omega) 80
    refine ⟨s2, w2, hr2, l.length - (j + 1), by omega, j + 1, by rw [w64_id (by omega) (by omega)]; push_cast; rfl, by omega, rfl, ?_, upN (f9.trans' f16) hf2 (fun g hg => hg.1)⟩
    rw [take_snoc hj]
    refine ho2.mono fun b hb => ⟨?_, hb.2⟩
    rcases hb.1 with h | h | h
    · exact h.1
    · exact h.elim
    · omega
  · have hj : j = l.length := by have := of_decide_eq_false h; omega
    subst hj
    rw [List.take_length] at ho
    refine ⟨fun t out w' => ∃ L, w' = w9 ∧ t = L.length ∧ OwC w9 out L (fun b => w.heap.size ≤ b ∧ b < w9.heap.size) ∧ trimT L = trimT l ∧ L.length ≤ l.length, ⟨_, l, rfl, rfl, ho, rfl, Nat.le_refl _⟩, ?_⟩
    rintro t out w23 ⟨L, rfl, rfl, hL2, htr, hLl⟩
    have hlen := hL2.len
    refine ⟨fun v w' => w' = w23 ∧ (v = true → ∃ i x, L = i ++ [x] ∧ x.isEmpty = true) ∧ (v = false → trimT L = L), ?_, fun h => ?_, fun h => ⟨rfl, fun h => (by cases h), fun _ => ?_⟩⟩
    · rintro v w26 ⟨rfl, hv1, hv2⟩
      refine ⟨fun hv => ?_, fun hv => ?_⟩
      · obtain ⟨i, x, rfl, he⟩ := hv1 hv
        simp only [List.length_append, List.length_cons, List.length_nil, Nat.zero_add] at hlen hLl
        have hle := hL2.le
        have e : IntKind.i64.wrap ((out.len : Int) - 1) = (i.length : Int) := by rw [w64_id (by omega) (by omega)]; omega
        rw [e, slS0]
        have hi := hL2.take (n := i.length) (by simp)
        rw [List.take_left] at hi
        rw [trimT_snoc, if_pos he] at htr
        exact ⟨⟨by omega, by omega, by omega⟩, i.length, by simp, i, rfl, rfl, hi, htr, by omega⟩
      · rw [← htr, hv2 hv] at hk
        exact hk _ _ hL2 f9
    · have h := of_decide_eq_true h
      obtain ⟨i, x, rfl⟩ := snoc_of (l := L) (by omega)
      have hl2 := hlen
      simp only [List.length_append, List.length_cons, List.length_nil, Nat.zero_add] at hl2 hLl
      have e : IntKind.i64.wrap ((out.len : Int) - 1) = (i.length : Int) := by rw [w64_id (by omega) (by omega)]; omega
      rw [e]
      have hR := hL2.rdStr
      obtain ⟨a, ha, hc⟩ := hR.2 i.length (by simp)
      simp only [List.getElem_append_right (Nat.le_refl _), Nat.sub_self, List.getElem_cons_zero] at hc
      refine ⟨a, ha, ⟨by omega, by omega⟩, x, hc, hem x _ _ ⟨_, rfl, rfl, fun hb => ⟨i, x, rfl, ?_⟩, fun hb => ?_⟩⟩
      · have : x = [] := by simpa using hb
        subst this; rfl
      · have : ¬ x = [] := by simpa using hb
        rw [trimT_snoc, if_neg]
        rw [List.isEmpty_iff]; exact this
    · have h := of_decide_eq_false h
      have : L = [] := List.eq_nil_of_length_eq_zero (by omega)
      subst this; rfl
theorem canC_spec (x : Sl) (c : Cmp) (hx : RdL 1 RdStr w x c) (hS : SmC c) (hk : ∀ (y : Sl) (w' : World), EC w' [.slice y.base y.len y.cap] (canC c) (fun b => w.heap.size ≤ b ∧ b < w'.heap.size) → Fr Non w w' → k (.slice y.base y.len y.cap) w') : Cl Tryz.prog 279 [.slice x.base x.len x.cap] w k := by
  refine f279_ok ?_
  unfold f279
  refine trim0_spec x _ _ c hx hS.1 (fun s w1 k1 h => ?_) (fun s w1 k1 h => ?_) fun y w' hy f => ⟨y, rfl, hk y w' ⟨y, rfl, hy⟩ f⟩
  · refine Cv.of (caps := []) (.mk (by kernel_rfl)) ?_
    exact f281_ok h
  · refine Cv.of (caps := []) (.mk (by kernel_rfl)) ?_
    exact f282_ok h
theorem canR_spec {b : Nat} {T : TypeId} (x : Sl) (r : Rept) (hB : Blk w b T [.func (.func 279) #[] (List.toArray [])]) (hx : RdL 1 RC w x r) (hS : SmR r) (hk : ∀ (y : Sl) (w' : World), ER w' [.slice y.base y.len y.cap] (canR r) (fun b => w.heap.size ≤ b ∧ b < w'.heap.size) → Fr Non w w' → k (.slice y.base y.len y.cap) w') : Cl Tryz.prog 283 [.slice x.base x.len x.cap, .pointer (some ⟨b, 0, none⟩)] w k := by
  refine f283_ok ?_
  unfold f283
  refine ⟨_, hB.cell rfl, ?_⟩
  refine trim1_spec x canC _ _ r hx hS.1 (fun z le w1 k1 hz hm f1 hk1 => ?_) (fun z w1 k1 h => ?_) fun y w' hy f => ⟨y, rfl, hk y w' ⟨y, rfl, hy⟩ f⟩
  · refine Cv.of (caps := []) (.mk (by kernel_rfl)) ?_
    exact canC_spec z le hz (hS.2 le hm) hk1
  · refine Cv.of (caps := []) (.mk (by kernel_rfl)) ?_
    exact f285_ok h
theorem canF_spec (x : Sl) (f : Fldt) (hx : RdL 1 RR w x f) (hS : SmF f) (hk : ∀ (y : Sl) (w' : World), EF w' [.slice y.base y.len y.cap] (canF f) (fun b => w.heap.size ≤ b ∧ b < w'.heap.size) → Fr Non w w' → k (.slice y.base y.len y.cap) w') : Cl Tryz.prog 179 [.slice x.base x.len x.cap] w k := by
  refine f179_ok ?_
  unfold f179
  intro b2 w3 hb2 hw3
  have f3 : Fr Non w w3 := hw3 ▸ (Fr.refl Non w).alloc _
  have hB3 : Blk w3 b2 174 [.nilFunc] := hb2 ▸ hw3 ▸ Blk.new w _ _
  refine ⟨hB3.isS (by simp), hB3.free _, ?_⟩
  rintro w4 rfl
  have hB4 := hB3.set 0 (.func (.func 279) #[] (List.toArray []))
  have f4 : Fr Non w (w3.setCell ⟨b2, 0, none⟩ (.func (.func 279) #[] (List.toArray []))) := f3.set (a := ⟨b2, 0, none⟩) (fun h => by simp only at h; omega) _
  have z4 := f4.size
  refine trim2_spec x canR _ _ f (hx.fr RR.stay f4) hS.1 (fun z le w1 k1 hz hm f1 hk1 => ?_) (fun z w1 k1 h => ?_) fun y w' hy g => ⟨y, rfl, hk y w' ⟨y, rfl, hy.mono fun b hb => ⟨by omega, hb.2⟩⟩ (f4.trans' g)⟩
  · refine Cv.of (caps := [.pointer (some ⟨b2, 0, none⟩)]) (.mk (by kernel_rfl)) ?_
    exact canR_spec z le (hB4.fr f1 (fun h => h)) hz (hS.2 le hm) hk1
  · refine Cv.of (caps := []) (.mk (by kernel_rfl)) ?_
    exact f287_ok h
set_option maxHeartbeats 2000000 in
theorem canon_spec (m : Mh) (l : List Seg) (hR : RM w m.s l) (hS : SmM l) (hk : ∀ (y : Sl) (w' : World), OwM w' y (canM l) (fun b => w.heap.size ≤ b ∧ b < w'.heap.size) → Fr Non w w' → k (.agg (List.toArray (mc { m with s := y }))) w') : Cl Tryz.prog 25 [.agg (List.toArray (mc m))] w k := by
  refine f25_ok ?_
  unfold f25
  intro b7 w8 hb7 hw8 b9 w10 hb9 hw10
  have f8 : Fr Non w w8 := hw8 ▸ (Fr.refl Non w).alloc _
  have f10 : Fr Non w w10 := hw10 ▸ f8.alloc _
  have hM8 : Blk w8 b7 26 (mc m) := hb7 ▸ hw8 ▸ Blk.new w (mc m) 26
  have hM10 : Blk w10 b7 26 (mc m) := hw10 ▸ hM8.alloc _
  have hZ10 : Blk w10 b9 26 (mc ⟨0, 0, 0, 0, 0, ⟨none, 0, 0⟩⟩) := hb9 ▸ hw10 ▸ Blk.new w8 _ _
  have l7 := hM8.lt
  have l9 := hZ10.lt
  refine ⟨m.d1, m.d2, m.d3, m.d4, m.d5, ats5 hM10, ?_⟩
  intro b16 w17 hb16 hw17
  have f17 : Fr Non w w17 := hw17 ▸ f10.alloc _
  have hO17 : Blk w17 b16 26 (mc ⟨0, 0, 0, 0, 0, ⟨none, 0, 0⟩⟩) := hb16 ▸ hw17 ▸ Blk.new w10 _ _
  have l16 := hO17.lt
  have hM17 : Blk w17 b7 26 (mc m) := hw17 ▸ hM10.alloc _
  have hZ17 : Blk w17 b9 26 (mc ⟨0, 0, 0, 0, 0, ⟨none, 0, 0⟩⟩) := hw17 ▸ hZ10.alloc _
  refine ⟨mayCells_of hO17 0 6 (by simp [mc]), ?_⟩
  intro w18 hw18
  have g18 : Fr (fun g => g = b16) w17 w18 := hw18 ▸ (Fr.refl (fun g => g = b16) w17).setAll hO17 (vs := mc { m with s := ⟨none, 0, 0⟩ }) rfl (fun _ => rfl)
  have hO18 : Blk w18 b16 26 (mc { m with s := ⟨none, 0, 0⟩ }) := hw18 ▸ hO17.setAll rfl
  have hM18 : Blk w18 b7 26 (mc m) := hM17.fr g18 (by omega)
  have hZ18 : Blk w18 b9 26 (mc ⟨0, 0, 0, 0, 0, ⟨none, 0, 0⟩⟩) := hZ17.fr g18 (by omega)
  have f18 : Fr Non w w18 := upN f17 g18 (fun g hg => by omega)
  have s18 := g18.size
  have hL := hR.1
  obtain ⟨hS0, hSG⟩ := hS
  unfold BB at hS0
  refine ⟨m.s, by rw [add_mk]; exact hM18.cell rfl, fun t i w' => ∃ (j : Nat) (y : Sl), i = j ∧ j ≤ l.length ∧ t = l.length - j ∧ OwM w' y (canM (l.take j)) (fun b => w18.heap.size ≤ b ∧ b < w'.heap.size) ∧ Blk w' b16 26 (mc { m with s := y }) ∧ Blk w' b9 26 (mc ⟨0, 0, 0, 0, 0, ⟨none, 0, 0⟩⟩) ∧ Fr Non w w' ∧ w18.heap.size ≤ w'.heap.size,
    ⟨l.length, 0, ⟨none, 0, 0⟩, rfl, by omega, by omega, by simpa [canM] using Own.nil _ _ _ _ _, hO18, hZ18, f18, Nat.le_refl _⟩, ?_⟩
  rintro t i w24 ⟨j, y, rfl, hj, rfl, ho, hO, hZ, f24, s24⟩
  refine ⟨fun h => ?_, fun h => ?_⟩
  · have hj : j < l.length := by have := of_decide_eq_true h; omega
    obtain ⟨a, ha, hn, x, hx, hX⟩ := (hR.fr f24).2 j hj
    obtain ⟨_, hS1, hSF⟩ := hSG _ (List.getElem_mem hj)
    unfold BB at hS1
    have hts := take_snoc hj
    generalize hg : l[j] = g at hn hx hX hS1 hSF hts
    refine ⟨a, ha, ⟨by omega, by omega⟩, g.name, x, ⟨hn, hx, trivial⟩, ?_⟩
    intro b28 w29 hb28 hw29
    have f29 : Fr Non w24 w29 := hw29 ▸ (Fr.refl Non w24).alloc _
    have hG29 : Blk w29 b28 79 [.string (mkS []), .slice none 0 0] := hb28 ▸ hw29 ▸ Blk.new w24 _ _
    refine ⟨mayCells_of hG29 0 2 (by simp), ?_⟩
    intro w30 hw30
    have g30 : Fr Non w24 w30 := upN f29 (hw30 ▸ (Fr.refl (fun g => g = b28) w29).setAll hG29 (vs := [.string (mkS g.name), .slice x.base x.len x.cap]) rfl (fun _ => rfl)) (fun g hg => by omega)
    have hG30 : Blk w30 b28 79 [.string (mkS g.name), .slice x.base x.len x.cap] := hw30 ▸ hG29.setAll rfl
    rintro w31 rfl
    have g31 : Fr Non w24 w30.drew := g30.drew
    have s30 := g30.size
    refine ⟨y, by rw [add_mk]; exact (hO.fr g31 (fun h => h)).cell rfl, g.name, hG30.cell rfl, x, by rw [add_mk]; exact hG30.cell rfl, ?_⟩
    refine trim3_spec x canF _ _ g.flds (hX.fr RF.stay g31) hS1 (fun z le w1 k1 hz hm f1 hk1 => ?_) (fun z w1 k1 h => ?_) fun v w35 hv f35 => ⟨f35.ext, v, rfl, ?_⟩
    · refine Cv.of (caps := []) (.mk (by kernel_rfl)) ?_
      exact canF_spec z le hz (hSF le hm) hk1
    · refine Cv.of (caps := []) (.mk (by kernel_rfl)) ?_
      exact f180_ok h
    intro b38 w39 hb38 hw39
    have f39 : Fr Non w35 w39 := hw39 ▸ (Fr.refl Non w35).alloc _
    have hB : Blk w39 b38 79 [.string (mkS g.name), .slice v.base v.len v.cap] := hb38 ▸ hw39 ▸ Blk.new w35 _ _
    have k39 := g31.trans' (f35.trans' f39)
    have h39 := ho.fr (fun _ => EG.st) k39 (fun _ _ h => h)
    have o39 := hv.fr (fun _ => EF.st) f39 (fun _ _ h => h)
    have z1 := f39.size
    have hdw : w30.drew.heap.size = w30.heap.size := rfl
    have z2 : w30.heap.size ≤ w35.heap.size := f35.size
    rw [hdw] at o39
    obtain ⟨s2, w2, hr2, ho3, hf2⟩ := h39.push (P := Tryz.prog) kU34 kS49 kZ49 kB49 rfl (by omega) (fun _ => EG.st) (x := canG g) (cx := [.string (mkS g.name), .slice v.base v.len v.cap]) ⟨v, rfl, o39⟩ rfl (by intro v hv; simp at hv; rcases hv with rfl | rfl <;> rfl) (fun b hb => ⟨by omega, by omega⟩) (a := ⟨b38, 0, none⟩) (c := 1) (cells2 hB) (by simp only [canM, List.length_map, List.length_take]; omega) (by simp only [canM, List.length_map, List.length_take]; omega) 24
    have keep : ∀ {b : Nat} {cs : List Value}, Blk w24 b 26 cs → b < w18.heap.size → Blk w2 b 26 cs := fun h hb => (h.fr k39 (fun h => h)).fr hf2 (fun h => by omega)
    have hO2 := keep hO (by omega)
    have hZ2 := keep hZ (by omega)
    refine ⟨s2, w2, hr2, by rw [add_mk]; exact hO2.isS (by simp [mc]), by rw [add_mk]; exact hO2.free _, ?_⟩
    rintro w42 rfl
    have f2 : Fr Non w w2 := upN (f24.trans' k39) hf2 (fun g hg => by have := f18.size; omega)
    have z4 := hf2.size
    have z5 := k39.size
    rw [add_mk]
    refine ⟨l.length - (j + 1), by omega, j + 1, s2, by rw [w64_id (by omega) (by omega)]; push_cast; rfl, by omega, rfl, ?_, hO2.set 5 _, hZ2.ne (a := ⟨b16, 0 + 5, none⟩) (by simp only; omega) _, f2.set (a := ⟨b16, 0 + 5, none⟩) (fun h => by simp only at h; omega) _, by simp [World.setCell]; omega⟩
    rw [hts]
    have hcm : canM (l.take j ++ [g]) = canM (l.take j) ++ [canG g] := by simp [canM]
    rw [hcm]
    have hh : Fr (fun b => b = b16) w2 (w2.setCell ⟨b16, 0 + 5, none⟩ (.slice s2.base s2.len s2.cap)) := (Fr.refl (fun b => b = b16) w2).set (a := ⟨b16, 0 + 5, none⟩) (fun _ => rfl) _
    have hsz := hh.size
    refine ((ho3.mono (F' := fun b => w18.heap.size ≤ b ∧ b < w2.heap.size) fun b hb => by omega).fr (fun _ => EG.st) hh (fun b hb => by omega)).mono fun b hb => by omega
  · have hj : j = l.length := by have := of_decide_eq_false h; omega
    subst hj
    rw [List.take_length] at ho
    refine ⟨m.d1, m.d2, m.d3, m.d4, m.d5, y, hO.ats (mc { m with s := y }) 0 0 (fun q v hq => by simpa using hq), mayCells_of hZ 0 6 (by simp [mc]), ?_⟩
    rintro w68 rfl
    have hR2 := hZ.setAll (vs := mc { m with s := y }) rfl
    refine ⟨m.d1, m.d2, m.d3, m.d4, m.d5, y, hR2.ats (mc { m with s := y }) 0 0 (fun q v hq => by simpa using hq), ?_⟩
    have hh : Fr (fun b => b = b9) w24 (setCells w24 ⟨b9, 0, none⟩ 0 (mc { m with s := y })) := (Fr.refl (fun b => b = b9) w24).setAll hZ rfl (fun _ => rfl)
    have s1 := f18.size
    have s2 := hh.size
    refine hk y _ ((ho.fr (fun _ => EG.st) hh (fun b hb => by omega)).mono fun b hb => ⟨Nat.le_trans f18.size hb.1, Nat.lt_of_lt_of_le hb.2 hh.size⟩) (upN f24 hh (fun g hg => by omega))
end
end Go.Proofs.YthpeengmcjpknaaGreatDoor
