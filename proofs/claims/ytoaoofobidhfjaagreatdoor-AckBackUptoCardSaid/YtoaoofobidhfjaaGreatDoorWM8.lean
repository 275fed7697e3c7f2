/- Lists with an element changed; a value laid at a place of a field. -/
import Derived.Test.YtoaoofobidhfjaaGreatDoorWM4
import Derived.Test.YtoaoofobidhfjaaGreatDoorWVR
set_option linter.unusedSimpArgs false
set_option linter.unusedVariables false
namespace Go.Proofs.YtoaoofobidhfjaaGreatDoor
open Go.V Go.RowKit
theorem Sls.snoc {α : Type} {R : World → Sl → List α → Prop} {w : World} {xs : List Value} {l : List (List α)} (h : Sls R w xs l) {z : Sl} {x : List α} (hz : R w z x) : Sls R w (xs ++ [.slice z.base z.len z.cap]) (l ++ [x]) := by
  obtain ⟨h1, h2⟩ := h
  refine ⟨by simp [h1], fun i hi => ?_⟩
  by_cases hlt : i < l.length
  · obtain ⟨y, e, hr⟩ := h2 i hlt
    exact ⟨y, by rw [List.getElem?_append_left (by omega)]; exact e, by rw [List.getElem_append_left hlt]; exact hr⟩
  · have : i = l.length := by simp at hi; omega
    subst this
    refine ⟨z, by rw [List.getElem?_append_right (by omega), h1]; simp, ?_⟩
    simpa using hz
theorem Sls.set {α : Type} {R R' : World → Sl → List α → Prop} {w w' : World} {xs : List Value} {l : List (List α)} (h : Sls R w xs l) {j : Nat} {y : Sl} {x : List α} (hy : R' w' y x) (hk : ∀ z m, m ∈ l → R w z m → R' w' z m) : Sls R' w' (xs.set j (.slice y.base y.len y.cap)) (l.set j x) := by
  obtain ⟨h1, h2⟩ := h
  refine ⟨by simp [h1], fun i hi => ?_⟩
  have hi' : i < l.length := by simpa using hi
  by_cases hij : i = j
  · subst hij
    exact ⟨y, by simp [h1, hi'], by simpa using hy⟩
  · obtain ⟨z, e, hr⟩ := h2 i hi'
    exact ⟨z, by rw [List.getElem?_set_ne (by omega)]; exact e, by rw [List.getElem_set_ne (by omega)]; exact hk _ _ (List.getElem_mem hi') hr⟩
theorem heap_ne {w : World} {a : Addr} {v : Value} {b : Nat} (h : b ≠ a.block) : (w.setCell a v).heap[b]? = w.heap[b]? := Below.heap_setCell _ _ _ _ h
section
variable {w : World} {k : Value → World → Prop} {D : Nat → Prop}
theorem strs_cells (x : Sl) (l : Cmp) (hx : RdLD D 1 RdStr w x l) : ∀ j v, (l.map fun s => Value.string (mkS s))[j]? = some v → ∃ a, x.base = some a ∧ w.cell? (a.add j) = some v := by
  intro j v hv
  rw [List.getElem?_map] at hv
  obtain ⟨s, hs, rfl⟩ := Option.map_eq_some_iff.1 hv
  obtain ⟨hj, rfl⟩ := List.getElem?_eq_some_iff.1 hs
  obtain ⟨a, ha, _, hc⟩ := hx.2 j hj
  rw [Nat.mul_one] at hc
  exact ⟨a, ha, hc⟩
theorem strs_one (l : Cmp) : ∀ v ∈ (l.map fun s => Value.string (mkS s)), v.oneCell' = true := by
  intro v hv; obtain ⟨s, _, rfl⟩ := List.mem_map.1 hv; rfl
theorem clone0_spec (x : Sl) (l : Cmp) (hx : RdLD D 1 RdStr w x l) (hl : l.length ≤ BB) (hk : ∀ s w', SlOk w' 9 1 s (l.map fun s => .string (mkS s)) (fun b => w.heap.size ≤ b ∧ b < w'.heap.size) → Fr Non w w' → k (.slice s.base s.len s.cap) w') : Cl Tryz.prog 61 [.slice x.base x.len x.cap] w k := by
  refine f61_ok ?_
  unfold f61
  unfold BB at hl
  have hL := hx.1
  refine ⟨fun h => ?_, fun h b2 w3 hb2 hw3 => ?_⟩
  · have hn : x.base = none := by cases hb : x.base with
      | none => rfl
      | some a => rw [hb] at h; cases h
    have : l = [] := by
      cases hl : l with
      | nil => rfl
      | cons v r =>
        subst hl
        obtain ⟨a, ha, _⟩ := hx.2 0 (by simp)
        rw [hn] at ha; cases ha
    subst this
    exact hk ⟨none, 0, 0⟩ w (SlOk.nil _ _ _ _) (Fr.refl _ _)
  · obtain ⟨s', w', hr, hs, hlen, hf⟩ := clone_cells (P := Tryz.prog) (sz := 1) kU66 kS9 kZ9 kB9 rfl (by omega) (x := x) (xs := l.map fun s => .string (mkS s)) (by simp; omega) (strs_cells x l hx) (strs_one l) h (by omega) (by omega) hb2 hw3 36
    exact ⟨s', w', hr, hk s' w' hs hf⟩
end
def setC (p : Pa) (v : Str) (c : Cmp) : Cmp := wthN p.sub.toNat (fun _ => v) c
def setR (p : Pa) (v : Str) (r : Rept) : Rept := wthN p.cmp.toNat (setC p v) r
def setFd (p : Pa) (v : Str) (f : Fldt) : Fldt := wthN p.rep.toNat (setR p v) f
def setFs (p : Pa) (v : Str) (l : List Fldt) : List Fldt := wthN p.fld.toNat (setFd p v) l
end Go.Proofs.YtoaoofobidhfjaaGreatDoor
