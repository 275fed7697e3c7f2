/- Fields of a segment of one's own message, set anew one by one; also to lists that are read alone. -/
import Derived.Test.YtoaoofobidhfjaaGreatDoorEH
set_option linter.unusedSimpArgs false
set_option linter.unusedVariables false
namespace Go.Proofs.YtoaoofobidhfjaaGreatDoor
open Go.V Go.RowKit
theorem setCell_self {w : World} {a : Addr} {v : Value} (h : w.cell? a = some v) : w.setCell a v = w := by
  unfold World.cell? at h
  have e : (w.setCell a v).heap = w.heap := by
    unfold World.setCell
    dsimp only
    apply Array.ext_getElem?
    intro i
    rw [Array.getElem?_modify]
    split
    · rename_i hi; subst hi
      cases ho : w.heap[a.block]? with
      | none => rfl
      | some o =>
        rw [ho] at h
        cases o with
        | cells c e f =>
          simp only at h
          by_cases hs : a.spot.isSome = true
          · rw [if_pos hs] at h; cases h
          · rw [if_neg hs] at h
            have : c.setIfInBounds a.off v = c := by
              apply Array.ext_getElem?
              intro j
              rw [Array.getElem?_setIfInBounds]
              split
              · rename_i hj; subst hj; rw [h]; split
                · rfl
                · rename_i hn
                  rw [Array.getElem?_eq_none (by omega)] at h; cases h
              · rfl
            simp only [Option.map_some, if_neg hs, this]
        | _ => cases h
    · rfl
  have e2 : w.setCell a v = { w with heap := (w.setCell a v).heap } := rfl
  rw [e2, e]
def EGx (E' : Nat → EP Fldt) : EP Seg := fun w cs g o => ∃ s : Sl, cs = [.string (mkS g.name), .slice s.base s.len s.cap] ∧ Own 38 1 E' w s g.flds o
theorem EGx.st {E' : Nat → EP Fldt} (hE : ∀ i, ESt (E' i)) : ESt (EGx E') := fun w w' cs x o e ⟨s, h1, h2⟩ => ⟨s, h1, h2.same hE e⟩
theorem OwM.inner {w : World} {x : Sl} {l : List Seg} {F : Nat → Prop} (h : OwM w x l F) {i : Nat} (hi : i < l.length) :
    ∃ (a : Addr) (z : Sl) (o : Nat → Prop), x.base = some a ∧ F a.block ∧ a.block < w.heap.size ∧ ¬ o a.block ∧ w.cell? ((a.add (i * 2)).add 1) = some (.slice z.base z.len z.cap) ∧ OwS w z l[i].flds o ∧ (∀ b, o b → F b ∧ b < w.heap.size) ∧
      ∀ (w' : World) (fs : List Fldt) (E' : Nat → EP Fldt) (o' : Nat → Prop), Fr o w w' → (∀ i, ESt (E' i)) → Own 38 1 E' w' z fs o' → (∀ b, o' b → (o b ∨ w.heap.size ≤ b) ∧ b < w'.heap.size) →
        Own 35 2 (fun j => if j = i then EGx E' else EG) w' x (l.set i ⟨l[i].name, fs⟩) (fun b => F b ∨ w.heap.size ≤ b) ∧ Fr F w w' := by
  obtain ⟨a, cx, ox, h1, h2, h3, h4, h5, h6, h7, h8, h9⟩ := Own.upd (fun _ => EG.st) (by omega) h hi
  obtain ⟨z, rfl, hz⟩ := h5
  have hc := h8 1 (.slice z.base z.len z.cap) (by omega) rfl
  refine ⟨a, z, ox, h1, h2, h3, h4, hc, hz, h6, fun w' fs E' o' f hE hs ho => ?_⟩
  have hc' : w'.cell? ((a.add (i * 2)).add 1) = some (.slice z.base z.len z.cap) := (exs_fr f).cell (by rw [block_add, block_add]; exact h4) hc
  obtain ⟨k1, k2, k3, k4⟩ := h9 w' ⟨l[i].name, fs⟩ o' 1 (.slice z.base z.len z.cap) (EGx E') f (by omega) rfl (EGx.st hE) ⟨z, rfl, hs⟩ ho
  rw [setCell_self hc'] at k3 k4
  exact ⟨k3, k4⟩
theorem fld_set {w : World} {z : Sl} {fl : List Fldt} {o : Nat → Prop} {E' : Nat → EP Fldt} (hE : ∀ i, ESt (E' i)) (h : Own 38 1 E' w z fl o) {i : Nat} (hi : i < fl.length) :
    ∃ a, z.base = some a ∧ o a.block ∧ a.block < w.heap.size ∧ ∀ (w' : World) (f : Fldt) (s : Sl) (ox' : Nat → Prop) (Ei : EP Fldt), Fr Non w w' → ESt Ei → Ei w' [.slice s.base s.len s.cap] f ox' → (∀ b, ox' b → w.heap.size ≤ b ∧ b < w'.heap.size) →
      (w'.cell? (a.add (i * 1))).isSome = true ∧ w'.frozen? (a.add (i * 1)) = false ∧
        Own 38 1 (fun j => if j = i then Ei else E' j) (w'.setCell (a.add (i * 1)) (.slice s.base s.len s.cap)) z (fl.set i f) (fun b => o b ∨ w.heap.size ≤ b) ∧ Fr o w (w'.setCell (a.add (i * 1)) (.slice s.base s.len s.cap)) := by
  obtain ⟨a, cx, ox, h1, h2, h3, h4, h5, h6, h7, h8, h9⟩ := Own.upd hE (by omega) h hi
  obtain ⟨c, rfl⟩ := List.length_eq_one_iff.1 h7
  refine ⟨a, h1, h2, h3, fun w' f s ox' Ei hf hst hEi hox => ?_⟩
  have := h9 w' f ox' 0 (.slice s.base s.len s.cap) Ei (hf.mono fun _ _ h => h.elim) (by omega) rfl hst hEi (fun b hb => ⟨.inr (hox b hb).1, (hox b hb).2⟩)
  rw [add_add, Nat.add_zero] at this
  exact this
/-- A field that is read alone, at a known slice. -/
def EFix (s0 : Sl) (f0 : Fldt) : EP Fldt := fun _ cs x _ => cs = [.slice s0.base s0.len s0.cap] ∧ x = f0
theorem EFix.st (s0 : Sl) (f0 : Fldt) : ESt (EFix s0 f0) := fun _ _ _ _ _ _ h => h
theorem RSeg.fld {w : World} {z : Sl} {fl : List Fldt} (h : RdL 1 RF w z fl) {i : Nat} (hi : i < fl.length) : ∃ a s, z.base = some a ∧ w.cell? (a.add (i * 1)) = some (.slice (Sl.base s) s.len s.cap) ∧ RdL 1 RR w s fl[i] := by
  obtain ⟨a, ha, s, hc, hs⟩ := h.2 i hi
  exact ⟨a, s, ha, hc, hs⟩
theorem RM.seg {w : World} {x : Sl} {l : List Seg} (h : RM w x l) {i : Nat} (hi : i < l.length) : ∃ a z, x.base = some a ∧ w.cell? ((a.add (i * 2)).add 1) = some (.slice (Sl.base z) z.len z.cap) ∧ RdL 1 RF w z l[i].flds := by
  obtain ⟨a, ha, hn, z, hc, hz⟩ := h.2 i hi
  exact ⟨a, z, ha, hc, hz⟩
end Go.Proofs.YtoaoofobidhfjaaGreatDoor
