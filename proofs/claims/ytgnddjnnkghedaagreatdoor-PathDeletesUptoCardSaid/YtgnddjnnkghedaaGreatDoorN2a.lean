/- path.Set, and lists that it makes. -/
import Derived.Test.YtgnddjnnkghedaaGreatDoorL1
import Derived.Test.YtgnddjnnkghedaaGreatDoorN1
set_option linter.unusedSimpArgs false
set_option linter.unusedVariables false
namespace Go.Proofs.YtgnddjnnkghedaaGreatDoor
open Go.V Go.RowKit
theorem SmM_stL {m : Mh} {l : List Seg} {p : Pa} {v : Str} (h : setE m l p = 0) (hS : SmM l) (hp : p.seg.length ≤ 1000000000000) (hv : v.length ≤ BB) (hl : l.length < BB) : SmM (stL l p v) := by
  obtain ⟨h1, h2, h3, h4, h5, h6⟩ := setE_ok h
  obtain ⟨b1, b2, b3, b4, b5, b6, b7, b8⟩ := may_in h2 (may_f h2)
  obtain ⟨i, hi, ha, e, hn, hg⟩ := stL_parts v h
  have hBB : BB = 1099511627776 := rfl
  rw [e]
  apply SmM_can
  have hgA : ∀ g ∈ grownS l p, SmG g := by
    intro g hg
    unfold grownS at hg
    split at hg
    · rcases List.mem_append.1 hg with hg | hg
      · exact hS.2 g hg
      · simp at hg; subst hg; exact ⟨by show p.seg.length ≤ BB; omega, Nat.zero_le _, fun f hf => by cases hf⟩
    · exact hS.2 g hg
  have hgl : (grownS l p).length ≤ l.length + 1 := by
    unfold grownS; split <;> simp
  refine ⟨by rw [List.length_modify]; omega, fun g hg => ?_⟩
  obtain ⟨j, hj, rfl⟩ := List.mem_iff_getElem.1 hg
  rw [List.getElem_modify]
  split
  · exact SmG_set (hgA _ (List.getElem_mem _)) (by omega) (by omega) (by omega) (by omega) hv
  · exact hgA _ (List.getElem_mem _)
theorem len_stL {m : Mh} {l : List Seg} {p : Pa} {v : Str} (h : setE m l p = 0) : (stL l p v).length ≤ l.length + 1 := by
  obtain ⟨i, hi, ha, e, hn, hg⟩ := stL_parts v h
  rw [e]
  unfold canM
  rw [List.length_map, List.length_modify]
  unfold grownS; split <;> simp
theorem Pa_beq {p q : Pa} (h : ((p.seg == q.seg) && ((p.occ == q.occ) && ((p.fld == q.fld) && ((p.rep == q.rep) && ((p.cmp == q.cmp) && ((p.sub == q.sub) && true)))))) = false) : p ≠ q := by
  intro e; subst e; simp at h
section
variable {w : World} {k : Value → World → Prop}
/-- A message's block, made and filled. -/
theorem newM {w53 w63 : World} {b62 : Nat} (m : Mh) (hb : b62 = w53.heap.size) (hw : w63 = w53.alloc (.cells (List.toArray (mc mz)) 26)) : mayCells w63 (⟨b62, 0, none⟩) 0 6 ∧ ∀ w64, w64 = setCells w63 (⟨b62, 0, none⟩) 0 (mc m) → Blk w64 b62 26 (mc m) ∧ Fr Non w53 w64 := by
  have f63 : Fr Non w53 w63 := hw ▸ (Fr.refl Non w53).alloc _
  have hX63 : Blk w63 b62 26 (mc mz) := hb ▸ hw ▸ Blk.new w53 _ _
  refine ⟨mayCells_of hX63 0 6 (by simp [mc]), fun w64 hw64 => ⟨hw64 ▸ hX63.setAll rfl, ?_⟩⟩
  exact upN f63 (hw64 ▸ (Fr.refl (fun g => g = b62) w63).setAll hX63 (vs := mc m) rfl (fun _ => rfl)) (fun g hg => by omega)
theorem atsM {w' : World} {b : Nat} {m : Mh} (h : Blk w' b 26 (mc m)) : cellsAt w' ⟨b, 0, none⟩ 0 (mc m) := h.ats (mc _) 0 0 (fun q v hq => by simpa using hq)
theorem setA_spec (m : Mh) (p : Pa) (v : Str) (l : List Seg) (hR : RM w m.s l) (hS : SmM l) (hd : Dg m) (hp : p.seg.length ≤ 1000000000000) (ho : -9223372036854775808 ≤ p.occ ∧ p.occ ≤ 9223372036854775807) (hv : v.length ≤ BB) (hlen : l.length < BB)
    (hk : ∀ (m' : Mh) w', (setE m l p = 0 → ∃ y, m' = { m with s := y } ∧ RM w' y (stL l p v)) → (setE m l p ≠ 0 → m' = mz) → Fr Non w w' → k (.tuple (List.toArray [.agg (List.toArray (mc m')), .int .i64 (setE m l p)])) w') : Cl Tryz.prog 10 [.agg (List.toArray (mc m)), .agg (List.toArray (pc p)), .string (mkS v)] w k :=
  setP_spec m p v l hR hS hd hp ho hv hlen (fun hE y w' hO f => by
    have := hk { m with s := y } w' (fun _ => ⟨y, rfl, OwM.rd hO⟩) (fun h => absurd hE h) f
    rw [hE] at this; exact this) (fun hE w' f => hk mz w' (fun h => absurd h hE) (fun _ => rfl) f)
end
end Go.Proofs.YtgnddjnnkghedaaGreatDoor
