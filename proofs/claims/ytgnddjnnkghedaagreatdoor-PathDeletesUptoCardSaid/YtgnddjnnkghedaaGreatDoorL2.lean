/- What Delete makes of places: plain laws. -/
import Derived.Test.YtgnddjnnkghedaaGreatDoorL1
set_option linter.unusedSimpArgs false
set_option linter.unusedVariables false
namespace Go.Proofs.YtgnddjnnkghedaaGreatDoor
open Go.V Go.RowKit
/-- What Delete makes of the list. -/
def dlL (l : List Seg) (p : Pa) : List Seg := match atF p.seg p.occ l with
  | none => canM l
  | some i => if p.fld = 0 then canM (l.eraseIdx i) else if getP l p = [] then canM l else canM (l.modify i (modS p []))
theorem get_can (l : List Seg) (p : Pa) : getP (canM l) p = getP l p := by
  by_cases h : validP p = true ∧ p.fld ≠ 0
  · rw [getP_gM h.1 h.2, getP_gM h.1 h.2, atF_names (nmL_can l)]
    cases atF p.seg p.occ l with
    | none => rfl
    | some i => exact gM_can _ _ _ _ _ _
  · rw [get_out h, get_out h]
theorem nth1_in {α : Type} {l : List (List α)} {n : Nat} (h1 : 1 ≤ n) (h : nth1 l n ≠ []) : n ≤ l.length ∧ nth1 l n ∈ l := by
  unfold nth1 at *
  rw [List.getD_eq_getElem?_getD] at *
  by_cases hn : n - 1 < l.length
  · rw [List.getElem?_eq_getElem hn]
    exact ⟨by omega, List.getElem_mem hn⟩
  · rw [List.getElem?_eq_none (by omega)] at h
    exact absurd rfl h
theorem cnt_may {m : Mh} {l : List Seg} {p : Pa} (h : getP l p ≠ []) : ∃ i, atF p.seg p.occ l = some i ∧ validP p = true ∧ p.fld ≠ 0 ∧ gM l i p.fld.toNat p.rep.toNat p.cmp.toNat p.sub.toNat ≠ [] := by
  by_cases hv : validP p = true ∧ p.fld ≠ 0
  · rw [getP_gM hv.1 hv.2] at h
    cases ha : atF p.seg p.occ l with
    | none => rw [ha] at h; exact absurd rfl h
    | some i => rw [ha] at h; exact ⟨i, rfl, hv.1, hv.2, h⟩
  · exact absurd (get_out hv) h
theorem del_setE {m : Mh} {l : List Seg} {p : Pa} (ha : askE m l p true = 0) (h : getP l p ≠ []) : setE m l p = 0 := by
  obtain ⟨i, hi, hv, h0, hg⟩ := cnt_may (m := m) h
  obtain ⟨a1, a2⟩ := askE_ok ha
  obtain ⟨q1, q2, q3, q4⟩ := valid_pos hv h0
  have hmay : mayP p false = true := by
    unfold mayP at a2 ⊢
    simp only [Bool.and_eq_true, Bool.or_eq_true, decide_eq_true_eq] at a2 ⊢
    exact ⟨a2.1, a2.2.1, a2.2.2.1, Or.inl (by omega)⟩
  obtain ⟨b1, b2, b3, b4, b5, b6, b7, b8⟩ := may_in hmay h0
  have hil := atF_lt hi
  obtain ⟨_, _, _, v4, _⟩ := valid_parts a1
  have ok := v4 i hil
  unfold okAt at ok
  simp only [Bool.and_eq_true] at ok
  have hf := ok.2.2
  unfold gM at hg
  rw [List.getElem?_eq_getElem hil] at hg
  simp only [Option.map_some, Option.getD_some] at hg
  unfold gS gF gR gC at hg
  obtain ⟨c4, _⟩ := nth1_in (by omega) hg
  have hg3 : nth1 (nth1 (nth1 l[i].flds p.fld.toNat) p.rep.toNat) p.cmp.toNat ≠ [] := fun e => by rw [e] at hg; exact hg rfl
  obtain ⟨c3, m3⟩ := nth1_in (by omega) hg3
  have hg2 : nth1 (nth1 l[i].flds p.fld.toNat) p.rep.toNat ≠ [] := fun e => by rw [e] at hg3; exact hg3 rfl
  obtain ⟨c2, m2⟩ := nth1_in (by omega) hg2
  have hg1 : nth1 l[i].flds p.fld.toNat ≠ [] := fun e => by rw [e] at hg2; exact hg2 rfl
  obtain ⟨c1, m1⟩ := nth1_in (by omega) hg1
  unfold fitsG at hf
  simp only [Bool.and_eq_true, decide_eq_true_eq, List.all_eq_true] at hf
  have f2 := hf.2 _ m1
  unfold fitsF at f2
  simp only [Bool.and_eq_true, decide_eq_true_eq, List.all_eq_true] at f2
  have f3 := f2.2 _ m2
  unfold fitsR at f3
  simp only [Bool.and_eq_true, decide_eq_true_eq, List.all_eq_true] at f3
  have f4 := f3.2 _ m3
  unfold fitsC at f4
  have f4 := of_decide_eq_true f4
  refine setE_of a1 hmay (by omega) (by omega) ?_
  have := (atF_isSome p.seg l b2 (occ := p.occ)).symm
  rw [hi] at this
  exact of_decide_eq_true this
theorem del_set {m : Mh} {l : List Seg} {p : Pa} (ha : askE m l p true = 0) (h : getP l p ≠ []) : stL l p [] = dlL l p := by
  have hE := del_setE ha h
  obtain ⟨i, hi, hv, h0, hg⟩ := cnt_may (m := m) h
  obtain ⟨j, hj, hb, e, _⟩ := stL_parts [] hE
  obtain ⟨b1, b2, _⟩ := may_in (setE_ok hE).2.1 h0
  have hc : p.occ ≤ (cnt p.seg l : Nat) := by
    have := (atF_isSome p.seg l b2 (occ := p.occ)).symm
    rw [hi] at this
    exact of_decide_eq_true this
  have gp : grownS l p = l := by unfold grownS; rw [if_neg (by omega)]
  rw [gp] at hb e
  rw [hi] at hb; cases hb
  have : dlL l p = match atF p.seg p.occ l with
    | none => canM l
    | some i => if p.fld = 0 then canM (l.eraseIdx i) else if getP l p = [] then canM l else canM (l.modify i (modS p [])) := rfl
  rw [this, hi]
  simp only
  rw [if_neg h0, if_neg h, e]
theorem del_none {l : List Seg} {p : Pa} (h0 : p.fld ≠ 0) (h : getP l p = []) : dlL l p = canM l := by
  unfold dlL
  cases atF p.seg p.occ l with
  | none => rfl
  | some i => simp only; rw [if_neg h0, if_pos h]
/-- Behind a Delete of a place. -/
theorem del_place {m : Mh} {l : List Seg} {p q : Pa} (ha : askE m l p true = 0) (h0 : p.fld ≠ 0) : getP (dlL l p) p = [] ∧ (p ≠ q → getP (dlL l p) q = getP l q) ∧ (hasP l p = true → setE m l p = 0 ∧ stL l p [] = dlL l p) := by
  by_cases h : getP l p = []
  · rw [del_none h0 h]
    refine ⟨by rw [get_can, h], fun _ => get_can l q, fun hh => ?_⟩
    unfold hasP at hh
    rw [if_neg h0, h] at hh
    split at hh <;> simp at hh
  · have hE := del_setE ha h
    rw [← del_set ha h]
    exact ⟨get_set hE, fun hpq => get_other hE (fun e => hpq e.symm), fun _ => ⟨hE, rfl⟩⟩
theorem countP_erase {α : Type} (p : α → Bool) : ∀ (l : List α) (i : Nat) (h : i < l.length), l.countP p = (l.eraseIdx i).countP p + (if p l[i] = true then 1 else 0)
  | [], i, h => by simp at h
  | a :: l, 0, h => by simp [List.countP_cons]
  | a :: l, i + 1, h => by
    simp only [List.eraseIdx_cons_succ, List.countP_cons, List.getElem_cons_succ]
    rw [countP_erase p l i (by simpa using h)]
    omega
/-- Behind a Delete of a segment. -/
theorem del_seg {m : Mh} {l : List Seg} {p : Pa} (ha : askE m l p true = 0) (h0 : p.fld = 0) : (cnt p.seg (dlL l p) : Int) = (cnt p.seg l : Int) - (if hasP l p = true then 1 else 0) := by
  obtain ⟨a1, a2⟩ := askE_ok ha
  have hv : validP p = true := by
    unfold mayP at a2
    simp only [Bool.and_eq_true] at a2
    exact a2.1
  unfold dlL hasP
  rw [if_pos hv, if_pos h0]
  cases hi : atF p.seg p.occ l with
  | none => simp only [Option.isSome_none]; rw [cnt_names (nmL_can l)]; simp
  | some i =>
    simp only [Option.isSome_some, if_true]
    rw [if_pos h0, cnt_names (nmL_can _)]
    obtain ⟨hil, hn, _⟩ := atF_some hi
    have := countP_erase (fun g : Seg => g.name == p.seg) l i hil
    rw [hn] at this
    simp at this
    unfold cnt
    have e2 : List.countP (fun g : Seg => g.name == p.seg) l = List.countP (fun g : Seg => g.name == p.seg) (l.eraseIdx i) + 1 := by simpa using this
    rw [e2]; push_cast; omega
end Go.Proofs.YtgnddjnnkghedaaGreatDoor
