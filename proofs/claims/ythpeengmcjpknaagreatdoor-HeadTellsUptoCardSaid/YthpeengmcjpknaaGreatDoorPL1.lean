/- What Set makes of places: plain laws. -/
import Derived.Test.YthpeengmcjpknaaGreatDoorPMD
import Derived.Test.YthpeengmcjpknaaGreatDoorPVR
set_option linter.unusedSimpArgs false
set_option linter.unusedVariables false
namespace Go.Proofs.YthpeengmcjpknaaGreatDoor
open Go.V Go.RowKit
theorem nthD_nth1 {α : Type} {l : List (List α)} {n : Int} (h : 1 ≤ n) : nthD l n = nth1 l n.toNat := by
  unfold nthD nth1
  have e : (n - 1).toNat = n.toNat - 1 := by omega
  split
  · rw [e]
  · rw [List.getD_eq_getElem?_getD, List.getElem?_eq_none (by omega)]; rfl
def gM (l : List Seg) (i f r c s : Nat) : Str := gS ((l[i]?.map Seg.flds).getD []) f r c s
def nmL (l : List Seg) : List Str := l.map Seg.name
theorem gM_out {l : List Seg} {i : Nat} (h : l.length ≤ i) (f r c s : Nat) : gM l i f r c s = [] := by
  unfold gM; rw [List.getElem?_eq_none h]; rfl
theorem getP_gM {l : List Seg} {p : Pa} (h : validP p = true) (h0 : p.fld ≠ 0) : getP l p = match atF p.seg p.occ l with
    | some i => gM l i p.fld.toNat p.rep.toNat p.cmp.toNat p.sub.toNat
    | none => [] := by
  have hin : 1 ≤ p.fld ∧ 1 ≤ p.rep ∧ 1 ≤ p.cmp ∧ 1 ≤ p.sub := by
    unfold validP plain inR at h
    simp only [Bool.and_eq_true, Bool.or_eq_true, beq_iff_eq, decide_eq_true_eq] at h
    omega
  unfold getP
  rw [if_pos h, if_neg h0]
  cases atF p.seg p.occ l with
  | none => rfl
  | some i =>
    simp only
    rw [nthD_nth1 hin.1, nthD_nth1 hin.2.1, nthD_nth1 hin.2.2.1, nthD_nth1 hin.2.2.2]
    rfl
theorem gM_can (l : List Seg) (i f r c s : Nat) : gM (canM l) i f r c s = gM l i f r c s := by
  unfold gM canM
  rw [List.getElem?_map]
  cases l[i]? with
  | none => rfl
  | some g => exact gS_can g.flds f r c s
theorem nmL_can (l : List Seg) : nmL (canM l) = nmL l := by unfold nmL canM; rw [List.map_map]; rfl
theorem canM_ext {l l' : List Seg} (hn : nmL l = nmL l') (h : ∀ i f r c s, 1 ≤ f → 1 ≤ r → 1 ≤ c → 1 ≤ s → gM l i f r c s = gM l' i f r c s) : canM l = canM l' := by
  have hl : l.length = l'.length := by have := congrArg List.length hn; simpa [nmL] using this
  apply List.ext_getElem (by simp [canM, hl])
  intro i h1 h2
  have h1' : i < l.length := by simpa [canM] using h1
  have h2' : i < l'.length := by simpa [canM] using h2
  simp only [canM, List.getElem_map]
  have e1 : l[i].name = l'[i].name := by
    have : (nmL l)[i]? = (nmL l')[i]? := by rw [hn]
    unfold nmL at this
    rw [List.getElem?_map, List.getElem?_map, List.getElem?_eq_getElem h1', List.getElem?_eq_getElem h2'] at this
    exact Option.some.inj this
  unfold canG
  rw [e1]
  congr 1
  refine canS_ext fun f r c s a1 a2 a3 a4 => ?_
  have := h i f r c s a1 a2 a3 a4
  unfold gM at this
  rw [List.getElem?_eq_getElem h1', List.getElem?_eq_getElem h2'] at this
  exact this
theorem gS_set {p : Pa} {v : Str} {l : List Fldt} {f r c s : Nat} (p1 : 1 ≤ p.fld) (p2 : 1 ≤ p.rep) (p3 : 1 ≤ p.cmp) (p4 : 1 ≤ p.sub) (h1 : 1 ≤ f) (h2 : 1 ≤ r) (h3 : 1 ≤ c) (h4 : 1 ≤ s) :
    gS (setFs p v l) f r c s = if f = p.fld.toNat ∧ r = p.rep.toNat ∧ c = p.cmp.toNat ∧ s = p.sub.toNat then v else gS l f r c s := by
  unfold gS gF gR gC setFs
  rw [nth1_wth (by omega) _ _ h1]
  by_cases e1 : f = p.fld.toNat
  · rw [if_pos e1]
    unfold setFd
    rw [nth1_wth (by omega) _ _ h2]
    by_cases e2 : r = p.rep.toNat
    · rw [if_pos e2]
      unfold setR
      rw [nth1_wth (by omega) _ _ h3]
      by_cases e3 : c = p.cmp.toNat
      · rw [if_pos e3]
        unfold setC
        rw [nth1_wth (by omega) _ _ h4]
        by_cases e4 : s = p.sub.toNat
        · rw [if_pos e4, if_pos ⟨e1, e2, e3, e4⟩]
        · rw [if_neg e4, if_neg (fun h => e4 h.2.2.2), ← e1, ← e2, ← e3]
      · rw [if_neg e3, if_neg (fun h => e3 h.2.2.1), ← e1, ← e2]
    · rw [if_neg e2, if_neg (fun h => e2 h.2.1), ← e1]
  · rw [if_neg e1, if_neg (fun h => e1 h.1)]
theorem gM_mod {p : Pa} {v : Str} {l : List Seg} {i : Nat} (hi : i < l.length) (p1 : 1 ≤ p.fld) (p2 : 1 ≤ p.rep) (p3 : 1 ≤ p.cmp) (p4 : 1 ≤ p.sub) (j f r c s : Nat) (h1 : 1 ≤ f) (h2 : 1 ≤ r) (h3 : 1 ≤ c) (h4 : 1 ≤ s) :
    gM (l.modify i (modS p v)) j f r c s = if j = i ∧ f = p.fld.toNat ∧ r = p.rep.toNat ∧ c = p.cmp.toNat ∧ s = p.sub.toNat then v else gM l j f r c s := by
  unfold gM
  rw [List.getElem?_modify]
  by_cases e : j = i
  · subst e
    rw [List.getElem?_eq_getElem hi]
    simp only [if_true, Option.map_some, Option.getD_some, true_and]
    exact gS_set p1 p2 p3 p4 h1 h2 h3 h4
  · rw [if_neg (fun h => e h.1)]
    cases l[j]? with
    | none => rfl
    | some g =>
      have : ¬ i = j := fun h => e h.symm
      simp [this]
theorem nmL_mod (p : Pa) (v : Str) (l : List Seg) (i : Nat) : nmL (l.modify i (modS p v)) = nmL l := by
  unfold nmL
  apply List.ext_getElem (by simp)
  intro j h1 h2
  simp only [List.getElem_map, List.getElem_modify]
  split <;> rfl
theorem cnt_nm (name : Str) (l : List Seg) : cnt name l = (nmL l).countP (fun x => x == name) := by
  unfold cnt nmL; rw [List.countP_map]; rfl
theorem cnt_names {name : Str} {l l' : List Seg} (h : nmL l = nmL l') : cnt name l = cnt name l' := by rw [cnt_nm, cnt_nm, h]
theorem atF_names {name : Str} {occ : Int} {l l' : List Seg} (h : nmL l = nmL l') : atF name occ l = atF name occ l' := by
  have hl : l.length = l'.length := by have := congrArg List.length h; simpa [nmL] using this
  have e : ∀ i, (decide (∃ g, l[i]? = some g ∧ g.name = name ∧ (cnt name (l.take (i + 1)) : Int) = occ)) = decide (∃ g, l'[i]? = some g ∧ g.name = name ∧ (cnt name (l'.take (i + 1)) : Int) = occ) := by
    intro i
    have hc : cnt name (l.take (i + 1)) = cnt name (l'.take (i + 1)) := cnt_names (by unfold nmL at *; rw [List.map_take, List.map_take, h])
    have hg : l[i]?.map Seg.name = l'[i]?.map Seg.name := by
      have : (nmL l)[i]? = (nmL l')[i]? := by rw [h]
      unfold nmL at this
      rwa [List.getElem?_map, List.getElem?_map] at this
    apply decide_eq_decide.2
    rw [hc]
    constructor
    · rintro ⟨g, h1, h2, h3⟩
      rw [h1] at hg
      cases hx : l'[i]? with
      | none => rw [hx] at hg; cases hg
      | some g' => rw [hx] at hg; exact ⟨g', rfl, (Option.some.inj hg).symm.trans h2, h3⟩
    · rintro ⟨g, h1, h2, h3⟩
      rw [h1] at hg
      cases hx : l[i]? with
      | none => rw [hx] at hg; cases hg
      | some g' => rw [hx] at hg; exact ⟨g', rfl, (Option.some.inj hg).trans h2, h3⟩
  unfold atF
  rw [hl]
  congr 1
  exact funext e
theorem atF_some {name : Str} {occ : Int} {l : List Seg} {i : Nat} (h : atF name occ l = some i) : ∃ hi : i < l.length, l[i].name = name ∧ (cnt name (l.take (i + 1)) : Int) = occ := by
  have hi := atF_lt h
  refine ⟨hi, ?_⟩
  unfold atF at h
  have := List.find?_some h
  obtain ⟨g, h1, h2⟩ := of_decide_eq_true this
  rw [List.getElem?_eq_getElem hi] at h1
  cases h1
  exact h2
theorem atF_app {name : Str} {occ : Int} {l : List Seg} {g : Seg} : atF name occ (l ++ [g]) = match atF name occ l with
    | some i => some i
    | none => if g.name = name ∧ (cnt name l : Int) + 1 = occ then some l.length else none := by
  unfold atF
  rw [List.length_append, List.length_cons, List.length_nil, List.range_succ, List.find?_append]
  have e : (List.range l.length).find? (fun i => decide (∃ g', (l ++ [g])[i]? = some g' ∧ g'.name = name ∧ (cnt name ((l ++ [g]).take (i + 1)) : Int) = occ)) = (List.range l.length).find? (fun i => decide (∃ g, l[i]? = some g ∧ g.name = name ∧ (cnt name (l.take (i + 1)) : Int) = occ)) := by
    have gen : ∀ (r : List Nat), (∀ x ∈ r, x < l.length) → r.find? (fun i => decide (∃ g', (l ++ [g])[i]? = some g' ∧ g'.name = name ∧ (cnt name ((l ++ [g]).take (i + 1)) : Int) = occ)) = r.find? (fun i => decide (∃ g, l[i]? = some g ∧ g.name = name ∧ (cnt name (l.take (i + 1)) : Int) = occ)) := by
      intro r
      induction r with
      | nil => intro _; rfl
      | cons x r ih =>
        intro hr
        have hx := hr x (by simp)
        have hp : ((l ++ [g])[x]? = l[x]?) ∧ ((l ++ [g]).take (x + 1) = l.take (x + 1)) := ⟨List.getElem?_append_left hx, List.take_append_of_le_length (by omega)⟩
        rw [List.find?_cons, List.find?_cons, hp.1, hp.2, ih (fun y hy => hr y (by simp [hy]))]
    exact gen _ (fun x hx => List.mem_range.1 hx)
  rw [e]
  cases (List.range l.length).find? (fun i => decide (∃ g, l[i]? = some g ∧ g.name = name ∧ (cnt name (l.take (i + 1)) : Int) = occ)) with
  | some i => rfl
  | none =>
    simp only [Option.none_or]
    have h1 : (l ++ [g])[l.length]? = some g := by simp
    have h2 : (l ++ [g]).take (l.length + 1) = l ++ [g] := List.take_of_length_le (by simp)
    rw [List.find?_cons, h1, h2, cnt_app, List.find?_nil]
    by_cases hx : g.name = name ∧ (cnt name l : Int) + 1 = occ
    · rw [decide_eq_true ⟨g, rfl, hx.1, by rw [if_pos (by simp [hx.1])]; push_cast; exact hx.2⟩, if_pos hx]
    · have hf : ¬ ∃ g', some g = some g' ∧ g'.name = name ∧ ((cnt name l + (if (g.name == name) = true then 1 else 0) : Nat) : Int) = occ := by
        rintro ⟨g', e1, e2, h⟩
        rw [Option.some.inj e1] at h
        rw [if_pos (by simp [e2])] at h
        exact hx ⟨by rw [Option.some.inj e1]; exact e2, by push_cast at h; exact h⟩
      rw [decide_eq_false hf, if_neg hx]
theorem setE_ok {m : Mh} {l : List Seg} {p : Pa} (h : setE m l p = 0) : validM m l = true ∧ mayP p false = true ∧ p.fld ≤ 100 ∧ max (max p.rep p.cmp) p.sub ≤ 50 ∧ p.occ ≤ (cnt p.seg l : Nat) + 1 ∧ (p.occ = (cnt p.seg l : Nat) + 1 → l.length < 200) := by
  unfold setE at h
  split at h
  · rename_i h1; exact absurd h h1
  rename_i h1
  have h1 : askE m l p false = 0 := by simpa using h1
  obtain ⟨a1, a2⟩ := askE_ok h1
  split at h
  · cases h
  rename_i h2
  split at h
  · cases h
  rename_i h3
  split at h
  · cases h
  rename_i h4
  simp only [Bool.or_eq_true, decide_eq_true_eq, not_or] at h2
  simp only [Bool.and_eq_true, decide_eq_true_eq, not_and] at h4
  exact ⟨a1, a2, by omega, by omega, by omega, fun e => by have := h4 e; omega⟩
theorem setE_of {m : Mh} {l : List Seg} {p : Pa} (h1 : validM m l = true) (h2 : mayP p false = true) (h3 : p.fld ≤ 100) (h4 : max (max p.rep p.cmp) p.sub ≤ 50) (h5 : p.occ ≤ (cnt p.seg l : Nat)) : setE m l p = 0 := by
  have ha : askE m l p false = 0 := by unfold askE; rw [if_pos h1, if_pos h2]
  unfold setE
  rw [if_neg (by rw [ha]; simp), if_neg (by simp only [Bool.or_eq_true, decide_eq_true_eq, not_or]; omega), if_neg (by omega), if_neg (by simp only [Bool.and_eq_true, decide_eq_true_eq, not_and]; omega)]
theorem may_in {p : Pa} {b : Bool} (h : mayP p b = true) (h0 : p.fld ≠ 0) : validP p = true ∧ 1 ≤ p.occ ∧ p.occ ≤ 200 ∧ 1 ≤ p.fld ∧ 1 ≤ p.rep ∧ 1 ≤ p.cmp ∧ 1 ≤ p.sub ∧ isName p.seg = true := by
  unfold mayP at h
  simp only [Bool.and_eq_true] at h
  have hv := h.1
  refine ⟨hv, ?_⟩
  unfold validP plain inR at hv
  simp only [Bool.and_eq_true, Bool.or_eq_true, beq_iff_eq, decide_eq_true_eq] at hv
  exact ⟨hv.1.2.1, hv.1.2.2, by omega, by omega, by omega, by omega, hv.1.1⟩
theorem may_f {p : Pa} (h : mayP p false = true) : p.fld ≠ 0 := by
  have := (mayP_in h).2; omega
theorem gM_grown (l : List Seg) (p : Pa) (i f r c s : Nat) : gM (grownS l p) i f r c s = gM l i f r c s := by
  unfold grownS
  split
  · unfold gM
    by_cases h : i < l.length
    · rw [List.getElem?_append_left h]
    · rw [List.getElem?_append_right (by omega), List.getElem?_eq_none (l := l) (by omega)]
      cases i - l.length with
      | zero => rfl
      | succ n => rfl
  · rfl
theorem stL_parts {m : Mh} {l : List Seg} {p : Pa} (v : Str) (h : setE m l p = 0) : ∃ i, i < (grownS l p).length ∧ atF p.seg p.occ (grownS l p) = some i ∧ stL l p v = canM ((grownS l p).modify i (modS p v)) ∧ nmL (stL l p v) = nmL (grownS l p) ∧
    ∀ j f r c s, 1 ≤ f → 1 ≤ r → 1 ≤ c → 1 ≤ s → gM (stL l p v) j f r c s = if j = i ∧ f = p.fld.toNat ∧ r = p.rep.toNat ∧ c = p.cmp.toNat ∧ s = p.sub.toNat then v else gM l j f r c s := by
  obtain ⟨h1, h2, h3, h4, h5, h6⟩ := setE_ok h
  obtain ⟨b1, b2, b3, b4, b5, b6, b7, b8⟩ := may_in h2 (may_f h2)
  obtain ⟨i, hi, ha⟩ := grown_at b2 h5
  have e : stL l p v = canM ((grownS l p).modify i (modS p v)) := by unfold stL; rw [ha]
  refine ⟨i, hi, ha, e, by rw [e, nmL_can, nmL_mod], fun j f r c s a1 a2 a3 a4 => ?_⟩
  rw [e, gM_can, gM_mod hi b4 b5 b6 b7 _ _ _ _ _ a1 a2 a3 a4, gM_grown]
theorem get_set {m : Mh} {l : List Seg} {p : Pa} {v : Str} (h : setE m l p = 0) : getP (stL l p v) p = v := by
  obtain ⟨h1, h2, h3, h4, h5, h6⟩ := setE_ok h
  obtain ⟨b1, b2, b3, b4, b5, b6, b7, b8⟩ := may_in h2 (may_f h2)
  obtain ⟨i, hi, ha, e, hn, hg⟩ := stL_parts v h
  rw [getP_gM b1 (may_f h2), atF_names hn, ha]
  simp only
  rw [hg _ _ _ _ _ (by omega) (by omega) (by omega) (by omega), if_pos ⟨rfl, rfl, rfl, rfl, rfl⟩]
theorem Pa_ext {p q : Pa} (h1 : p.seg = q.seg) (h2 : p.occ = q.occ) (h3 : p.fld = q.fld) (h4 : p.rep = q.rep) (h5 : p.cmp = q.cmp) (h6 : p.sub = q.sub) : p = q := by
  cases p; cases q; simp only at *; subst h1 h2 h3 h4 h5 h6; rfl
theorem valid_pos {p : Pa} (h : validP p = true) (h0 : p.fld ≠ 0) : 1 ≤ p.fld ∧ 1 ≤ p.rep ∧ 1 ≤ p.cmp ∧ 1 ≤ p.sub := by
  unfold validP plain inR at h
  simp only [Bool.and_eq_true, Bool.or_eq_true, beq_iff_eq, decide_eq_true_eq] at h
  omega
theorem get_out {l : List Seg} {p : Pa} (h : ¬ (validP p = true ∧ p.fld ≠ 0)) : getP l p = [] := by
  unfold getP
  split
  · split
    · rfl
    · exact absurd ⟨‹_›, ‹_›⟩ h
  · rfl
theorem get_other {m : Mh} {l : List Seg} {p q : Pa} {v : Str} (h : setE m l p = 0) (hpq : q ≠ p) : getP (stL l p v) q = getP l q := by
  obtain ⟨h1, h2, h3, h4, h5, h6⟩ := setE_ok h
  obtain ⟨b1, b2, b3, b4, b5, b6, b7, b8⟩ := may_in h2 (may_f h2)
  obtain ⟨i, hi, ha, e, hn, hg⟩ := stL_parts v h
  by_cases hq : validP q = true ∧ q.fld ≠ 0
  · obtain ⟨q1, q2, q3, q4⟩ := valid_pos hq.1 hq.2
    rw [getP_gM hq.1 hq.2, getP_gM hq.1 hq.2, atF_names hn]
    have hval : ∀ j, atF q.seg q.occ (grownS l p) = some j → gM (stL l p v) j q.fld.toNat q.rep.toNat q.cmp.toNat q.sub.toNat = gM l j q.fld.toNat q.rep.toNat q.cmp.toNat q.sub.toNat := by
      intro j hj
      rw [hg _ _ _ _ _ (by omega) (by omega) (by omega) (by omega), if_neg]
      rintro ⟨rfl, e1, e2, e3, e4⟩
      obtain ⟨_, n1, n2⟩ := atF_some ha
      obtain ⟨_, n3, n4⟩ := atF_some hj
      have hs : q.seg = p.seg := n3.symm.trans n1
      rw [hs] at n4
      exact hpq (Pa_ext hs (n4.symm.trans n2) (by omega) (by omega) (by omega) (by omega))
    unfold grownS at hval ⊢
    split at hval
    · rename_i hocc
      rw [if_pos hocc]
      rw [atF_app] at hval ⊢
      cases hj : atF q.seg q.occ l with
      | some j => rw [hj] at hval; exact hval j rfl
      | none =>
        rw [hj] at hval
        simp only at hval ⊢
        split at hval
        · rename_i hx
          rw [if_pos hx]
          simp only
          rw [hval _ rfl, gM_out (Nat.le_refl _)]
        · rename_i hx
          rw [if_neg hx]
    · rename_i hocc
      rw [if_neg hocc]
      cases hj : atF q.seg q.occ l with
      | some j => exact hval j hj
      | none => rfl
  · rw [get_out hq, get_out hq]
theorem valid_parts {m : Mh} {L : List Seg} (h : validM m L = true) : dvB m = true ∧ 1 ≤ L.length ∧ L.length ≤ 200 ∧ (∀ i (hi : i < L.length), okAt i L[i] = true) ∧ headB m L = true := by
  unfold validM at h
  simp only [Bool.and_eq_true, decide_eq_true_eq] at h
  obtain ⟨h1, h2, h3, h4, h5⟩ := h
  refine ⟨h1, h2, h3, fun i hi => ?_, h5⟩
  have := List.all_eq_true.1 h4 i (List.mem_range.2 hi)
  unfold okI at this; rw [List.getElem?_eq_getElem hi] at this; exact this
theorem valid_mk {m : Mh} {L : List Seg} (h1 : dvB m = true) (h2 : 1 ≤ L.length) (h3 : L.length ≤ 200) (h4 : ∀ i (hi : i < L.length), okAt i L[i] = true) (h5 : headB m L = true) : validM m L = true := by
  unfold validM
  rw [h1, decide_eq_true h2, decide_eq_true h3, h5, allR_all (fun i hi => by unfold okI; rw [List.getElem?_eq_getElem hi]; exact h4 i hi)]; rfl
theorem okAt_can {i : Nat} {g : Seg} (h : okAt i g = true) : okAt i (canG g) = true := by
  unfold okAt at *
  simp only [Bool.and_eq_true] at *
  exact ⟨h.1, h.2.1, fitsG_can h.2.2⟩
theorem isB_eq {f : Fldt} {v : Str} (h : isB f v = true) : f = [[[v]]] := of_decide_eq_true h
theorem headB_can {m : Mh} {g : Seg} {r r' : List Seg} (h : headB m (g :: r) = true) : headB m (canG g :: r') = true := by
  have h : (decide (2 ≤ g.flds.length) && (isB (g.flds.getD 0 []) (sg1 m) && isB (g.flds.getD 1 []) (sg2 m))) = true := h
  simp only [Bool.and_eq_true, decide_eq_true_eq] at h
  obtain ⟨h1, h2, h3⟩ := h
  have e0 : g.flds[0] = [[[sg1 m]]] := by
    have := isB_eq h2
    rw [List.getD_eq_getElem?_getD, List.getElem?_eq_getElem (by omega)] at this; exact this
  have e1 : g.flds[1] = [[[sg2 m]]] := by
    have := isB_eq h3
    rw [List.getD_eq_getElem?_getD, List.getElem?_eq_getElem (by omega)] at this; exact this
  obtain ⟨c0, d0⟩ := canS_at (l := g.flds) (j := 0) (by omega) e0 rfl
  obtain ⟨c1, d1⟩ := canS_at (l := g.flds) (j := 1) (by omega) e1 rfl
  show (decide (2 ≤ (canS g.flds).length) && (isB ((canS g.flds).getD 0 []) (sg1 m) && isB ((canS g.flds).getD 1 []) (sg2 m))) = true
  rw [decide_eq_true (by omega), List.getD_eq_getElem?_getD, List.getD_eq_getElem?_getD, List.getElem?_eq_getElem c0, List.getElem?_eq_getElem c1]
  simp only [Option.getD_some, d0, d1]
  unfold isB; simp
theorem canM_get {l : List Seg} {i : Nat} (h : i < (canM l).length) : ∃ h' : i < l.length, (canM l)[i] = canG l[i] := by
  have h' : i < l.length := by simpa [canM] using h
  exact ⟨h', by simp [canM]⟩
theorem valid_canM {m : Mh} {L : List Seg} (h : validM m L = true) : validM m (canM L) = true := by
  obtain ⟨h1, h2, h3, h4, h5⟩ := valid_parts h
  have hlen : (canM L).length = L.length := by simp [canM]
  refine valid_mk h1 (by omega) (by omega) (fun i hi => ?_) ?_
  · obtain ⟨h', e⟩ := canM_get hi
    rw [e]; exact okAt_can (h4 i h')
  · match L, h2 with
    | g :: r, _ => exact headB_can h5
theorem fitsC_set {p : Pa} {v : Str} {c : Cmp} (h : fitsC c = true) (h1 : p.sub.toNat ≤ 50) : fitsC (setC p v c) = true := by
  unfold fitsC at *
  have h := of_decide_eq_true h
  apply decide_eq_true
  unfold setC; rw [wthN_len]; omega
theorem fitsR_set {p : Pa} {v : Str} {r : Rept} (h : fitsR r = true) (h1 : p.sub.toNat ≤ 50) (h2 : p.cmp.toNat ≤ 50) : fitsR (setR p v r) = true := by
  unfold fitsR at *
  simp only [Bool.and_eq_true, decide_eq_true_eq, List.all_eq_true] at h ⊢
  exact ⟨by unfold setR; rw [wthN_len]; omega, wthN_all (P := fun c => fitsC c = true) h.2 rfl (fun _ hx => fitsC_set hx h1)⟩
theorem fitsF_set {p : Pa} {v : Str} {f : Fldt} (h : fitsF f = true) (h1 : p.sub.toNat ≤ 50) (h2 : p.cmp.toNat ≤ 50) (h3 : p.rep.toNat ≤ 50) : fitsF (setFd p v f) = true := by
  unfold fitsF at *
  simp only [Bool.and_eq_true, decide_eq_true_eq, List.all_eq_true] at h ⊢
  exact ⟨by unfold setFd; rw [wthN_len]; omega, wthN_all (P := fun c => fitsR c = true) h.2 rfl (fun _ hx => fitsR_set hx h1 h2)⟩
theorem fitsG_set {p : Pa} {v : Str} {g : Seg} (h : fitsG g = true) (h1 : p.sub.toNat ≤ 50) (h2 : p.cmp.toNat ≤ 50) (h3 : p.rep.toNat ≤ 50) (h4 : p.fld.toNat ≤ 100) : fitsG (modS p v g) = true := by
  unfold fitsG at *
  simp only [Bool.and_eq_true, decide_eq_true_eq, List.all_eq_true] at h ⊢
  refine ⟨?_, ?_⟩
  · show (setFs p v g.flds).length ≤ 100
    unfold setFs; rw [wthN_len]; omega
  · show ∀ x ∈ setFs p v g.flds, fitsF x = true
    exact wthN_all (P := fun c => fitsF c = true) h.2 rfl (fun _ hx => fitsF_set hx h1 h2 h3)
theorem wthN_get {α : Type} {n j : Nat} {g : List α → List α} {l : List (List α)} (hj : j < l.length) (hn : j ≠ n - 1) : (wthN n g l)[j]? = l[j]? := by
  unfold wthN
  rw [List.getElem?_set_ne (by omega), List.getElem?_append_left hj]
theorem headB_mod {m : Mh} {g : Seg} {r r' : List Seg} {p : Pa} {v : Str} (h : headB m (g :: r) = true) (hp : 3 ≤ p.fld) : headB m (modS p v g :: r') = true := by
  have h : (decide (2 ≤ g.flds.length) && (isB (g.flds.getD 0 []) (sg1 m) && isB (g.flds.getD 1 []) (sg2 m))) = true := h
  simp only [Bool.and_eq_true, decide_eq_true_eq] at h
  obtain ⟨h1, h2, h3⟩ := h
  show (decide (2 ≤ (setFs p v g.flds).length) && (isB ((setFs p v g.flds).getD 0 []) (sg1 m) && isB ((setFs p v g.flds).getD 1 []) (sg2 m))) = true
  have e0 : (setFs p v g.flds)[0]? = g.flds[0]? := wthN_get (by omega) (by omega)
  have e1 : (setFs p v g.flds)[1]? = g.flds[1]? := wthN_get (by omega) (by omega)
  have e2 : (setFs p v g.flds).length = max p.fld.toNat g.flds.length := wthN_len _ _ _
  rw [decide_eq_true (by omega), List.getD_eq_getElem?_getD, List.getD_eq_getElem?_getD, e0, e1, ← List.getD_eq_getElem?_getD, ← List.getD_eq_getElem?_getD, h2, h3]; rfl
theorem never_msh {p : Pa} {b : Bool} (h : mayP p b = true) (hs : p.seg = msh) (h0 : p.fld ≠ 0) : 3 ≤ p.fld ∧ p.occ = 1 := by
  obtain ⟨b1, b2, b3, b4, _⟩ := may_in h h0
  unfold mayP at h
  simp only [Bool.and_eq_true] at h
  obtain ⟨_, h2, h3, _⟩ := h
  have h2 : neverP p = false := by simpa using h2
  unfold neverP at h2
  have h2 := of_decide_eq_false h2
  rw [hs] at h2 h3
  have e1 : p.fld ≠ 1 := fun e => h2 (Or.inl (by rw [e]; rfl))
  have e2 : p.fld ≠ 2 := fun e => h2 (Or.inr (by rw [e]; rfl))
  have e3 : ¬ 1 < p.occ := by
    intro e
    rw [decide_eq_true e] at h3
    simp at h3
  omega
theorem valid_name {m : Mh} {l : List Seg} (h : validM m l = true) {i : Nat} (hi : i < l.length) : (l[i].name = msh) ↔ i = 0 := by
  obtain ⟨_, _, _, h4, _⟩ := valid_parts h
  have := h4 i hi
  unfold okAt at this
  simp only [Bool.and_eq_true] at this
  have h2 := this.2.1
  constructor
  · intro e
    rw [e] at h2
    have : decide (i = 0) = true := by simpa using h2
    exact of_decide_eq_true this
  · intro e
    rw [decide_eq_true e] at h2
    simpa using h2
theorem cnt_msh {m : Mh} {l : List Seg} (h : validM m l = true) : 1 ≤ cnt msh l := by
  obtain ⟨_, h2, _, _, _⟩ := valid_parts h
  unfold cnt
  apply List.countP_pos_iff.2
  refine ⟨l[0], List.getElem_mem _, ?_⟩
  simp only [beq_iff_eq]
  exact (valid_name h (by omega)).2 rfl
theorem valid_set {m : Mh} {l : List Seg} {p : Pa} {v : Str} (h : setE m l p = 0) : validM m (stL l p v) = true := by
  obtain ⟨h1, h2, h3, h4, h5, h6⟩ := setE_ok h
  obtain ⟨b1, b2, b3, b4, b5, b6, b7, b8⟩ := may_in h2 (may_f h2)
  obtain ⟨i, hi, ha, e, hn, hg⟩ := stL_parts v h
  obtain ⟨v1, v2, v3, v4, v5⟩ := valid_parts h1
  rw [e]
  apply valid_canM
  -- the list with the place set
  have hgl : (grownS l p).length ≤ 200 ∧ l.length ≤ (grownS l p).length := by
    unfold grownS; split
    · rename_i ho; have := h6 ho; simp; omega
    · omega
  have hG : ∀ j (hj : j < (grownS l p).length), okAt j (grownS l p)[j] = true ∧ (∀ hjl : j < l.length, (grownS l p)[j] = l[j]) := by
    intro j hj
    by_cases hjl : j < l.length
    · have e1 : (grownS l p)[j] = l[j] := by
        have : (grownS l p)[j]? = l[j]? := by
          unfold grownS; split
          · rw [List.getElem?_append_left hjl]
          · rfl
        rw [List.getElem?_eq_getElem hj, List.getElem?_eq_getElem hjl] at this
        exact Option.some.inj this
      exact ⟨by rw [e1]; exact v4 j hjl, fun _ => e1⟩
    · refine ⟨?_, fun x => absurd x hjl⟩
      have hocc : p.occ = (cnt p.seg l : Nat) + 1 := by
        by_cases ho : p.occ = (cnt p.seg l : Nat) + 1
        · exact ho
        · exfalso; unfold grownS at hj; rw [if_neg ho] at hj; exact hjl hj
      have e1 : (grownS l p)[j] = ⟨p.seg, []⟩ := by
        have hlen : (grownS l p).length = l.length + 1 := by unfold grownS; rw [if_pos hocc]; simp
        have hjj : j = l.length := by omega
        have : (grownS l p)[j]? = some ⟨p.seg, []⟩ := by
          unfold grownS; rw [if_pos hocc, hjj]; simp
        rw [List.getElem?_eq_getElem hj] at this
        exact Option.some.inj this
      rw [e1]
      have hne : p.seg ≠ msh := by
        intro hs
        have := (never_msh h2 hs (may_f h2)).2
        have := cnt_msh h1
        rw [hs] at hocc; omega
      unfold okAt
      simp only [b8, Bool.true_and]
      rw [decide_eq_false (show ¬ j = 0 by omega)]
      have : (p.seg == msh) = false := by simpa using hne
      rw [this]; rfl
  refine valid_mk v1 (by rw [List.length_modify]; omega) (by rw [List.length_modify]; omega) (fun j hj => ?_) ?_
  · rw [List.getElem_modify]
    have hj' : j < (grownS l p).length := by simpa using hj
    have ok := (hG j hj').1
    split
    · unfold okAt at ok ⊢
      simp only [Bool.and_eq_true] at ok ⊢
      exact ⟨ok.1, ok.2.1, fitsG_set ok.2.2 (by omega) (by omega) (by omega) (by omega)⟩
    · exact ok
  · have h0 : 0 < (grownS l p).length := by omega
    obtain ⟨g, r, hgr⟩ : ∃ g r, grownS l p = g :: r := by
      cases hx : grownS l p with
      | nil => rw [hx] at h0; simp at h0
      | cons g r => exact ⟨g, r, rfl⟩
    have hg0 : g = l[0] := by
      have := (hG 0 h0).2 (by omega)
      rw [← this]; simp [hgr]
    have hhead : headB m (g :: r) = true := by
      match l, v2, v5, hg0 with
      | g' :: r', _, v5, hg0 => subst hg0; exact v5
    rw [hgr]
    cases i with
    | zero =>
      show headB m (modS p v g :: r) = true
      obtain ⟨_, n1, _⟩ := atF_some ha
      have hs : p.seg = msh := by
        have := (hG 0 h0).2 (by omega)
        rw [this] at n1
        rw [← n1]; exact (valid_name h1 (by omega)).2 rfl
      exact headB_mod hhead (never_msh h2 hs (may_f h2)).1
    | succ i => exact hhead
theorem canM_can (L : List Seg) : canM (canM L) = canM L := canM_ext (nmL_can L) fun _ _ _ _ _ _ _ _ _ => gM_can L _ _ _ _ _
theorem stL_can {m : Mh} {l : List Seg} {p : Pa} {v : Str} (h : setE m l p = 0) : canM (stL l p v) = stL l p v := by
  obtain ⟨i, hi, ha, e, hn, hg⟩ := stL_parts v h
  rw [e, canM_can]
end Go.Proofs.YthpeengmcjpknaaGreatDoor
