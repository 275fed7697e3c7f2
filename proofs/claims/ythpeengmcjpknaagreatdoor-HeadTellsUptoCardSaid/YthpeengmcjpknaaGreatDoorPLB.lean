/- The bulk of what Set makes. -/
import Derived.Test.YthpeengmcjpknaaGreatDoorPL1
import Derived.Test.YthpeengmcjpknaaGreatDoorPE2
set_option linter.unusedSimpArgs false
set_option linter.unusedVariables false
namespace Go.Proofs.YthpeengmcjpknaaGreatDoor
open Go.V Go.RowKit
theorem sum_setL {α : Type} (f : α → Nat) : ∀ (l : List α) (i : Nat) (hi : i < l.length) (x : α), ((l.set i x).map f).sum + f l[i] = (l.map f).sum + f x
  | a :: l, 0, _, x => by simp; omega
  | a :: l, i + 1, hi, x => by
    have := sum_setL f l i (by simpa using hi) x
    simp only [List.set_cons_succ, List.map_cons, List.sum_cons, List.getElem_cons_succ]; omega
theorem bkL_wth {α : Type} {f : List α → Nat} {g : List α → List α} {C n : Nat} (hn : 1 ≤ n) (h0 : f [] = 1) (hg : ∀ x, f (g x) ≤ f x + C) (l : List (List α)) : bkL f (wthN n g l) ≤ bkL f l + n + C := by
  unfold wthN
  obtain ⟨L, hL⟩ : ∃ L, L = l ++ List.replicate (n - l.length) [] := ⟨_, rfl⟩
  rw [← hL]
  have hi : n - 1 < L.length := by rw [hL]; simp; omega
  have h1 : (L.map f).sum = (l.map f).sum + (n - l.length) := by rw [hL]; simp [h0]
  have h2 := sum_setL f L (n - 1) hi (g (L.getD (n - 1) []))
  have e : L.getD (n - 1) [] = L[n - 1] := by rw [List.getD_eq_getElem?_getD, List.getElem?_eq_getElem hi]; rfl
  rw [e] at h2 ⊢
  have := hg L[n - 1]
  unfold bkL; omega
theorem bkC_set {p : Pa} (v : Str) (h : 1 ≤ p.sub) (c : Cmp) : bkC (setC p v c) ≤ bkC c + (p.sub.toNat + v.length) := by
  have := bkL_wth (f := bkS) (g := fun _ => v) (C := v.length) (n := p.sub.toNat) (by omega) rfl (fun x => by unfold bkS; omega) c
  unfold bkC setC; omega
theorem bkR_set {p : Pa} (v : Str) (h : 1 ≤ p.sub) (h2 : 1 ≤ p.cmp) (c : Rept) : bkR (setR p v c) ≤ bkR c + (p.cmp.toNat + (p.sub.toNat + v.length)) := by
  have := bkL_wth (f := bkC) (g := setC p v) (n := p.cmp.toNat) (by omega) rfl (bkC_set v h) c
  unfold bkR setR; omega
theorem bkF_set {p : Pa} (v : Str) (h : 1 ≤ p.sub) (h2 : 1 ≤ p.cmp) (h3 : 1 ≤ p.rep) (c : Fldt) : bkF (setFd p v c) ≤ bkF c + (p.rep.toNat + (p.cmp.toNat + (p.sub.toNat + v.length))) := by
  have := bkL_wth (f := bkR) (g := setR p v) (n := p.rep.toNat) (by omega) rfl (bkR_set v h h2) c
  unfold bkF setFd; omega
theorem bkG_set {p : Pa} (v : Str) (h : 1 ≤ p.sub) (h2 : 1 ≤ p.cmp) (h3 : 1 ≤ p.rep) (h4 : 1 ≤ p.fld) (g : Seg) : bkG (modS p v g) ≤ bkG g + (p.fld.toNat + (p.rep.toNat + (p.cmp.toNat + (p.sub.toNat + v.length)))) := by
  have := bkL_wth (f := bkF) (g := setFd p v) (n := p.fld.toNat) (by omega) rfl (bkF_set v h h2 h3) g.flds
  unfold bkG modS setFs; simp only; omega
theorem bkM_modify {h : Seg → Seg} {C : Nat} (hh : ∀ g, bkG (h g) ≤ bkG g + C) : ∀ (l : List Seg) (i : Nat), bkM (l.modify i h) ≤ bkM l + C
  | [], i => by rw [List.modify_nil]; omega
  | g :: l, 0 => by
    have := hh g
    simp only [List.modify_zero_cons, bkM, bkL, List.map_cons, List.sum_cons]; omega
  | g :: l, i + 1 => by
    have := bkM_modify hh l i
    simp only [List.modify_succ_cons, bkM, bkL, List.map_cons, List.sum_cons] at this ⊢; omega
theorem bk_set {m : Mh} {l : List Seg} {p : Pa} (v : Str) (h : setE m l p = 0) : bkM (stL l p v) ≤ bkM l + 300 + v.length := by
  obtain ⟨h1, h2, h3, h4, h5, h6⟩ := setE_ok h
  obtain ⟨b1, b2, b3, b4, b5, b6, b7, b8⟩ := may_in h2 (may_f h2)
  obtain ⟨i, hi, ha, e, _, _⟩ := stL_parts v h
  have h7 := bkM_can ((grownS l p).modify i (modS p v))
  have h8 := bkM_modify (bkG_set (p := p) v b7 b6 b5 b4) (grownS l p) i
  have h9 : bkM (grownS l p) ≤ bkM l + 10 := by
    unfold grownS
    split
    · have hn := (nmOk _ b8).1
      have : bkM (l ++ [⟨p.seg, []⟩]) = bkM l + bkG ⟨p.seg, []⟩ := by unfold bkM bkL; simp; omega
      rw [this]
      simp [bkG, bkS, bkL]; omega
    · omega
  rw [e]; omega
end Go.Proofs.YthpeengmcjpknaaGreatDoor
