/- head's values, and what Make makes: plain laws. -/
import Derived.Test.YthpeengmcjpknaaGreatDoorPLB
import Derived.Test.YthpeengmcjpknaaGreatDoorPEC
set_option linter.unusedSimpArgs false
set_option linter.unusedVariables false
namespace Go.Proofs.YthpeengmcjpknaaGreatDoor
open Go.V Go.RowKit
def hAt (f c : Int) : Pa := ⟨msh, 1, f, 1, c, 1⟩
def hd (l : List Seg) (f c : Int) : Str := getP l (hAt f c)
def headS (d : Dm) : Str := [77, 83, 72, d.f, d.c, d.r, d.e, d.s]
def L0 (d : Dm) : List Seg := [⟨msh, [one1' [d.f], one1' [d.c, d.r, d.e, d.s]]⟩]
theorem can_L0 (d : Dm) : canM (L0 d) = L0 d := by
  show [canG _] = _
  have e : canG ⟨msh, [one1' [d.f], one1' [d.c, d.r, d.e, d.s]]⟩ = ⟨msh, [one1' [d.f], one1' [d.c, d.r, d.e, d.s]]⟩ := rfl
  rw [e]; rfl
theorem ok_L0 {d : Dm} (h : OkD d) : OkM isName d (L0 d) := by
  refine ⟨h, by simp [L0], ?_, _, [], rfl, rfl, ⟨[], rfl⟩, fun x hx => by simp at hx⟩
  intro x hx
  simp only [L0, List.mem_singleton] at hx
  subst hx
  refine ⟨nm_msh, ?_⟩
  unfold fitsG; simp [one1', fitsF, fitsR, fitsC]
theorem tx_head {d : Dm} (h : OkD d) : txE (headS d) = 0 ∧ txD (headS d) = d ∧ txL (headS d) = L0 d := by
  have ep : Go.V.printP d (L0 d) = headS d ++ 13 :: [] := by
    unfold Go.V.printP; rw [can_L0]; simp [L0, line0, headS, fldsP]
  obtain ⟨p1, p2, p3⟩ := parse_print nmOk nm_msh (ok_L0 h) (by rw [ep]; simp [headS])
  rw [ep] at p1 p2 p3
  rw [can_L0] at p3
  obtain ⟨q1, q2, q3⟩ := parse_line (nm := isName) nmOk (t := headS d) (l := []) (by simp) (by simp [headS])
  have h0 : parseE isName (headS d) = 0 := by
    apply Classical.byContradiction; intro hn; exact q1 hn p1
  have hl := (q3 p1).1 rfl
  rw [ofP_more] at p2
  have h0' : txE (headS d) = 0 := h0
  refine ⟨h0', ?_, ?_⟩
  · unfold txD; rw [if_pos h0', p2]; rfl
  · unfold txL; rw [if_pos h0', ← hl, p3]
def setAll (l : List Seg) (ops : List (Pa × Str)) : List Seg := ops.foldl (fun l x => stL l x.1 x.2) l
theorem set_hd {m : Mh} {l : List Seg} {f c : Int} (hv : validM m l = true) (hm : mayP (hAt f c) false = true) (hf : f ≤ 100) (hc : c ≤ 50) (h1 : 1 ≤ c) : setE m l (hAt f c) = 0 :=
  setE_of hv hm hf (by show max (max (1 : Int) c) 1 ≤ 50; omega) (by have := cnt_msh hv; show (1 : Int) ≤ (cnt msh l : Nat); omega)
theorem nm_stL {m : Mh} {l : List Seg} {p : Pa} (v : Str) (h : setE m l p = 0) (hc : p.occ ≤ (cnt p.seg l : Nat)) : nmL (stL l p v) = nmL l := by
  obtain ⟨i, _, _, _, e, _⟩ := stL_parts v h
  rw [e]; unfold grownS; rw [if_neg (by omega)]
def HOk (x : Pa × Str) : Prop := ∃ f c, x.1 = hAt f c ∧ mayP (hAt f c) false = true ∧ f ≤ 100 ∧ c ≤ 50 ∧ 1 ≤ c
theorem setAll_ok {m : Mh} : ∀ {ops : List (Pa × Str)} {l : List Seg}, (∀ x ∈ ops, HOk x) → validM m l = true → canM l = l →
    validM m (setAll l ops) = true ∧ canM (setAll l ops) = setAll l ops ∧ nmL (setAll l ops) = nmL l ∧ bkM (setAll l ops) ≤ bkM l + (ops.map fun x => 300 + x.2.length).sum ∧
      (∀ q, (∀ x ∈ ops, x.1 ≠ q) → getP (setAll l ops) q = getP l q)
  | [], l, _, hv, hc => ⟨hv, hc, rfl, by simp [setAll], fun _ _ => rfl⟩
  | (p, v) :: ops, l, h, hv, hc => by
    obtain ⟨f, c, e, hm, hf, hcc, h1⟩ := h (p, v) (by simp)
    simp only at e
    subst e
    have hs := set_hd hv hm hf hcc h1
    obtain ⟨k1, k2, k3, k4, k5⟩ := setAll_ok (m := m) (ops := ops) (l := stL l (hAt f c) v) (fun x hx => h x (by simp [hx])) (valid_set hs) (stL_can hs)
    refine ⟨k1, k2, ?_, ?_, fun q hq => ?_⟩
    · show nmL (setAll _ ops) = _
      rw [k3]; exact nm_stL v hs (by have := cnt_msh hv; show (1 : Int) ≤ (cnt msh l : Nat); omega)
    · have := bk_set v hs
      show bkM (setAll _ ops) ≤ _
      simp only [List.map_cons, List.sum_cons]; omega
    · show getP (setAll _ ops) q = _
      rw [k5 q (fun x hx => hq x (by simp [hx])), get_other hs (fun e => hq (hAt f c, v) (by simp) e.symm)]
theorem setAll_app (l : List Seg) (a b : List (Pa × Str)) : setAll l (a ++ b) = setAll (setAll l a) b := by unfold setAll; rw [List.foldl_append]
theorem setAll_get {m : Mh} {l : List Seg} {a b : List (Pa × Str)} {p : Pa} {v : Str} (h : ∀ x ∈ a ++ (p, v) :: b, HOk x) (hv : validM m l = true) (hc : canM l = l) (hb : ∀ x ∈ b, x.1 ≠ p) : getP (setAll l (a ++ (p, v) :: b)) p = v := by
  rw [setAll_app]
  obtain ⟨k1, k2, _⟩ := setAll_ok (m := m) (ops := a) (l := l) (fun x hx => h x (by simp [hx])) hv hc
  obtain ⟨f, c, e, hm, hf, hcc, h1⟩ := h (p, v) (by simp)
  simp only at e
  subst e
  have hs := set_hd k1 hm hf hcc h1
  obtain ⟨_, _, _, _, k5⟩ := setAll_ok (m := m) (ops := b) (l := stL (setAll l a) (hAt f c) v) (fun x hx => h x (by simp [hx])) (valid_set hs) (stL_can hs)
  show getP (setAll (stL (setAll l a) (hAt f c) v) b) _ = v
  rw [k5 _ hb, get_set hs]
def hOps (a b : Str × Str) (kind event control version time : Str) : List (Pa × Str) :=
  [(hAt 3 1, a.1), (hAt 4 1, a.2), (hAt 5 1, b.1), (hAt 6 1, b.2), (hAt 7 1, time), (hAt 9 1, kind), (hAt 9 2, event), (hAt 10 1, control), (hAt 11 1, [80]), (hAt 12 1, version)]
def mkL (d : Dm) (a b : Str × Str) (kind event control version time : Str) : List Seg := setAll (L0 d) (hOps a b kind event control version time)
theorem hOps_ok (a b : Str × Str) (kind event control version time : Str) : ∀ x ∈ hOps a b kind event control version time, HOk x := by
  intro x hx
  simp only [hOps, List.mem_cons, List.not_mem_nil, or_false] at hx
  rcases hx with rfl | rfl | rfl | rfl | rfl | rfl | rfl | rfl | rfl | rfl <;> exact ⟨_, _, rfl, by decide, by decide, by decide, by decide⟩
theorem mk_ok {d : Dm} (h : OkD d) (s : Sl) (a b : Str × Str) (kind event control version time : Str) :
    validM (mD d s) (mkL d a b kind event control version time) = true ∧ canM (mkL d a b kind event control version time) = mkL d a b kind event control version time ∧ nmL (mkL d a b kind event control version time) = [msh] ∧
      hd (mkL d a b kind event control version time) 3 1 = a.1 ∧ hd (mkL d a b kind event control version time) 4 1 = a.2 ∧ hd (mkL d a b kind event control version time) 5 1 = b.1 ∧ hd (mkL d a b kind event control version time) 6 1 = b.2 ∧
      hd (mkL d a b kind event control version time) 9 1 = kind ∧ hd (mkL d a b kind event control version time) 9 2 = event ∧ hd (mkL d a b kind event control version time) 10 1 = control ∧ hd (mkL d a b kind event control version time) 12 1 = version := by
  have hv : validM (mD d s) (L0 d) = true := valid_of (Dg_mD d s) (by rw [dm_mD]; exact ok_L0 h)
  have ho := hOps_ok a b kind event control version time
  obtain ⟨k1, k2, k3, _⟩ := setAll_ok (m := mD d s) ho hv (can_L0 d)
  have g : ∀ (pre post : List (Pa × Str)) (p : Pa) (v : Str), hOps a b kind event control version time = pre ++ (p, v) :: post → (∀ x ∈ post, x.1 ≠ p) → getP (mkL d a b kind event control version time) p = v := by
    intro pre post p v e hb
    unfold mkL
    rw [e]
    exact setAll_get (m := mD d s) (by rw [← e]; exact ho) hv (can_L0 d) hb
  refine ⟨k1, k2, k3, ?_, ?_, ?_, ?_, ?_, ?_, ?_, ?_⟩
  · exact g [] _ _ _ rfl (by simp [hAt])
  · exact g (List.take 1 (hOps a b kind event control version time)) _ _ _ rfl (by simp [hAt])
  · exact g (List.take 2 (hOps a b kind event control version time)) _ _ _ rfl (by simp [hAt])
  · exact g (List.take 3 (hOps a b kind event control version time)) _ _ _ rfl (by simp [hAt])
  · exact g (List.take 5 (hOps a b kind event control version time)) _ _ _ rfl (by simp [hAt])
  · exact g (List.take 6 (hOps a b kind event control version time)) _ _ _ rfl (by simp [hAt])
  · exact g (List.take 7 (hOps a b kind event control version time)) _ _ _ rfl (by simp [hAt])
  · exact g (List.take 9 (hOps a b kind event control version time)) _ _ _ rfl (by simp)
end Go.Proofs.YthpeengmcjpknaaGreatDoor
