/- head's values, and what Make makes: plain laws. -/
import Derived.Test.YtoaoofobidhfjaaGreatDoorWL1
import Derived.Test.YtoaoofobidhfjaaGreatDoorWE2
import Derived.Test.YtoaoofobidhfjaaGreatDoorWEC
set_option linter.unusedSimpArgs false
set_option linter.unusedVariables false
namespace Go.Proofs.YtoaoofobidhfjaaGreatDoor
open Go.V Go.RowKit
theorem sum_setL {α : Type} (f : α → Nat) : ∀ (l : List α) (i : Nat) (hi : i < l.length) (x : α), ((l.set i x).map f).sum + f l[i] = (l.map f).sum + f x
  | a :: l, 0, _, x => by simp; omega
  | a :: l, i + 1, hi, x => by
    have := sum_setL f l i (by simpa using hi) x
    simp only [List.set_cons_succ, List.map_cons, List.sum_cons, List.getElem_cons_succ]; omega
theorem bkL_wth {α : Type} {f : List α → Nat} {g : List α → List α} {C n : Nat} (hn : 1 ≤ n) (h0 : f [] = 1) (hg : ∀ x, f (g x) ≤ f x + C) (l : List (List α)) : bkL f (wthN n g l) ≤ bkL f l + n + C := by
  unfold wthN
  obtain ⟨L, hL⟩ : ∃ L, L = l ++ List.replicate (n - l.length) [] := ⟨_, rfl⟩
  rw [← hL]
  have hi : n - 1 < L.length := by rw [hL]; simp; omega
  have h1 : (L.map f).sum = (l.map f).sum + (n - l.length) := by rw [hL]; simp [h0]
  have h2 := sum_setL f L (n - 1) hi (g (L.getD (n - 1) []))
  have e : L.getD (n - 1) [] = L[n - 1] := by rw [List.getD_eq_getElem?_getD, List.getElem?_eq_getElem hi]; rfl
  rw [e] at h2 ⊢
  have := hg L[n - 1]
  unfold bkL; omega
theorem bkC_set {p : Pa} (v : Str) (h : 1 ≤ p.sub) (c : Cmp) : bkC (setC p v c) ≤ bkC c + (p.sub.toNat + v.length) := by
  have := bkL_wth (f := bkS) (g := fun _ => v) (C := v.length) (n := p.sub.toNat) (by omega) rfl (fun x => by unfold bkS; omega) c
  unfold bkC setC; omega
theorem bkR_set {p : Pa} (v : Str) (h : 1 ≤ p.sub) (h2 : 1 ≤ p.cmp) (c : Rept) : bkR (setR p v c) ≤ bkR c + (p.cmp.toNat + (p.sub.toNat + v.length)) := by
  have := bkL_wth (f := bkC) (g := setC p v) (n := p.cmp.toNat) (by omega) rfl (bkC_set v h) c
  unfold bkR setR; omega
theorem bkF_set {p : Pa} (v : Str) (h : 1 ≤ p.sub) (h2 : 1 ≤ p.cmp) (h3 : 1 ≤ p.rep) (c : Fldt) : bkF (setFd p v c) ≤ bkF c + (p.rep.toNat + (p.cmp.toNat + (p.sub.toNat + v.length))) := by
  have := bkL_wth (f := bkR) (g := setR p v) (n := p.rep.toNat) (by omega) rfl (bkR_set v h h2) c
  unfold bkF setFd; omega
theorem bkG_set {p : Pa} (v : Str) (h : 1 ≤ p.sub) (h2 : 1 ≤ p.cmp) (h3 : 1 ≤ p.rep) (h4 : 1 ≤ p.fld) (g : Seg) : bkG (modS p v g) ≤ bkG g + (p.fld.toNat + (p.rep.toNat + (p.cmp.toNat + (p.sub.toNat + v.length)))) := by
  have := bkL_wth (f := bkF) (g := setFd p v) (n := p.fld.toNat) (by omega) rfl (bkF_set v h h2 h3) g.flds
  unfold bkG modS setFs; simp only; omega
theorem bkM_modify {h : Seg → Seg} {C : Nat} (hh : ∀ g, bkG (h g) ≤ bkG g + C) : ∀ (l : List Seg) (i : Nat), bkM (l.modify i h) ≤ bkM l + C
  | [], i => by rw [List.modify_nil]; omega
  | g :: l, 0 => by
    have := hh g
    simp only [List.modify_zero_cons, bkM, bkL, List.map_cons, List.sum_cons]; omega
  | g :: l, i + 1 => by
    have := bkM_modify hh l i
    simp only [List.modify_succ_cons, bkM, bkL, List.map_cons, List.sum_cons] at this ⊢; omega
theorem bk_set {m : Mh} {l : List Seg} {p : Pa} (v : Str) (h : setE m l p = 0) : bkM (stL l p v) ≤ bkM l + 300 + v.length := by
  obtain ⟨h1, h2, h3, h4, h5, h6⟩ := setE_ok h
  obtain ⟨b1, b2, b3, b4, b5, b6, b7, b8⟩ := may_in h2 (may_f h2)
  obtain ⟨i, hi, ha, e, _, _⟩ := stL_parts v h
  have h7 := bkM_can ((grownS l p).modify i (modS p v))
  have h8 := bkM_modify (bkG_set (p := p) v b7 b6 b5 b4) (grownS l p) i
  have h9 : bkM (grownS l p) ≤ bkM l + 10 := by
    unfold grownS
    split
    · have hn := (nmOk _ b8).1
      have : bkM (l ++ [⟨p.seg, []⟩]) = bkM l + bkG ⟨p.seg, []⟩ := by unfold bkM bkL; simp; omega
      rw [this]
      simp [bkG, bkS, bkL]; omega
    · omega
  rw [e]; omega
end Go.Proofs.YtoaoofobidhfjaaGreatDoor
namespace Go.Proofs.YtoaoofobidhfjaaGreatDoor
open Go.V Go.RowKit
def hAt (f c : Int) : Pa := ⟨msh, 1, f, 1, c, 1⟩
def hd (l : List Seg) (f c : Int) : Str := getP l (hAt f c)
theorem nth1_bk {α : Type} {f : List α → Nat} (h0 : f [] = 1) (l : List (List α)) (n : Nat) : f (nth1 l n) ≤ bkL f l := by
  unfold nth1
  rw [List.getD_eq_getElem?_getD]
  cases h : l[n - 1]? with
  | none => have := bkL_pos f l; simp only [Option.getD_none]; omega
  | some x =>
    have := bkL_mem (f := f) (List.mem_of_getElem? h)
    simp only [Option.getD_some]; omega
theorem gM_bk (l : List Seg) (i f r c s : Nat) : (gM l i f r c s).length ≤ bkM l := by
  have h1 : bkL bkF ((l[i]?.map Seg.flds).getD []) ≤ bkM l := by
    cases h : l[i]? with
    | none => have := bkL_pos bkG l; simp [bkL]; unfold bkM bkL; omega
    | some g =>
      have := bkL_mem (f := bkG) (List.mem_of_getElem? h)
      simp only [Option.map_some, Option.getD_some]
      have e1 : bkG g = bkS g.name + bkL bkF g.flds + 1 := rfl
      have e2 : bkM l = bkL bkG l := rfl
      omega
  have h2 := nth1_bk (f := bkF) rfl ((l[i]?.map Seg.flds).getD []) f
  have h3 := nth1_bk (f := bkR) rfl (nth1 ((l[i]?.map Seg.flds).getD []) f) r
  have h4 := nth1_bk (f := bkC) rfl (nth1 (nth1 ((l[i]?.map Seg.flds).getD []) f) r) c
  have h5 := nth1_bk (f := bkS) rfl (nth1 (nth1 (nth1 ((l[i]?.map Seg.flds).getD []) f) r) c) s
  have e : gM l i f r c s = nth1 (nth1 (nth1 (nth1 ((l[i]?.map Seg.flds).getD []) f) r) c) s := rfl
  rw [e]
  have e3 : bkF = bkL bkR := rfl
  have e4 : bkR = bkL bkC := rfl
  have e5 : bkC = bkL bkS := rfl
  rw [← e3] at h3
  rw [← e4] at h4
  rw [← e5] at h5
  have e6 : ∀ v : Str, bkS v = v.length + 1 := fun _ => rfl
  rw [e6] at h5
  omega
theorem getP_bk (l : List Seg) (p : Pa) : (getP l p).length ≤ bkM l := by
  by_cases h : validP p = true ∧ p.fld ≠ 0
  · rw [getP_gM h.1 h.2]
    split
    · exact gM_bk ..
    · simp
  · rw [get_out h]; simp
theorem get_can (l : List Seg) (p : Pa) : getP (canM l) p = getP l p := by
  by_cases h : validP p = true ∧ p.fld ≠ 0
  · rw [getP_gM h.1 h.2, getP_gM h.1 h.2, atF_names (nmL_can l)]
    split
    · exact gM_can ..
    · rfl
  · rw [get_out h, get_out h]
def headS (d : Dm) : Str := [77, 83, 72, d.f, d.c, d.r, d.e, d.s]
def L0 (d : Dm) : List Seg := [⟨msh, [one1' [d.f], one1' [d.c, d.r, d.e, d.s]]⟩]
theorem can_L0 (d : Dm) : canM (L0 d) = L0 d := by
  show [canG _] = _
  have e : canG ⟨msh, [one1' [d.f], one1' [d.c, d.r, d.e, d.s]]⟩ = ⟨msh, [one1' [d.f], one1' [d.c, d.r, d.e, d.s]]⟩ := rfl
  rw [e]; rfl
theorem ok_L0 {d : Dm} (h : OkD d) : OkM isName d (L0 d) := by
  refine ⟨h, by simp [L0], ?_, _, [], rfl, rfl, ⟨[], rfl⟩, fun x hx => by simp at hx⟩
  intro x hx
  simp only [L0, List.mem_singleton] at hx
  subst hx
  refine ⟨nm_msh, ?_⟩
  unfold fitsG; simp [one1', fitsF, fitsR, fitsC]
theorem tx_head {d : Dm} (h : OkD d) : txE (headS d) = 0 ∧ txD (headS d) = d ∧ txL (headS d) = L0 d := by
  have ep : Go.V.printP d (L0 d) = headS d ++ 13 :: [] := by
    unfold Go.V.printP; rw [can_L0]; simp [L0, line0, headS, fldsP]
  obtain ⟨p1, p2, p3⟩ := parse_print nmOk nm_msh (ok_L0 h) (by rw [ep]; simp [headS])
  rw [ep] at p1 p2 p3
  rw [can_L0] at p3
  obtain ⟨q1, q2, q3⟩ := parse_line (nm := isName) nmOk (t := headS d) (l := []) (by simp) (by simp [headS])
  have h0 : parseE isName (headS d) = 0 := by
    apply Classical.byContradiction; intro hn; exact q1 hn p1
  have hl := (q3 p1).1 rfl
  rw [ofP_more] at p2
  have h0' : txE (headS d) = 0 := h0
  refine ⟨h0', ?_, ?_⟩
  · unfold txD; rw [if_pos h0', p2]; rfl
  · unfold txL; rw [if_pos h0', ← hl, p3]
def setAll (l : List Seg) (ops : List (Pa × Str)) : List Seg := ops.foldl (fun l x => stL l x.1 x.2) l
theorem set_hd {m : Mh} {l : List Seg} {f c : Int} (hv : validM m l = true) (hm : mayP (hAt f c) false = true) (hf : f ≤ 100) (hc : c ≤ 50) (h1 : 1 ≤ c) : setE m l (hAt f c) = 0 :=
  setE_of hv hm hf (by show max (max (1 : Int) c) 1 ≤ 50; omega) (by have := cnt_msh hv; show (1 : Int) ≤ (cnt msh l : Nat); omega)
theorem nm_stL {m : Mh} {l : List Seg} {p : Pa} (v : Str) (h : setE m l p = 0) (hc : p.occ ≤ (cnt p.seg l : Nat)) : nmL (stL l p v) = nmL l := by
  obtain ⟨i, _, _, _, e, _⟩ := stL_parts v h
  rw [e]; unfold grownS; rw [if_neg (by omega)]
def HOk (x : Pa × Str) : Prop := ∃ f c, x.1 = hAt f c ∧ mayP (hAt f c) false = true ∧ f ≤ 100 ∧ c ≤ 50 ∧ 1 ≤ c
theorem setAll_ok {m : Mh} : ∀ {ops : List (Pa × Str)} {l : List Seg}, (∀ x ∈ ops, HOk x) → validM m l = true → canM l = l →
    validM m (setAll l ops) = true ∧ canM (setAll l ops) = setAll l ops ∧ nmL (setAll l ops) = nmL l ∧ bkM (setAll l ops) ≤ bkM l + (ops.map fun x => 300 + x.2.length).sum ∧
      (∀ q, (∀ x ∈ ops, x.1 ≠ q) → getP (setAll l ops) q = getP l q)
  | [], l, _, hv, hc => ⟨hv, hc, rfl, by simp [setAll], fun _ _ => rfl⟩
  | (p, v) :: ops, l, h, hv, hc => by
    obtain ⟨f, c, e, hm, hf, hcc, h1⟩ := h (p, v) (by simp)
    simp only at e
    subst e
    have hs := set_hd hv hm hf hcc h1
    obtain ⟨k1, k2, k3, k4, k5⟩ := setAll_ok (m := m) (ops := ops) (l := stL l (hAt f c) v) (fun x hx => h x (by simp [hx])) (valid_set hs) (stL_can hs)
    refine ⟨k1, k2, ?_, ?_, fun q hq => ?_⟩
    · show nmL (setAll _ ops) = _
      rw [k3]; exact nm_stL v hs (by have := cnt_msh hv; show (1 : Int) ≤ (cnt msh l : Nat); omega)
    · have := bk_set v hs
      show bkM (setAll _ ops) ≤ _
      simp only [List.map_cons, List.sum_cons]; omega
    · show getP (setAll _ ops) q = _
      rw [k5 q (fun x hx => hq x (by simp [hx])), get_other hs (fun e => hq (hAt f c, v) (by simp) e.symm)]
theorem setAll_app (l : List Seg) (a b : List (Pa × Str)) : setAll l (a ++ b) = setAll (setAll l a) b := by unfold setAll; rw [List.foldl_append]
theorem setAll_get {m : Mh} {l : List Seg} {a b : List (Pa × Str)} {p : Pa} {v : Str} (h : ∀ x ∈ a ++ (p, v) :: b, HOk x) (hv : validM m l = true) (hc : canM l = l) (hb : ∀ x ∈ b, x.1 ≠ p) : getP (setAll l (a ++ (p, v) :: b)) p = v := by
  rw [setAll_app]
  obtain ⟨k1, k2, _⟩ := setAll_ok (m := m) (ops := a) (l := l) (fun x hx => h x (by simp [hx])) hv hc
  obtain ⟨f, c, e, hm, hf, hcc, h1⟩ := h (p, v) (by simp)
  simp only at e
  subst e
  have hs := set_hd k1 hm hf hcc h1
  obtain ⟨_, _, _, _, k5⟩ := setAll_ok (m := m) (ops := b) (l := stL (setAll l a) (hAt f c) v) (fun x hx => h x (by simp [hx])) (valid_set hs) (stL_can hs)
  show getP (setAll (stL (setAll l a) (hAt f c) v) b) _ = v
  rw [k5 _ hb, get_set hs]
def hOps (a b : Str × Str) (kind event control version time : Str) : List (Pa × Str) :=
  [(hAt 3 1, a.1), (hAt 4 1, a.2), (hAt 5 1, b.1), (hAt 6 1, b.2), (hAt 7 1, time), (hAt 9 1, kind), (hAt 9 2, event), (hAt 10 1, control), (hAt 11 1, [80]), (hAt 12 1, version)]
def mkL (d : Dm) (a b : Str × Str) (kind event control version time : Str) : List Seg := setAll (L0 d) (hOps a b kind event control version time)
theorem hOps_ok (a b : Str × Str) (kind event control version time : Str) : ∀ x ∈ hOps a b kind event control version time, HOk x := by
  intro x hx
  simp only [hOps, List.mem_cons, List.not_mem_nil, or_false] at hx
  rcases hx with rfl | rfl | rfl | rfl | rfl | rfl | rfl | rfl | rfl | rfl <;> exact ⟨_, _, rfl, by decide, by decide, by decide, by decide⟩
theorem mk_ok {d : Dm} (h : OkD d) (s : Sl) (a b : Str × Str) (kind event control version time : Str) :
    validM (mD d s) (mkL d a b kind event control version time) = true ∧ canM (mkL d a b kind event control version time) = mkL d a b kind event control version time ∧ nmL (mkL d a b kind event control version time) = [msh] ∧
      hd (mkL d a b kind event control version time) 3 1 = a.1 ∧ hd (mkL d a b kind event control version time) 4 1 = a.2 ∧ hd (mkL d a b kind event control version time) 5 1 = b.1 ∧ hd (mkL d a b kind event control version time) 6 1 = b.2 ∧
      hd (mkL d a b kind event control version time) 9 1 = kind ∧ hd (mkL d a b kind event control version time) 9 2 = event ∧ hd (mkL d a b kind event control version time) 10 1 = control ∧ hd (mkL d a b kind event control version time) 12 1 = version := by
  have hv : validM (mD d s) (L0 d) = true := valid_of (Dg_mD d s) (by rw [dm_mD]; exact ok_L0 h)
  have ho := hOps_ok a b kind event control version time
  obtain ⟨k1, k2, k3, _⟩ := setAll_ok (m := mD d s) ho hv (can_L0 d)
  have g : ∀ (pre post : List (Pa × Str)) (p : Pa) (v : Str), hOps a b kind event control version time = pre ++ (p, v) :: post → (∀ x ∈ post, x.1 ≠ p) → getP (mkL d a b kind event control version time) p = v := by
    intro pre post p v e hb
    unfold mkL
    rw [e]
    exact setAll_get (m := mD d s) (by rw [← e]; exact ho) hv (can_L0 d) hb
  refine ⟨k1, k2, k3, ?_, ?_, ?_, ?_, ?_, ?_, ?_, ?_⟩
  · exact g [] _ _ _ rfl (by simp [hAt])
  · exact g (List.take 1 (hOps a b kind event control version time)) _ _ _ rfl (by simp [hAt])
  · exact g (List.take 2 (hOps a b kind event control version time)) _ _ _ rfl (by simp [hAt])
  · exact g (List.take 3 (hOps a b kind event control version time)) _ _ _ rfl (by simp [hAt])
  · exact g (List.take 5 (hOps a b kind event control version time)) _ _ _ rfl (by simp [hAt])
  · exact g (List.take 6 (hOps a b kind event control version time)) _ _ _ rfl (by simp [hAt])
  · exact g (List.take 7 (hOps a b kind event control version time)) _ _ _ rfl (by simp [hAt])
  · exact g (List.take 9 (hOps a b kind event control version time)) _ _ _ rfl (by simp)
end Go.Proofs.YtoaoofobidhfjaaGreatDoor
