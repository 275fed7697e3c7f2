/- Answers: what they are (plain). -/
import Derived.Test.YtoaoofobidhfjaaGreatDoorWH1
import Derived.Test.YtoaoofobidhfjaaGreatDoorWV26
set_option linter.unusedSimpArgs false
set_option linter.unusedVariables false
namespace Go.Proofs.YtoaoofobidhfjaaGreatDoor
open Go.V Go.RowKit
def codesL : List Str := [[65, 65], [65, 69], [65, 82]]
def codeP (n : Int) : Str := if 0 ≤ n ∧ n < 3 then codesL.getD n.toNat [] else []
def isCode (s : Str) : Bool := decide (s ∈ codesL)
def segV (name : Str) (vs : List Str) : Seg := ⟨name, vs.map one1'⟩
def msa : Str := [77, 83, 65]
def errS : Str := [69, 82, 82]
def ackK : Str := [65, 67, 75]
def msaAt (f : Int) : Pa := ⟨msa, 1, f, 1, 1, 1⟩
def errL (code text : Str) : List Seg := if code = [65, 65] then [] else [segV errS [[], [], [], [], [], [], [], text]]
def ackH (d : Dm) (l : List Seg) (control time : Str) : List Seg := mkL d (hd l 5 1, hd l 6 1) (hd l 3 1, hd l 4 1) ackK (hd l 9 2) control (hd l 12 1) time
def ackR (d : Dm) (l : List Seg) (code text control time : Str) : List Seg := (ackH d l control time ++ [segV msa [code, hd l 10 1, text]]) ++ errL code text
def ackL (d : Dm) (l : List Seg) (code text control time : Str) : List Seg := canM (ackR d l code text control time)
theorem code_is (n : Int) (h : codeP n ≠ []) : isCode (codeP n) = true := by
  unfold codeP at h ⊢
  by_cases h1 : 0 ≤ n ∧ n < 3
  · rw [if_pos h1]
    have : n = 0 ∨ n = 1 ∨ n = 2 := by omega
    rcases this with rfl | rfl | rfl <;> decide
  · rw [if_neg h1] at h; exact absurd rfl h
theorem code_iff (n : Int) : (!(codeP n == [])) = (decide (0 ≤ n) && decide (n ≤ 2)) := by
  unfold codeP
  by_cases h1 : 0 ≤ n ∧ n < 3
  · rw [if_pos h1]
    have : n = 0 ∨ n = 1 ∨ n = 2 := by omega
    rcases this with rfl | rfl | rfl <;> decide
  · rw [if_neg h1]
    have : ¬ (0 ≤ n ∧ n ≤ 2) := by omega
    rw [← Bool.decide_and, decide_eq_false this]; rfl
theorem fits_segV (name : Str) (vs : List Str) (h : vs.length ≤ 100) : fitsG (segV name vs) = true := by
  unfold fitsG segV
  simp only [List.length_map, Bool.and_eq_true, decide_eq_true_eq, List.all_eq_true, List.mem_map]
  refine ⟨h, ?_⟩
  rintro f ⟨v, _, rfl⟩
  unfold one1' fitsF fitsR fitsC; simp
theorem OkM.seg {nm : Str → Bool} {d : Dm} {l : List Seg} {g : Seg} (h : OkM nm d l) (hn : nm g.name = true) (hne : g.name ≠ msh) (hf : fitsG g = true) (hl : l.length < 200) : OkM nm d (l ++ [g]) := by
  obtain ⟨g0, gs, rfl, h1, h2, h3⟩ := h.hd
  refine ⟨h.sg, by simp at hl ⊢; omega, ?_, g0, gs ++ [g], rfl, h1, h2, ?_⟩
  · intro x hx
    rcases List.mem_append.1 hx with hx | hx
    · exact h.nms x hx
    · simp only [List.mem_singleton] at hx; subst hx; exact ⟨hn, hf⟩
  · intro x hx
    rcases List.mem_append.1 hx with hx | hx
    · exact h3 x hx
    · simp only [List.mem_singleton] at hx; subst hx; exact hne
theorem get_app {l : List Seg} {g : Seg} {p : Pa} {i : Nat} (h : atF p.seg p.occ l = some i) : getP (l ++ [g]) p = getP l p := by
  have h2 : atF p.seg p.occ (l ++ [g]) = some i := by rw [atF_app, h]
  unfold getP
  rw [h, h2]
  have hi := atF_lt h
  simp only [List.getElem?_append_left hi]
theorem nm_len {l : List Seg} {ns : List Str} (h : nmL l = ns) : l.length = ns.length := by rw [← h]; unfold nmL; simp
theorem ack_ok {d : Dm} (ok : OkD d) (s : Sl) (l : List Seg) (code text control time : Str) (hcd : isCode code = true) :
    validM (mD d s) (ackL d l code text control time) = true ∧ canM (ackL d l code text control time) = ackL d l code text control time ∧
      (∀ f c, hd (ackL d l code text control time) f c = hd (ackH d l control time) f c) ∧
      getP (ackL d l code text control time) (msaAt 1) = code ∧ getP (ackL d l code text control time) (msaAt 2) = hd l 10 1 := by
  obtain ⟨k1, k2, k3, _⟩ := mk_ok ok s (hd l 5 1, hd l 6 1) (hd l 3 1, hd l 4 1) ackK (hd l 9 2) control (hd l 12 1) time
  obtain ⟨H, hH⟩ : ∃ H, H = ackH d l control time := ⟨_, rfl⟩
  have k1 : validM (mD d s) H = true := by rw [hH]; exact k1
  have k3 : nmL H = [msh] := by rw [hH]; exact k3
  have hl := nm_len k3
  have o1 : OkM isName d H := by have := okM_of (Dg_mD d s) k1; rw [dm_mD] at this; exact this
  have o2 : OkM isName d (H ++ [segV msa [code, hd l 10 1, text]]) := OkM.seg o1 (show isName msa = true by decide) (show msa ≠ msh by decide) (fits_segV _ _ (by simp)) (by rw [hl]; simp)
  have n2 : nmL (H ++ [segV msa [code, hd l 10 1, text]]) = [msh, msa] := by unfold nmL at k3 ⊢; rw [List.map_append, k3]; rfl
  have o3 : OkM isName d (ackR d l code text control time) := by
    unfold ackR; rw [← hH]; unfold errL
    split
    · rw [List.append_nil]; exact o2
    · exact OkM.seg o2 (show isName errS = true by decide) (show errS ≠ msh by decide) (fits_segV _ _ (by simp)) (by have := nm_len n2; rw [this]; simp)
  have a1 : atF msh 1 H = some 0 := by rw [atF_names (l' := [⟨msh, []⟩]) (by rw [k3]; rfl)]; decide
  have b1 : atF msh 1 (H ++ [segV msa [code, hd l 10 1, text]]) = some 0 := by rw [atF_app, a1]
  have b2 : atF msa 1 (H ++ [segV msa [code, hd l 10 1, text]]) = some 1 := by rw [atF_names (l' := [⟨msh, []⟩, ⟨msa, []⟩]) (by rw [n2]; rfl)]; decide
  have gR : ∀ (p : Pa) i, atF p.seg p.occ (H ++ [segV msa [code, hd l 10 1, text]]) = some i → getP (ackL d l code text control time) p = getP (H ++ [segV msa [code, hd l 10 1, text]]) p := by
    intro p i h
    unfold ackL; rw [get_can]; unfold ackR; rw [← hH]; unfold errL
    split
    · rw [List.append_nil]
    · exact get_app h
  have e1 : (H ++ [segV msa [code, hd l 10 1, text]])[1]? = some (segV msa [code, hd l 10 1, text]) := by
    rw [List.getElem?_append_right (by rw [hl]; simp), hl]; rfl
  have gA : ∀ f : Int, validP (msaAt f) = true → f ≠ 0 → getP (ackL d l code text control time) (msaAt f) = gS ([code, hd l 10 1, text].map one1') f.toNat 1 1 1 := by
    intro f hv hf
    rw [gR (msaAt f) 1 b2, getP_gM hv hf]
    have : atF (msaAt f).seg (msaAt f).occ (H ++ [segV msa [code, hd l 10 1, text]]) = some 1 := b2
    rw [this]
    show gM _ 1 f.toNat 1 1 1 = _
    unfold gM; rw [e1]; rfl
  refine ⟨valid_of (Dg_mD d s) (by rw [dm_mD]; exact o3.can), by unfold ackL; rw [canM_can2], fun f c => ?_, ?_, ?_⟩
  · unfold hd
    rw [gR (hAt f c) 0 b1, get_app (p := hAt f c) a1, hH]
  · rw [gA 1 (by decide) (by decide)]; rfl
  · rw [gA 2 (by decide) (by decide)]; rfl
theorem bk_segV (name : Str) : ∀ vs : List Str, bkG (segV name vs) = name.length + 3 + (vs.map fun v => v.length + 4).sum := by
  intro vs
  have : ∀ vs : List Str, ((vs.map one1').map bkF).sum = (vs.map fun v => v.length + 4).sum := by
    intro vs
    induction vs with
    | nil => rfl
    | cons v vs ih => rw [List.map_cons, List.map_cons, List.map_cons, List.sum_cons, List.sum_cons, ih, bkF_one]
  unfold bkG segV bkL
  simp only [this, bkS]; omega
theorem bk_ack {d : Dm} (ok : OkD d) (l : List Seg) (code text control time : Str) {C : Nat} (h1 : bkM l ≤ C) (h2 : code.length ≤ C) (h3 : text.length ≤ C) (h4 : control.length ≤ C) (h5 : time.length ≤ C) (h0 : 100 ≤ C) :
    bkM (ackR d l code text control time) ≤ 50 * C + 4000 ∧ bkM (ackL d l code text control time) ≤ 50 * C + 4000 ∧ (∀ x ∈ hOps (hd l 5 1, hd l 6 1) (hd l 3 1, hd l 4 1) ackK (hd l 9 2) control (hd l 12 1) time, x.2.length ≤ C) := by
  have hg : ∀ f c, (hd l f c).length ≤ C := fun f c => Nat.le_trans (getP_bk l (hAt f c)) h1
  have hops : ∀ x ∈ hOps (hd l 5 1, hd l 6 1) (hd l 3 1, hd l 4 1) ackK (hd l 9 2) control (hd l 12 1) time, x.2.length ≤ C := by
    intro x hx
    simp only [hOps, List.mem_cons, List.not_mem_nil, or_false] at hx
    rcases hx with rfl | rfl | rfl | rfl | rfl | rfl | rfl | rfl | rfl | rfl
    · exact hg 5 1
    · exact hg 6 1
    · exact hg 3 1
    · exact hg 4 1
    · exact h5
    · show ackK.length ≤ C; simp [ackK]; omega
    · exact hg 9 2
    · exact h4
    · show ([80] : Str).length ≤ C; simp; omega
    · exact hg 12 1
  have hv : validM (mD d ⟨none, 0, 0⟩) (L0 d) = true := valid_of (Dg_mD d _) (by rw [dm_mD]; exact ok_L0 ok)
  obtain ⟨_, _, _, q4, _⟩ := setAll_ok (m := mD d ⟨none, 0, 0⟩) (hOps_ok (hd l 5 1, hd l 6 1) (hd l 3 1, hd l 4 1) ackK (hd l 9 2) control (hd l 12 1) time) hv (can_L0 d)
  have hs : ((hOps (hd l 5 1, hd l 6 1) (hd l 3 1, hd l 4 1) ackK (hd l 9 2) control (hd l 12 1) time).map fun x => 300 + x.2.length).sum ≤ 10 * (300 + C) := by
    have e1 := hg 5 1
    have e2 := hg 6 1
    have e3 := hg 3 1
    have e4 := hg 4 1
    have e5 := hg 9 2
    have e6 := hg 12 1
    have e7 : ackK.length = 3 := rfl
    simp only [hOps, List.map_cons, List.map_nil, List.sum_cons, List.sum_nil, List.length_singleton, e7]; omega
  have hb0 : bkM (L0 d) ≤ 100 := by simp [L0, bkM, bkL, bkG, bkS, bkF, bkR, bkC, one1', msh]
  have hH : bkM (ackH d l control time) ≤ 10 * C + 3100 := by
    have : bkM (ackH d l control time) ≤ bkM (L0 d) + _ := q4
    omega
  have hM := bk_segV msa [code, hd l 10 1, text]
  have e8 := hg 10 1
  have e9 : msa.length = 3 := rfl
  have e10 : errS.length = 3 := rfl
  have hE := bk_segV errS [[], [], [], [], [], [], [], text]
  simp only [List.map_cons, List.map_nil, List.sum_cons, List.sum_nil, List.length_nil, e9] at hM
  simp only [List.map_cons, List.map_nil, List.sum_cons, List.sum_nil, List.length_nil, e10] at hE
  have hR : bkM (ackR d l code text control time) ≤ 50 * C + 4000 := by
    unfold ackR errL
    split
    · rw [List.append_nil, bkM_snoc]; omega
    · rw [bkM_snoc, bkM_snoc]; omega
  exact ⟨hR, Nat.le_trans (bkM_can _) hR, hops⟩
end Go.Proofs.YtoaoofobidhfjaaGreatDoor
