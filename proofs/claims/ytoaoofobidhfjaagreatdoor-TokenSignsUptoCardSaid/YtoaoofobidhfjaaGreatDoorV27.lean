/- A message with other signs (plain). -/
import Derived.Test.YtoaoofobidhfjaaGreatDoorV26
set_option linter.unusedSimpArgs false
set_option linter.unusedVariables false
namespace Go.V
open Go.RowKit
theorem trimT_two {α : Type} (x y : List α) (t : List (List α)) (hy : y.isEmpty = false) : trimT (x :: y :: t) = x :: y :: trimT t := by
  unfold trimT
  rw [List.reverse_cons, List.reverse_cons, List.append_assoc, List.dropWhile_append]
  split
  · rename_i h
    have h0 : t.reverse.dropWhile List.isEmpty = [] := List.isEmpty_iff.1 h
    rw [h0]
    simp [List.dropWhile_cons, hy]
  · simp
theorem can_head {g : Seg} {a b : Str} {r : List Fldt} (ha : a.isEmpty = false) (hb : b.isEmpty = false) (h : g.flds = one1' a :: one1' b :: r) : canG g = ⟨g.name, one1' a :: one1' b :: canS r⟩ := by
  have h1 : canF (one1' a) = one1' a := can_one ha
  have h2 : canF (one1' b) = one1' b := can_one hb
  unfold canG canS
  rw [h, List.map_cons, List.map_cons, h1, h2, trimT_two _ _ _ rfl]
theorem fits_one (v : Str) : fitsF (one1' v) = true := by unfold one1' fitsF fitsR fitsC; simp
theorem OkM.sgn {nm : Str → Bool} {d0 d : Dm} {l : List Seg} (h : OkM nm d0 l) (hd : OkD d) : OkM nm d (sgn d l) := by
  obtain ⟨g, gs, rfl, hn, ⟨r, hf⟩, hx⟩ := h.hd
  refine ⟨hd, h.len, ?_, _, gs, rfl, hn, ⟨g.flds.drop 2, rfl⟩, hx⟩
  intro x hx'
  rcases List.mem_cons.1 hx' with rfl | hx'
  · have h1 := h.nms g (by simp)
    refine ⟨h1.1, ?_⟩
    have h2 := h1.2
    unfold fitsG at h2 ⊢
    rw [hf] at h2 ⊢
    simp only [Bool.and_eq_true, decide_eq_true_eq, List.all_cons, List.length_cons, List.drop_succ_cons, List.drop_zero, fits_one] at h2 ⊢
    exact ⟨h2.1, trivial, trivial, h2.2.2.2⟩
  · exact h.nms x (by simp [hx'])
theorem can_sgn {nm : Str → Bool} {d0 : Dm} {l : List Seg} (h : OkM nm d0 l) (d : Dm) : ∃ name r gs r0 gs0, l = ⟨name, one1' [d0.f] :: one1' [d0.c, d0.r, d0.e, d0.s] :: r0⟩ :: gs0 ∧ sgn d l = ⟨name, one1' [d.f] :: one1' [d.c, d.r, d.e, d.s] :: r0⟩ :: gs0 ∧
    canM l = ⟨name, one1' [d0.f] :: one1' [d0.c, d0.r, d0.e, d0.s] :: r⟩ :: gs ∧ canM (sgn d l) = ⟨name, one1' [d.f] :: one1' [d.c, d.r, d.e, d.s] :: r⟩ :: gs := by
  obtain ⟨g, gs, rfl, hn, ⟨r, hf⟩, hx⟩ := h.hd
  obtain ⟨nm', fl⟩ := g
  simp only at hf
  subst hf
  refine ⟨nm', canS r, canM gs, r, gs, rfl, rfl, ?_, ?_⟩
  · show canG _ :: canM gs = _
    rw [can_head (a := [d0.f]) (b := [d0.c, d0.r, d0.e, d0.s]) rfl rfl rfl]
  · show canG _ :: canM gs = _
    rw [can_head (a := [d.f]) (b := [d.c, d.r, d.e, d.s]) (r := r) rfl rfl rfl]
theorem bk_sgn {nm : Str → Bool} {d0 : Dm} {l : List Seg} (h : OkM nm d0 l) (d : Dm) : bkM (sgn d l) = bkM l := by
  obtain ⟨g, gs, rfl, hn, ⟨r, hf⟩, hx⟩ := h.hd
  obtain ⟨nm', fl⟩ := g
  simp only at hf
  subst hf
  simp [bkM, bkL, bkG, bkF_one, V.sgn]
end Go.V
