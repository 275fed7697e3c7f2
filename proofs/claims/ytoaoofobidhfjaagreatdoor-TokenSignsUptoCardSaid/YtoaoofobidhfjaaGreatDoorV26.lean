/- A message whose last segment has one field more (plain). -/
import Derived.Test.YtoaoofobidhfjaaGreatDoorVT
set_option linter.unusedSimpArgs false
set_option linter.unusedVariables false
namespace Go.V
open Go.RowKit
theorem OkM.last {nm : Str → Bool} {d : Dm} {l : List Seg} (h : OkM nm d l) : ∃ cs g, l = cs ++ [g] := by
  obtain ⟨g, gs, rfl, _⟩ := h.hd
  exact ⟨(g :: gs).dropLast, (g :: gs).getLast (by simp), (List.dropLast_concat_getLast (by simp)).symm⟩
theorem OkM.two {nm : Str → Bool} {d : Dm} {g : Seg} (h : OkM nm d [g]) : 2 ≤ g.flds.length := by
  obtain ⟨g0, gs, e, _, ⟨r, hf⟩, _⟩ := h.hd
  simp only [List.cons.injEq] at e
  rw [e.1, hf]; simp
theorem OkM.grow {nm : Str → Bool} {d : Dm} {cs : List Seg} {g : Seg} {es : List Fldt} (h : OkM nm d (cs ++ [g])) (hF : ∀ f ∈ es, fitsF f = true) (hl : g.flds.length + es.length ≤ 100) : OkM nm d (cs ++ [⟨g.name, g.flds ++ es⟩]) := by
  have hg := h.nms g (by simp)
  have hfg : fitsG ⟨g.name, g.flds ++ es⟩ = true := by
    have h2 := hg.2
    unfold fitsG at h2 ⊢
    simp only [Bool.and_eq_true, decide_eq_true_eq, List.all_eq_true, List.length_append, List.mem_append] at h2 ⊢
    exact ⟨by omega, fun x hx => hx.elim (h2.2 x) (hF x)⟩
  refine ⟨h.sg, by have := h.len; simp at this ⊢; omega, ?_, ?_⟩
  · intro x hx
    rcases List.mem_append.1 hx with hx | hx
    · exact h.nms x (by simp [hx])
    · simp only [List.mem_singleton] at hx; subst hx; exact ⟨hg.1, hfg⟩
  · obtain ⟨g0, gs, e, hn, ⟨r, hf⟩, hx⟩ := h.hd
    cases cs with
    | nil =>
      simp only [List.nil_append, List.cons.injEq] at e
      obtain ⟨rfl, rfl⟩ := e
      exact ⟨_, [], rfl, hn, ⟨r ++ es, by simp [hf]⟩, fun x hx => by simp at hx⟩
    | cons c cs =>
      simp only [List.cons_append, List.cons.injEq] at e
      obtain ⟨rfl, rfl⟩ := e
      refine ⟨c, _, rfl, hn, ⟨r, hf⟩, fun x hx' => ?_⟩
      rcases List.mem_append.1 hx' with hx' | hx'
      · exact hx x (by simp [hx'])
      · simp only [List.mem_singleton] at hx'; subst hx'; exact hx g (by simp)
theorem trimT_full {α : Type} {l : List (List α)} (h : (trimT l).length = l.length) : trimT l = l := by
  obtain ⟨e, he, _⟩ := trimT_split l
  have h2 := congrArg List.length he
  rw [List.length_append] at h2
  have : e = [] := List.length_eq_zero_iff.1 (by omega)
  rw [this, List.append_nil] at he; exact he.symm
theorem canS_map {l : List Fldt} (h : canS l = l) : l.map canF = l := by
  unfold canS at h
  rw [trimT_full (by rw [h, List.length_map])] at h; exact h
theorem canM_app (a b : List Seg) : canM (a ++ b) = canM a ++ canM b := by unfold canM; rw [List.map_append]
theorem can_grow {cs : List Seg} {g : Seg} {F : Fldt} (h : canM (cs ++ [g]) = cs ++ [g]) (hF : canF F = F) (hne : F.isEmpty = false) : canM (cs ++ [⟨g.name, g.flds ++ [F]⟩]) = cs ++ [⟨g.name, g.flds ++ [F]⟩] := by
  rw [canM_app] at h ⊢
  obtain ⟨h1, h2⟩ := List.append_inj h (by unfold canM; simp)
  rw [h1]
  have h3 : canG g = g := by simpa [canM] using h2
  have h4 : canS g.flds = g.flds := congrArg Seg.flds h3
  have h5 := canS_map h4
  have h6 : canS (g.flds ++ [F]) = g.flds ++ [F] := by
    unfold canS
    rw [List.map_append, h5, List.map_cons, hF, List.map_nil, trimT_snoc, if_neg (by rw [hne]; simp)]
  show cs ++ [canG ⟨g.name, g.flds ++ [F]⟩] = _
  unfold canG
  rw [h6]
theorem grow_print (d : Dm) {cs : List Seg} {g : Seg} {F : Fldt} (h : canM (cs ++ [g]) = cs ++ [g]) (hF : canF F = F) (hne : F.isEmpty = false) (h2 : cs = [] → 2 ≤ g.flds.length) :
    ∃ p, printP d (cs ++ [g]) = p ++ [13] ∧ printP d (cs ++ [⟨g.name, g.flds ++ [F]⟩]) = p ++ d.f :: prF d F ++ [13] := by
  have h' := can_grow h hF hne
  unfold printP
  rw [h, h']
  cases cs with
  | nil =>
    refine ⟨line0 d g, by simp, ?_⟩
    have : line0 d ⟨g.name, g.flds ++ [F]⟩ = line0 d g ++ d.f :: prF d F := by
      unfold line0
      rw [List.drop_append_of_le_length (h2 rfl), fldsP, fldsP, List.flatMap_append]; simp
    simp [this]
  | cons c cs =>
    refine ⟨line0 d c ++ 13 :: ((cs.flatMap fun g => lineR d g ++ [13]) ++ lineR d g), by simp, ?_⟩
    have : lineR d ⟨g.name, g.flds ++ [F]⟩ = lineR d g ++ d.f :: prF d F := by
      unfold lineR fldsP; rw [List.flatMap_append]; simp
    simp [this]
theorem printP_can (d : Dm) (l : List Seg) : printP d (canM l) = printP d l := by unfold printP; rw [canM_can2]
theorem prF_one (d : Dm) (v : Str) : prF d (one1' v) = escW d v := rfl
theorem bkM_snoc (cs : List Seg) (g : Seg) : bkM (cs ++ [g]) = bkM cs + bkG g := by unfold bkM bkL; simp; omega
theorem bkG_grow (n : Str) (fl es : List Fldt) : bkG ⟨n, fl ++ es⟩ = bkG ⟨n, fl⟩ + (es.map bkF).sum := by unfold bkG bkL; simp; omega
theorem bkF_one (v : Str) : bkF (one1' v) = v.length + 4 := by simp [bkF, bkL, bkR, bkC, bkS, one1']
/-! ### What is empty at the end -/
theorem canS_empty (l : List Fldt) : ∀ (es : List Fldt), (∀ f ∈ es, canF f = []) → canS (l ++ es) = canS l := by
  intro es h
  unfold canS
  rw [List.map_append]
  have : ∀ (es : List Fldt) (x : List Fldt), (∀ f ∈ es, f = []) → trimT (x ++ es) = trimT x := by
    intro es
    induction es with
    | nil => intro x _; rw [List.append_nil]
    | cons e es ih =>
      intro x he
      have h1 := ih (x ++ [e]) (fun f hf => he f (by simp [hf]))
      rw [List.append_assoc] at h1
      rw [show x ++ e :: es = x ++ ([e] ++ es) from rfl, h1, trimT_snoc, if_pos (by rw [he e (by simp)]; rfl)]
  exact this _ _ fun f hf => by
    obtain ⟨y, hy, rfl⟩ := List.mem_map.1 hf
    exact h y hy
theorem canM_empty (cs : List Seg) (g : Seg) (es : List Fldt) (h : ∀ f ∈ es, canF f = []) : canM (cs ++ [⟨g.name, g.flds ++ es⟩]) = canM (cs ++ [g]) := by
  rw [canM_app, canM_app]
  show _ ++ [canG _] = _ ++ [canG g]
  unfold canG; rw [canS_empty _ _ h]
theorem printP_congr (d : Dm) {l l' : List Seg} (h : canM l = canM l') : printP d l = printP d l' := by unfold printP; rw [h]
/-! ### Other signs -/
def sgn (d : Dm) : List Seg → List Seg
  | [] => []
  | g :: gs => ⟨g.name, one1' [d.f] :: one1' [d.c, d.r, d.e, d.s] :: g.flds.drop 2⟩ :: gs
end Go.V
