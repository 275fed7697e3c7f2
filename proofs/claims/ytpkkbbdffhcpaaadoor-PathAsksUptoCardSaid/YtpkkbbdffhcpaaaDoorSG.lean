/- What a path's text says: as the program reads it, and as the document does; the two are alike. -/
import Derived.Test.YtpkkbbdffhcpaaaDoorSF
set_option linter.unusedSimpArgs false
set_option linter.unusedVariables false
namespace Go.Proofs.YtpkkbbdffhcpaaaDoor
open Go.V Go.RowKit
def zPa : Pa := ⟨[], 0, 0, 0, 0, 0⟩
def fin (seg : Str) (r : Int × Str × Bool) (p : Pa) : Option Pa := if r.2.2 = true then none else if r.2.1 = [] then (if isName seg = true then some p else none) else none
def pD (seg : Str) (o f rp : Int) (r : Int × Str × Bool) : Option Pa := fin seg (rnum [46] [] r.2.1 r.2.2) ⟨seg, o, f, rp, r.1, (rnum [46] [] r.2.1 r.2.2).1⟩
def pC (seg : Str) (o f : Int) (r : Int × Str × Bool) : Option Pa := if ([46] : Str).isPrefixOf r.2.1 = true then pD seg o f r.1 (rnum [46] [] r.2.1 r.2.2) else fin seg r ⟨seg, o, f, r.1, 1, 1⟩
def pB (seg : Str) (o : Int) (r : Int × Str × Bool) : Option Pa := pC seg o r.1 (rnum [91] [93] r.2.1 r.2.2)
def pA (seg : Str) (r : Int × Str × Bool) : Option Pa := if ([45] : Str).isPrefixOf r.2.1 = true then pB seg r.1 (rnum [45] [] r.2.1 r.2.2) else fin seg r ⟨seg, r.1, 0, 0, 0, 0⟩
/-- What path.Parse tells. -/
def parseP (s : Str) : Option Pa := pA (s.take 3) (rnum [91] [93] (s.drop 3) false)
def qE (seg : Str) (o f rp c : Int) (e : Int × Str × Bool) : Option Pa := if e.2.2 = true then (if e.2.1 = [] then some ⟨seg, o, f, rp, c, e.1⟩ else none) else none
def qD (seg : Str) (o f rp : Int) (d : Int × Str × Bool) : Option Pa := qE seg o f rp d.1 (if d.2.2 = true then (if d.2.1 = [] then (1, d.2.1, d.2.2) else rstep d.2.1 46) else (1, d.2.1, d.2.2))
def qC (seg : Str) (o f : Int) (c : Int × Str × Bool) : Option Pa := qD seg o f c.1 (if c.2.2 = true then rstep c.2.1 46 else (0, c.2.1, c.2.2))
def qB (seg : Str) (o : Int) (b : Int × Str × Bool) : Option Pa := qC seg o b.1 (if b.2.2 = true then rstep b.2.1 91 else (0, b.2.1, b.2.2))
def qA (seg : Str) (a : Int × Str × Bool) : Option Pa :=
  if a.2.2 = true then (if a.2.1 = [] then some ⟨seg, a.1, 0, 0, 0, 0⟩ else if a.2.1.getD 0 0 = 45 then qB seg a.1 (rstep a.2.1 45) else none) else none
/-- What the document's ParsePath tells. -/
def parseR (s : Str) : Option Pa := if s.length < 3 then none else if isName (s.take 3) = true then qA (s.take 3) (rstep (s.drop 3) 91) else none

theorem fin_bad {seg : Str} {r : Int × Str × Bool} {p : Pa} (h : r.2.2 = true) : fin seg r p = none := by unfold fin; rw [if_pos h]
theorem fin_name {seg : Str} {r : Int × Str × Bool} {p : Pa} (h : isName seg = false) : fin seg r p = none := by
  unfold fin; rw [h]; split
  · rfl
  · split <;> simp
theorem pD_bad {seg : Str} {o f rp : Int} {r : Int × Str × Bool} (h : r.2.2 = true) : pD seg o f rp r = none := by unfold pD; rw [h]; exact fin_bad (rnum_bad _ _ _)
theorem pD_name {seg : Str} {o f rp : Int} {r : Int × Str × Bool} (h : isName seg = false) : pD seg o f rp r = none := fin_name h
theorem pC_bad {seg : Str} {o f : Int} {r : Int × Str × Bool} (h : r.2.2 = true) : pC seg o f r = none := by
  unfold pC; split
  · rw [h]; exact pD_bad (rnum_bad _ _ _)
  · exact fin_bad h
theorem pC_name {seg : Str} {o f : Int} {r : Int × Str × Bool} (h : isName seg = false) : pC seg o f r = none := by
  unfold pC; split
  · exact pD_name h
  · exact fin_name h
theorem pB_bad {seg : Str} {o : Int} {r : Int × Str × Bool} (h : r.2.2 = true) : pB seg o r = none := by unfold pB; rw [h]; exact pC_bad (rnum_bad _ _ _)
theorem pA_bad {seg : Str} {r : Int × Str × Bool} (h : r.2.2 = true) : pA seg r = none := by
  unfold pA; split
  · rw [h]; exact pB_bad (rnum_bad _ _ _)
  · exact fin_bad h
theorem pA_name {seg : Str} {r : Int × Str × Bool} (h : isName seg = false) : pA seg r = none := by
  unfold pA; split
  · exact pC_name h
  · exact fin_name h
theorem qE_bad {seg : Str} {o f rp c : Int} {e : Int × Str × Bool} (h : e.2.2 = false) : qE seg o f rp c e = none := by unfold qE; rw [if_neg (by rw [h]; simp)]
theorem qD_bad {seg : Str} {o f rp : Int} {d : Int × Str × Bool} (h : d.2.2 = false) : qD seg o f rp d = none := by
  unfold qD; rw [if_neg (by rw [h]; simp)]; exact qE_bad h
theorem qC_bad {seg : Str} {o f : Int} {d : Int × Str × Bool} (h : d.2.2 = false) : qC seg o f d = none := by
  unfold qC; rw [if_neg (by rw [h]; simp)]; exact qD_bad h
theorem qB_bad {seg : Str} {o : Int} {d : Int × Str × Bool} (h : d.2.2 = false) : qB seg o d = none := by
  unfold qB; rw [if_neg (by rw [h]; simp)]; exact qC_bad h
theorem qA_bad {seg : Str} {d : Int × Str × Bool} (h : d.2.2 = false) : qA seg d = none := by
  unfold qA; rw [if_neg (by rw [h]; simp)]

def Like (a r : Int × Str × Bool) : Prop := a.2.2 = !r.2.2 ∧ (a.2.2 = true → a.1 = r.1 ∧ a.2.1 = r.2.1)
theorem Like.cases {a r : Int × Str × Bool} (h : Like a r) : (a.2.2 = false ∧ r.2.2 = true) ∨ (∃ n y, a = (n, y, true) ∧ r = (n, y, false)) := by
  obtain ⟨n, y, b⟩ := a
  obtain ⟨m, z, c⟩ := r
  obtain ⟨h1, h2⟩ := h
  simp only at h1 h2 ⊢
  cases b
  · exact .inl ⟨rfl, by simpa using h1⟩
  · obtain ⟨rfl, rfl⟩ := h2 rfl
    exact .inr ⟨_, _, rfl, by simp at h1; rw [h1]⟩
theorem pre1 (c d : UInt8) (z : Str) : ([c] : Str).isPrefixOf (d :: z) = decide (d = c) := by
  simp only [List.isPrefixOf, Bool.and_true]
  by_cases h : d = c
  · simp [h]
  · have : ¬ c = d := fun e => h e.symm
    simp [h, this]
theorem fin_ok {seg : Str} (hn : isName seg = true) (n : Int) (y : Str) (p : Pa) : fin seg (n, y, false) p = if y = [] then some p else none := by
  unfold fin; rw [if_neg (by simp), if_pos hn]
theorem likeE {seg : Str} {o f rp c : Int} (hn : isName seg = true) {a r : Int × Str × Bool} (h : Like a r) : qE seg o f rp c a = fin seg r ⟨seg, o, f, rp, c, r.1⟩ := by
  rcases h.cases with ⟨h1, h2⟩ | ⟨n, y, rfl, rfl⟩
  · rw [qE_bad h1, fin_bad h2]
  · rw [fin_ok hn]; unfold qE; rw [if_pos rfl]
theorem likeD {seg : Str} {o f rp : Int} (hn : isName seg = true) {a r : Int × Str × Bool} (h : Like a r) : qD seg o f rp a = pD seg o f rp r := by
  rcases h.cases with ⟨h1, h2⟩ | ⟨n, y, rfl, rfl⟩
  · rw [qD_bad h1, pD_bad h2]
  · unfold qD pD
    rw [if_pos rfl]
    refine likeE hn ?_
    simp only
    split
    · rename_i he; subst he; exact like_sg 46 (by decide) []
    · exact like_sg 46 (by decide) y
theorem rnum_no {op en s : Str} {b : Bool} (h : op.isPrefixOf s = false) : rnum op en s b = (1, s, b) := by unfold rnum; rw [if_neg (by rw [h]; simp)]
theorem likeC {seg : Str} {o f : Int} (hn : isName seg = true) {a r : Int × Str × Bool} (h : Like a r) : qC seg o f a = pC seg o f r := by
  rcases h.cases with ⟨h1, h2⟩ | ⟨n, y, rfl, rfl⟩
  · rw [qC_bad h1, pC_bad h2]
  · unfold qC pC
    rw [if_pos rfl]
    by_cases hp : ([46] : Str).isPrefixOf y = true
    · rw [if_pos hp]; exact likeD hn (like_sg 46 (by decide) y)
    · rw [if_neg hp]
      rw [likeD hn (like_sg 46 (by decide) y)]
      have hp := Bool.eq_false_iff.2 hp
      simp only
      rw [rnum_no hp]
      unfold pD
      simp only
      rw [rnum_no hp, fin_ok hn, fin_ok hn]
theorem likeB {seg : Str} {o : Int} (hn : isName seg = true) {a r : Int × Str × Bool} (h : Like a r) : qB seg o a = pB seg o r := by
  rcases h.cases with ⟨h1, h2⟩ | ⟨n, y, rfl, rfl⟩
  · rw [qB_bad h1, pB_bad h2]
  · unfold qB pB
    rw [if_pos rfl]
    exact likeC hn (like_sq y)
theorem likeA {seg : Str} (hn : isName seg = true) {a r : Int × Str × Bool} (h : Like a r) : qA seg a = pA seg r := by
  rcases h.cases with ⟨h1, h2⟩ | ⟨n, y, rfl, rfl⟩
  · rw [qA_bad h1, pA_bad h2]
  · unfold qA pA
    rw [if_pos rfl]
    cases y with
    | nil => rw [if_pos rfl, if_neg (by simp), fin_ok hn]; rfl
    | cons c z =>
      simp only
      rw [if_neg (by simp), pre1, List.getD_cons_zero]
      by_cases hc : c = 45
      · rw [if_pos hc, if_pos (by simpa using hc)]; exact likeB hn (like_sg 45 (by decide) _)
      · rw [if_neg hc, if_neg (by simpa using hc), fin_ok hn]; rfl
/-- The program reads as the document does. -/
theorem parse_alike (s : Str) : parseP s = parseR s := by
  unfold parseP parseR
  by_cases hn : isName (s.take 3) = true
  · have : ¬ s.length < 3 := by
      intro h; unfold isName at hn
      simp at hn; omega
    rw [if_neg this, if_pos hn]
    exact (likeA hn (like_sq _)).symm
  · rw [if_neg hn, pA_name (Bool.eq_false_iff.2 hn)]; split <;> rfl
theorem qE_seg {seg : Str} {o f rp c : Int} {e : Int × Str × Bool} {p : Pa} (h : qE seg o f rp c e = some p) : p.seg = seg := by
  unfold qE at h
  split at h
  · split at h
    · cases h; rfl
    · cases h
  · cases h
theorem parseP_seg {s : Str} {p : Pa} (h : parseP s = some p) : p.seg = s.take 3 := by
  rw [parse_alike] at h
  unfold parseR at h
  split at h
  · cases h
  split at h
  · unfold qA at h
    split at h
    · split at h
      · cases h; rfl
      · split at h
        · exact qE_seg h
        · cases h
    · cases h
  · cases h
end Go.Proofs.YtpkkbbdffhcpaaaDoor
