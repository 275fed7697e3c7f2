/- A number written in digits. -/
import Derived.Test.YtoaoofobidhfjaaGreatDoorSQ
set_option linter.unusedSimpArgs false
set_option linter.unusedVariables false
namespace Go.Proofs.YtoaoofobidhfjaaGreatDoor
open Go.V Go.RowKit
/-- The digits of a number, by so many steps at most. -/
def decF : Nat → Nat → Str
  | 0, _ => []
  | f + 1, n => if n < 10 then [UInt8.ofNat (48 + n)] else decF f (n / 10) ++ [UInt8.ofNat (48 + n % 10)]
def dec (n : Nat) : Str := decF 20 n
theorem decF_len : ∀ (f n : Nat), (decF f n).length ≤ f
  | 0, _ => by simp [decF]
  | f + 1, n => by
    unfold decF
    split
    · simp
    · have := decF_len f (n / 10); simp; omega
theorem dig_byte (d : Nat) (hd : d < 10) : IntKind.u8.wrap (48 + IntKind.u8.wrap (d : Int)) = ((UInt8.ofNat (48 + d)).toNat : Int) := by
  rw [wu8_id (x := (d : Int)) (by omega) (by omega), wu8_id (by omega) (by omega)]
  have : (UInt8.ofNat (48 + d)).toNat = 48 + d := by
    rw [UInt8.toNat_ofNat']; omega
  rw [this]; push_cast; rfl
theorem wu64_id {x : Int} (h0 : 0 ≤ x) (h1 : x < 18446744073709551616) : IntKind.u64.wrap x = x := by
  simp [IntKind.wrap, IntKind.signed, IntKind.bits]
  omega
section
variable {w : World} {k : Value → World → Prop}
end
end Go.Proofs.YtoaoofobidhfjaaGreatDoor
set_option linter.unusedSimpArgs false
set_option linter.unusedVariables false
namespace Go.Proofs.YtoaoofobidhfjaaGreatDoor
open Go.V Go.RowKit
theorem dig_byte2 (d : Nat) (hd : d < 10) : IntKind.u8.wrap (IntKind.i64.wrap (48 + (d : Int))) = ((UInt8.ofNat (48 + d)).toNat : Int) := by
  rw [w64_id (by omega) (by omega), wu8_id (by omega) (by omega)]
  have : (UInt8.ofNat (48 + d)).toNat = 48 + d := by
    rw [UInt8.toNat_ofNat']; omega
  rw [this]; push_cast; rfl
section
variable {w : World} {k : Value → World → Prop}
end
end Go.Proofs.YtoaoofobidhfjaaGreatDoor
set_option linter.unusedSimpArgs false
set_option linter.unusedVariables false
namespace Go.Proofs.YtoaoofobidhfjaaGreatDoor
open Go.V Go.RowKit
def br (n : Int) : Str := if 1 < n then [91] ++ dec n.toNat ++ [93] else []
def dt (b : Bool) (n : Int) : Str := if b = true then [46] ++ dec n.toNat else []
def printP (p : Pa) : Str := if validP p = true then (if p.fld = 0 then p.seg ++ br p.occ else (((p.seg ++ br p.occ) ++ [45] ++ dec p.fld.toNat) ++ br p.rep) ++ dt (decide (1 < p.cmp) || decide (1 < p.sub)) p.cmp ++ dt (decide (1 < p.sub)) p.sub) else []
theorem dec_len (n : Nat) : (dec n).length ≤ 20 := decF_len 20 n
theorem br_len (n : Int) : (br n).length ≤ 22 := by unfold br; have := dec_len n.toNat; split <;> simp; omega
theorem dt_len (b : Bool) (n : Int) : (dt b n).length ≤ 21 := by unfold dt; have := dec_len n.toNat; split <;> simp; omega
theorem inR_bnd {n : Int} (h : inR n = true) : 1 ≤ n ∧ n ≤ 200 := by unfold inR at h; simpa using h
section
variable {w : World} {k : Value → World → Prop}
end
end Go.Proofs.YtoaoofobidhfjaaGreatDoor
set_option linter.unusedSimpArgs false
set_option linter.unusedVariables false
namespace Go.Proofs.YtoaoofobidhfjaaGreatDoor
open Go.V Go.RowKit
section
variable {w : World} {k : Value → World → Prop}
end
end Go.Proofs.YtoaoofobidhfjaaGreatDoor
set_option linter.unusedSimpArgs false
set_option linter.unusedVariables false
namespace Go.Proofs.YtoaoofobidhfjaaGreatDoor
open Go.V Go.RowKit
section
variable {w : World} {k : Value → World → Prop}
end
end Go.Proofs.YtoaoofobidhfjaaGreatDoor
set_option linter.unusedSimpArgs false
set_option linter.unusedVariables false
namespace Go.Proofs.YtoaoofobidhfjaaGreatDoor
open Go.V Go.RowKit
theorem like_sq (s : Str) : (rstep s 91).2.2 = !(rnum [91] [93] s false).2.2 ∧ ((rstep s 91).2.2 = true → (rstep s 91).1 = (rnum [91] [93] s false).1 ∧ (rstep s 91).2.1 = (rnum [91] [93] s false).2.1) := by
  cases s with
  | nil => simp [rstep, rnum]
  | cons c x =>
    by_cases hc : c = 91
    · subst hc
      have hp : ([91] : Str).isPrefixOf (91 :: x) = true := by simp
      unfold rstep rnum
      rw [if_pos hp]
      simp only [List.length_cons, List.length_nil, List.drop_succ_cons, List.drop_zero, if_true, Bool.false_or]
      generalize numOf (x.takeWhile isDig) = nv
      generalize x.dropWhile isDig = y
      by_cases h1 : (nv.2 != 0 || (decide (nv.1 < 1) || decide (200 < nv.1))) = true
      · rw [if_pos h1]
        have : (nv.2 != 0 || (decide (nv.1 < 1) || (decide (200 < nv.1) || !(([93] : Str).isPrefixOf y)))) = true := by
          simp only [Bool.or_eq_true] at h1 ⊢
          rcases h1 with h | h | h
          · exact .inl h
          · exact .inr (.inl h)
          · exact .inr (.inr (.inl h))
        simp [this]
      · rw [if_neg h1]
        have h1 := Bool.eq_false_iff.2 h1
        simp only [Bool.or_eq_false_iff] at h1
        obtain ⟨e1, e2, e3⟩ := h1
        cases y with
        | nil => simp [e1, e2, e3]
        | cons d y =>
          by_cases hd : d = 93
          · subst hd; simp [e1, e2, e3]
          · have hd' : ¬ (93 : UInt8) = d := fun e => hd e.symm
            have hb : (d != 93) = true := by simpa using hd
            have hb2 : ((93 : UInt8) == d) = false := by simpa using hd'
            simp [e1, e2, e3, hb, hb2, hd, hd', List.isPrefixOf]
    · have hc' : ¬ (91 : UInt8) = c := fun e => hc e.symm
      simp [rstep, rnum, hc, hc']
theorem like_sg (g : UInt8) (hg : g ≠ 91) (s : Str) : (rstep s g).2.2 = !(rnum [g] [] s false).2.2 ∧ ((rstep s g).2.2 = true → (rstep s g).1 = (rnum [g] [] s false).1 ∧ (rstep s g).2.1 = (rnum [g] [] s false).2.1) := by
  cases s with
  | nil => simp [rstep, rnum]
  | cons c x =>
    by_cases hc : c = g
    · subst hc
      have hp : ([c] : Str).isPrefixOf (c :: x) = true := by simp
      unfold rstep rnum
      rw [if_pos hp]
      simp only [List.length_cons, List.length_nil, List.drop_succ_cons, List.drop_zero, if_true, Bool.false_or, if_neg hg]
      generalize numOf (x.takeWhile isDig) = nv
      generalize x.dropWhile isDig = y
      by_cases h1 : (nv.2 != 0 || (decide (nv.1 < 1) || decide (200 < nv.1))) = true
      · rw [if_pos h1]; simp only [Bool.or_eq_true] at h1; rcases h1 with h | h | h <;> simp [h]
      · rw [if_neg h1]
        have h1 := Bool.eq_false_iff.2 h1
        simp only [Bool.or_eq_false_iff] at h1
        obtain ⟨e1, e2, e3⟩ := h1
        simp [e1, e2, e3]
    · have hc' : ¬ g = c := fun e => hc e.symm
      simp [rstep, rnum, hc, hc']
theorem rnum_bad (op en s : Str) : (rnum op en s true).2.2 = true := by unfold rnum; split <;> simp
end Go.Proofs.YtoaoofobidhfjaaGreatDoor
set_option linter.unusedSimpArgs false
set_option linter.unusedVariables false
namespace Go.Proofs.YtoaoofobidhfjaaGreatDoor
open Go.V Go.RowKit
def zPa : Pa := ⟨[], 0, 0, 0, 0, 0⟩
def fin (seg : Str) (r : Int × Str × Bool) (p : Pa) : Option Pa := if r.2.2 = true then none else if r.2.1 = [] then (if isName seg = true then some p else none) else none
def pD (seg : Str) (o f rp : Int) (r : Int × Str × Bool) : Option Pa := fin seg (rnum [46] [] r.2.1 r.2.2) ⟨seg, o, f, rp, r.1, (rnum [46] [] r.2.1 r.2.2).1⟩
def pC (seg : Str) (o f : Int) (r : Int × Str × Bool) : Option Pa := if ([46] : Str).isPrefixOf r.2.1 = true then pD seg o f r.1 (rnum [46] [] r.2.1 r.2.2) else fin seg r ⟨seg, o, f, r.1, 1, 1⟩
def pB (seg : Str) (o : Int) (r : Int × Str × Bool) : Option Pa := pC seg o r.1 (rnum [91] [93] r.2.1 r.2.2)
def pA (seg : Str) (r : Int × Str × Bool) : Option Pa := if ([45] : Str).isPrefixOf r.2.1 = true then pB seg r.1 (rnum [45] [] r.2.1 r.2.2) else fin seg r ⟨seg, r.1, 0, 0, 0, 0⟩
/-- What path.Parse tells. -/
def parseP (s : Str) : Option Pa := pA (s.take 3) (rnum [91] [93] (s.drop 3) false)
def qE (seg : Str) (o f rp c : Int) (e : Int × Str × Bool) : Option Pa := if e.2.2 = true then (if e.2.1 = [] then some ⟨seg, o, f, rp, c, e.1⟩ else none) else none
def qD (seg : Str) (o f rp : Int) (d : Int × Str × Bool) : Option Pa := qE seg o f rp d.1 (if d.2.2 = true then (if d.2.1 = [] then (1, d.2.1, d.2.2) else rstep d.2.1 46) else (1, d.2.1, d.2.2))
def qC (seg : Str) (o f : Int) (c : Int × Str × Bool) : Option Pa := qD seg o f c.1 (if c.2.2 = true then rstep c.2.1 46 else (0, c.2.1, c.2.2))
def qB (seg : Str) (o : Int) (b : Int × Str × Bool) : Option Pa := qC seg o b.1 (if b.2.2 = true then rstep b.2.1 91 else (0, b.2.1, b.2.2))
def qA (seg : Str) (a : Int × Str × Bool) : Option Pa :=
  if a.2.2 = true then (if a.2.1 = [] then some ⟨seg, a.1, 0, 0, 0, 0⟩ else if a.2.1.getD 0 0 = 45 then qB seg a.1 (rstep a.2.1 45) else none) else none
/-- What the document's ParsePath tells. -/
def parseR (s : Str) : Option Pa := if s.length < 3 then none else if isName (s.take 3) = true then qA (s.take 3) (rstep (s.drop 3) 91) else none

theorem fin_bad {seg : Str} {r : Int × Str × Bool} {p : Pa} (h : r.2.2 = true) : fin seg r p = none := by unfold fin; rw [if_pos h]
theorem fin_name {seg : Str} {r : Int × Str × Bool} {p : Pa} (h : isName seg = false) : fin seg r p = none := by
  unfold fin; rw [h]; split
  · rfl
  · split <;> simp
theorem pD_bad {seg : Str} {o f rp : Int} {r : Int × Str × Bool} (h : r.2.2 = true) : pD seg o f rp r = none := by unfold pD; rw [h]; exact fin_bad (rnum_bad _ _ _)
theorem pD_name {seg : Str} {o f rp : Int} {r : Int × Str × Bool} (h : isName seg = false) : pD seg o f rp r = none := fin_name h
theorem pC_bad {seg : Str} {o f : Int} {r : Int × Str × Bool} (h : r.2.2 = true) : pC seg o f r = none := by
  unfold pC; split
  · rw [h]; exact pD_bad (rnum_bad _ _ _)
  · exact fin_bad h
theorem pC_name {seg : Str} {o f : Int} {r : Int × Str × Bool} (h : isName seg = false) : pC seg o f r = none := by
  unfold pC; split
  · exact pD_name h
  · exact fin_name h
theorem pB_bad {seg : Str} {o : Int} {r : Int × Str × Bool} (h : r.2.2 = true) : pB seg o r = none := by unfold pB; rw [h]; exact pC_bad (rnum_bad _ _ _)
theorem pA_bad {seg : Str} {r : Int × Str × Bool} (h : r.2.2 = true) : pA seg r = none := by
  unfold pA; split
  · rw [h]; exact pB_bad (rnum_bad _ _ _)
  · exact fin_bad h
theorem pA_name {seg : Str} {r : Int × Str × Bool} (h : isName seg = false) : pA seg r = none := by
  unfold pA; split
  · exact pC_name h
  · exact fin_name h
theorem qE_bad {seg : Str} {o f rp c : Int} {e : Int × Str × Bool} (h : e.2.2 = false) : qE seg o f rp c e = none := by unfold qE; rw [if_neg (by rw [h]; simp)]
theorem qD_bad {seg : Str} {o f rp : Int} {d : Int × Str × Bool} (h : d.2.2 = false) : qD seg o f rp d = none := by
  unfold qD; rw [if_neg (by rw [h]; simp)]; exact qE_bad h
theorem qC_bad {seg : Str} {o f : Int} {d : Int × Str × Bool} (h : d.2.2 = false) : qC seg o f d = none := by
  unfold qC; rw [if_neg (by rw [h]; simp)]; exact qD_bad h
theorem qB_bad {seg : Str} {o : Int} {d : Int × Str × Bool} (h : d.2.2 = false) : qB seg o d = none := by
  unfold qB; rw [if_neg (by rw [h]; simp)]; exact qC_bad h
theorem qA_bad {seg : Str} {d : Int × Str × Bool} (h : d.2.2 = false) : qA seg d = none := by
  unfold qA; rw [if_neg (by rw [h]; simp)]

def Like (a r : Int × Str × Bool) : Prop := a.2.2 = !r.2.2 ∧ (a.2.2 = true → a.1 = r.1 ∧ a.2.1 = r.2.1)
theorem Like.cases {a r : Int × Str × Bool} (h : Like a r) : (a.2.2 = false ∧ r.2.2 = true) ∨ (∃ n y, a = (n, y, true) ∧ r = (n, y, false)) := by
  obtain ⟨n, y, b⟩ := a
  obtain ⟨m, z, c⟩ := r
  obtain ⟨h1, h2⟩ := h
  simp only at h1 h2 ⊢
  cases b
  · exact .inl ⟨rfl, by simpa using h1⟩
  · obtain ⟨rfl, rfl⟩ := h2 rfl
    exact .inr ⟨_, _, rfl, by simp at h1; rw [h1]⟩
theorem pre1 (c d : UInt8) (z : Str) : ([c] : Str).isPrefixOf (d :: z) = decide (d = c) := by
  simp only [List.isPrefixOf, Bool.and_true]
  by_cases h : d = c
  · simp [h]
  · have : ¬ c = d := fun e => h e.symm
    simp [h, this]
theorem fin_ok {seg : Str} (hn : isName seg = true) (n : Int) (y : Str) (p : Pa) : fin seg (n, y, false) p = if y = [] then some p else none := by
  unfold fin; rw [if_neg (by simp), if_pos hn]
theorem likeE {seg : Str} {o f rp c : Int} (hn : isName seg = true) {a r : Int × Str × Bool} (h : Like a r) : qE seg o f rp c a = fin seg r ⟨seg, o, f, rp, c, r.1⟩ := by
  rcases h.cases with ⟨h1, h2⟩ | ⟨n, y, rfl, rfl⟩
  · rw [qE_bad h1, fin_bad h2]
  · rw [fin_ok hn]; unfold qE; rw [if_pos rfl]
theorem likeD {seg : Str} {o f rp : Int} (hn : isName seg = true) {a r : Int × Str × Bool} (h : Like a r) : qD seg o f rp a = pD seg o f rp r := by
  rcases h.cases with ⟨h1, h2⟩ | ⟨n, y, rfl, rfl⟩
  · rw [qD_bad h1, pD_bad h2]
  · unfold qD pD
    rw [if_pos rfl]
    refine likeE hn ?_
    simp only
    split
    · rename_i he; subst he; exact like_sg 46 (by decide) []
    · exact like_sg 46 (by decide) y
theorem rnum_no {op en s : Str} {b : Bool} (h : op.isPrefixOf s = false) : rnum op en s b = (1, s, b) := by unfold rnum; rw [if_neg (by rw [h]; simp)]
theorem likeC {seg : Str} {o f : Int} (hn : isName seg = true) {a r : Int × Str × Bool} (h : Like a r) : qC seg o f a = pC seg o f r := by
  rcases h.cases with ⟨h1, h2⟩ | ⟨n, y, rfl, rfl⟩
  · rw [qC_bad h1, pC_bad h2]
  · unfold qC pC
    rw [if_pos rfl]
    by_cases hp : ([46] : Str).isPrefixOf y = true
    · rw [if_pos hp]; exact likeD hn (like_sg 46 (by decide) y)
    · rw [if_neg hp]
      rw [likeD hn (like_sg 46 (by decide) y)]
      have hp := Bool.eq_false_iff.2 hp
      simp only
      rw [rnum_no hp]
      unfold pD
      simp only
      rw [rnum_no hp, fin_ok hn, fin_ok hn]
theorem likeB {seg : Str} {o : Int} (hn : isName seg = true) {a r : Int × Str × Bool} (h : Like a r) : qB seg o a = pB seg o r := by
  rcases h.cases with ⟨h1, h2⟩ | ⟨n, y, rfl, rfl⟩
  · rw [qB_bad h1, pB_bad h2]
  · unfold qB pB
    rw [if_pos rfl]
    exact likeC hn (like_sq y)
theorem likeA {seg : Str} (hn : isName seg = true) {a r : Int × Str × Bool} (h : Like a r) : qA seg a = pA seg r := by
  rcases h.cases with ⟨h1, h2⟩ | ⟨n, y, rfl, rfl⟩
  · rw [qA_bad h1, pA_bad h2]
  · unfold qA pA
    rw [if_pos rfl]
    cases y with
    | nil => rw [if_pos rfl, if_neg (by simp), fin_ok hn]; rfl
    | cons c z =>
      simp only
      rw [if_neg (by simp), pre1, List.getD_cons_zero]
      by_cases hc : c = 45
      · rw [if_pos hc, if_pos (by simpa using hc)]; exact likeB hn (like_sg 45 (by decide) _)
      · rw [if_neg hc, if_neg (by simpa using hc), fin_ok hn]; rfl
/-- The program reads as the document does. -/
theorem parse_alike (s : Str) : parseP s = parseR s := by
  unfold parseP parseR
  by_cases hn : isName (s.take 3) = true
  · have : ¬ s.length < 3 := by
      intro h; unfold isName at hn
      simp at hn; omega
    rw [if_neg this, if_pos hn]
    exact (likeA hn (like_sq _)).symm
  · rw [if_neg hn, pA_name (Bool.eq_false_iff.2 hn)]; split <;> rfl
theorem qE_seg {seg : Str} {o f rp c : Int} {e : Int × Str × Bool} {p : Pa} (h : qE seg o f rp c e = some p) : p.seg = seg := by
  unfold qE at h
  split at h
  · split at h
    · cases h; rfl
    · cases h
  · cases h
theorem parseP_seg {s : Str} {p : Pa} (h : parseP s = some p) : p.seg = s.take 3 := by
  rw [parse_alike] at h
  unfold parseR at h
  split at h
  · cases h
  split at h
  · unfold qA at h
    split at h
    · split at h
      · cases h; rfl
      · split at h
        · exact qE_seg h
        · cases h
    · cases h
  · cases h
end Go.Proofs.YtoaoofobidhfjaaGreatDoor
set_option linter.unusedSimpArgs false
set_option linter.unusedVariables false
namespace Go.Proofs.YtoaoofobidhfjaaGreatDoor
open Go.V Go.RowKit
def pp : Option Pa → Pa
  | none => zPa
  | some p => p
def pe : Option Pa → Int
  | none => 60
  | some _ => 0
/-- A path and its error. -/
def po (o : Option Pa) : Value := .tuple (List.toArray [.agg (List.toArray (pc (pp o))), .int .i64 (pe o)])
section
variable {w : World} {k : Value → World → Prop}
end
end Go.Proofs.YtoaoofobidhfjaaGreatDoor
set_option linter.unusedSimpArgs false
set_option linter.unusedVariables false
namespace Go.Proofs.YtoaoofobidhfjaaGreatDoor
open Go.V Go.RowKit
theorem rstep_len (s : Str) (g : UInt8) : (rstep s g).2.1.length ≤ s.length := by
  unfold rstep
  split
  · simp
  · rename_i c x
    have := (List.dropWhile_sublist isDig (l := x)).length_le
    split
    · split
      · simp
      · split
        · split
          · simp
          · simp; omega
        · simp; omega
    · simp
section
variable {w : World} {k : Value → World → Prop}
end
end Go.Proofs.YtoaoofobidhfjaaGreatDoor
set_option linter.unusedSimpArgs false
set_option linter.unusedVariables false
namespace Go.Proofs.YtoaoofobidhfjaaGreatDoor
open Go.V Go.RowKit
theorem newPa {w0 w1 : World} (f : Fr Non w0 w1) (p : Pa) {b : Nat} {w2 : World} (hb : b = w1.heap.size) (hw : w2 = w1.alloc (.cells (List.toArray (pc zPa)) 59)) :
    mayCells w2 ⟨b, 0, none⟩ 0 6 ∧ ∀ w3, w3 = setCells w2 ⟨b, 0, none⟩ 0 (pc p) → Blk w3 b 59 (pc p) ∧ Fr Non w1 w3 ∧ Fr Non w0 w3 := by
  have hB : Blk w2 b 59 (pc zPa) := hb ▸ hw ▸ Blk.new w1 (pc zPa) 59
  have f2 : Fr Non w1 w2 := hw ▸ (Fr.refl Non w1).alloc _
  refine ⟨mayCells_of hB 0 6 (by simp [pc]), ?_⟩
  rintro w3 rfl
  have f3 := f2.setAll hB (vs := pc p) rfl (fun h => absurd h (by omega))
  exact ⟨hB.setAll rfl, f3, f.trans' f3⟩
theorem patat {w : World} {b : Nat} {p : Pa} (h : Blk w b 59 (pc p)) : cellsAt w ⟨b, 0, none⟩ 0 (pc p) := h.ats (pc p) 0 0 (fun q v hq => by simpa using hq)
theorem al1 : parseP [80, 73, 68, 91, 50, 93, 45, 53, 46, 49, 46, 50] = some ⟨[80, 73, 68], 2, 5, 1, 1, 2⟩ := by kernel_rfl
theorem al2 : parseP [80, 73, 68, 45, 50, 46, 50] = some ⟨[80, 73, 68], 1, 2, 1, 2, 1⟩ := by kernel_rfl
theorem al3 : printP ⟨[80, 73, 68], 2, 5, 1, 1, 2⟩ = [80, 73, 68, 91, 50, 93, 45, 53, 46, 49, 46, 50] := by kernel_rfl
theorem al4 : validP ⟨[80, 73, 68], 1, 2, 1, 2, 1⟩ = true := by kernel_rfl
section
variable {w : World} {k : Value → World → Prop}
end
end Go.Proofs.YtoaoofobidhfjaaGreatDoor
set_option linter.unusedSimpArgs false
set_option linter.unusedVariables false
namespace Go.Proofs.YtoaoofobidhfjaaGreatDoor
open Go.V Go.RowKit
section
variable {w : World} {k : Value → World → Prop}
end
end Go.Proofs.YtoaoofobidhfjaaGreatDoor
set_option linter.unusedSimpArgs false
set_option linter.unusedVariables false
namespace Go.Proofs.YtoaoofobidhfjaaGreatDoor
open Go.V Go.RowKit
theorem dec_fin : ∀ n : Fin 201, n.val = 0 ∨ ((dec n.val).all isDig = true ∧ numOf (dec n.val) = ((n.val : Int), 0)) := by decide +kernel
theorem dec_ok {n : Int} (h : inR n = true) : (dec n.toNat).all isDig = true ∧ numOf (dec n.toNat) = (n, 0) := by
  obtain ⟨h1, h2⟩ := inR_bnd h
  rcases dec_fin ⟨n.toNat, by omega⟩ with h0 | h0
  · simp only at h0; omega
  · simp only at h0
    rw [show ((n.toNat : Nat) : Int) = n from by omega] at h0; exact h0
theorem dec_short_fin : ∀ n : Fin 201, (dec n.val).length = if n.val < 10 then 1 else if n.val < 100 then 2 else 3 := by decide +kernel
/-- Digits that say a number are no fewer than those that it is printed with. -/
theorem dec_short {s : Str} {n : Int} (h1 : 1 ≤ n) (h2 : n ≤ 200) (h : numOf s = (n, 0)) : (dec n.toNat).length ≤ s.length := by
  have hl := dec_short_fin ⟨n.toNat, by omega⟩
  simp only at hl
  unfold numOf at h
  split at h
  · cases h
  split at h
  · rename_i hd
    obtain ⟨b1, b2⟩ := dval_bnd s hd
    split at h
    · cases h
    · simp only [Prod.mk.injEq] at h
      rw [hl]
      rcases hs : s with _ | ⟨a, _ | ⟨b, _ | ⟨c, r⟩⟩⟩
      · subst hs; simp at b2; omega
      · subst hs; simp at b2 ⊢; split
        · omega
        · omega
      · subst hs; simp at b2 ⊢; split
        · omega
        · split <;> omega
      · simp; split
        · omega
        · split <;> omega
  · cases h
theorem tw_app (p : UInt8 → Bool) : ∀ (a b : Str), a.all p = true → (∀ c z, b = c :: z → p c = false) → (a ++ b).takeWhile p = a ∧ (a ++ b).dropWhile p = b
  | [], [], _, _ => by simp
  | [], c :: z, _, h => by have := h c z rfl; simp [this]
  | x :: a, b, ha, h => by
    simp only [List.all_cons, Bool.and_eq_true] at ha
    obtain ⟨h1, h2⟩ := tw_app p a b ha.2 h
    simp [ha.1, h1, h2]
theorem rstep_none {s : Str} {g : UInt8} (h : ∀ c z, s = c :: z → c ≠ g) : rstep s g = (1, s, true) := by
  cases s with
  | nil => rfl
  | cons c z => simp [rstep, h c z rfl]
theorem rstep_dec {g : UInt8} {n : Int} (hg : g ≠ 91) (hn : inR n = true) (r : Str) (hr : ∀ c z, r = c :: z → isDig c = false) : rstep (g :: (dec n.toNat ++ r)) g = (n, r, true) := by
  obtain ⟨d1, d2⟩ := dec_ok hn
  obtain ⟨h1, h2⟩ := inR_bnd hn
  obtain ⟨t1, t2⟩ := tw_app isDig _ r d1 hr
  simp only [rstep, if_true, t1, t2, d2, if_neg hg]
  rw [if_neg]
  simp; omega
theorem rstep_br {n : Int} (hn : inR n = true) (r : Str) (hr : ∀ c z, r = c :: z → c ≠ 91) : rstep (br n ++ r) 91 = (n, r, true) := by
  obtain ⟨h1, h2⟩ := inR_bnd hn
  unfold br
  split
  · obtain ⟨d1, d2⟩ := dec_ok hn
    obtain ⟨t1, t2⟩ := tw_app isDig _ (93 :: r) d1 (fun c z e => by cases e; decide)
    simp only [List.cons_append, List.nil_append, List.append_assoc, rstep, if_true, t1, t2, d2]
    rw [if_neg (by simp; omega)]
    simp
  · have : n = 1 := by omega
    subst this
    exact rstep_none hr
theorem isName_len {s : Str} (h : isName s = true) : s.length = 3 := by unfold isName at h; simp at h; exact h.1
/-- The text behind the name. -/
def tailP (p : Pa) : Str := if p.fld = 0 then br p.occ else br p.occ ++ (45 :: (dec p.fld.toNat ++ (br p.rep ++ (dt (decide (1 < p.cmp) || decide (1 < p.sub)) p.cmp ++ dt (decide (1 < p.sub)) p.sub))))
theorem printP_tail {p : Pa} (h : validP p = true) : printP p = p.seg ++ tailP p := by
  unfold printP tailP
  rw [if_pos h]
  split
  · rfl
  · simp [List.append_assoc]
theorem plain_eq {p : Pa} (h : plain p = true) : p = ⟨p.seg, p.occ, 0, 0, 0, 0⟩ := by
  obtain ⟨a, b, c, d, e, f⟩ := p
  simp [plain] at h
  obtain ⟨rfl, rfl, rfl, rfl⟩ := h
  rfl
theorem dt_head {b : Bool} {n : Int} {r : Str} (hr : ∀ c z, r = c :: z → c = 46) : ∀ c z, dt b n ++ r = c :: z → c = 46 := by
  intro c z h
  unfold dt at h
  split at h
  · simp at h; exact h.1.symm
  · exact hr c z (by simpa using h)
/-- What is printed is read as the path. -/
theorem back {p : Pa} (h : validP p = true) : parseP (printP p) = some p := by
  rw [parse_alike, printP_tail h]
  have hv := h
  unfold validP at hv
  simp only [Bool.and_eq_true, Bool.or_eq_true] at hv
  obtain ⟨⟨hname, hocc⟩, hrest⟩ := hv
  have hl := isName_len hname
  have t3 : (p.seg ++ tailP p).take 3 = p.seg := by rw [← hl]; exact List.take_left
  have d3 : (p.seg ++ tailP p).drop 3 = tailP p := by rw [← hl]; exact List.drop_left
  unfold parseR
  rw [if_neg (by simp; omega), t3, d3, if_pos hname]
  by_cases hf : p.fld = 0
  · have hpl : plain p = true := by
      rcases hrest with hh | ⟨hh, _⟩
      · exact hh
      · rw [hf] at hh; cases hh
    have ht : tailP p = br p.occ := by unfold tailP; rw [if_pos hf]
    have hs := rstep_br hocc [] (fun c z e => by cases e)
    rw [List.append_nil] at hs
    rw [ht, hs]
    unfold qA
    rw [if_pos rfl, if_pos rfl]
    exact congrArg some (plain_eq hpl).symm
  · have hrest : inR p.fld = true ∧ inR p.rep = true ∧ inR p.cmp = true ∧ inR p.sub = true := by
      rcases hrest with hh | hh
      · exfalso; apply hf; have := plain_eq hh; rw [this]
      · exact hh
    obtain ⟨h2, h3, h4, h5⟩ := hrest
    obtain ⟨c1, c2⟩ := inR_bnd h4
    obtain ⟨s1, s2⟩ := inR_bnd h5
    have ht : tailP p = br p.occ ++ (45 :: (dec p.fld.toNat ++ (br p.rep ++ (dt (decide (1 < p.cmp) || decide (1 < p.sub)) p.cmp ++ dt (decide (1 < p.sub)) p.sub)))) := by unfold tailP; rw [if_neg hf]
    have e1 := rstep_br hocc (45 :: (dec p.fld.toNat ++ (br p.rep ++ (dt (decide (1 < p.cmp) || decide (1 < p.sub)) p.cmp ++ dt (decide (1 < p.sub)) p.sub)))) (fun c z e => by cases e; decide)
    rw [ht, e1]
    have hD : ∀ c z, dt (decide (1 < p.cmp) || decide (1 < p.sub)) p.cmp ++ dt (decide (1 < p.sub)) p.sub = c :: z → c = 46 := dt_head (fun c z e => by
      have := dt_head (b := decide (1 < p.sub)) (n := p.sub) (r := []) (fun c z e => by cases e) c z (by simpa using e)
      exact this)
    have hB : ∀ c z, br p.rep ++ (dt (decide (1 < p.cmp) || decide (1 < p.sub)) p.cmp ++ dt (decide (1 < p.sub)) p.sub) = c :: z → isDig c = false := by
      intro c z e
      unfold br at e
      split at e
      · simp at e; rw [← e.1]; decide
      · have := hD c z (by simpa using e); rw [this]; decide
    have e2 := rstep_dec (g := 45) (by decide) h2 _ hB
    have e3 := rstep_br h3 _ (fun c z e => by have := hD c z e; rw [this]; decide)
    unfold qA
    simp only
    rw [if_pos trivial, if_neg (by simp), List.getD_cons_zero, if_pos rfl, e2]
    unfold qB
    simp only
    rw [if_pos trivial, e3]
    unfold qC
    simp only
    rw [if_pos trivial]
    by_cases hcs : (decide (1 < p.cmp) || decide (1 < p.sub)) = true
    · have hd1 : dt (decide (1 < p.cmp) || decide (1 < p.sub)) p.cmp = 46 :: dec p.cmp.toNat := by unfold dt; rw [if_pos hcs]; rfl
      rw [hd1]
      have e4 := rstep_dec (g := 46) (by decide) h4 (dt (decide (1 < p.sub)) p.sub) (fun c z e => by
        have := dt_head (b := decide (1 < p.sub)) (n := p.sub) (r := []) (fun c z e => by cases e) c z (by simpa using e)
        rw [this]; decide)
      rw [List.cons_append, e4]
      unfold qD
      simp only
      rw [if_pos trivial]
      by_cases hs : 1 < p.sub
      · have hd2 : dt (decide (1 < p.sub)) p.sub = 46 :: (dec p.sub.toNat ++ []) := by unfold dt; rw [if_pos (by simpa using hs), List.append_nil]; rfl
        rw [hd2, if_neg (by simp), rstep_dec (g := 46) (by decide) h5 [] (fun c z e => by cases e)]
        unfold qE
        rw [if_pos rfl, if_pos rfl]
      · have hd2 : dt (decide (1 < p.sub)) p.sub = [] := by unfold dt; rw [if_neg (by simpa using hs)]
        have hs1 : p.sub = 1 := by omega
        rw [hd2, if_pos rfl]
        unfold qE
        simp only [if_true]
        rw [← hs1]
    · have hc1 : p.cmp = 1 := by simp at hcs; omega
      have hs1 : p.sub = 1 := by simp at hcs; omega
      have hd1 : dt (decide (1 < p.cmp) || decide (1 < p.sub)) p.cmp = [] := by unfold dt; rw [if_neg hcs]
      have hd2 : dt (decide (1 < p.sub)) p.sub = [] := by unfold dt; rw [if_neg (by simp [hs1])]
      rw [hd1, hd2]
      have : rstep (([] : Str) ++ []) 46 = (1, [], true) := rfl
      rw [this]
      unfold qD qE
      simp only [if_true]
      obtain ⟨a, b, c, d, e, f⟩ := p
      simp at hc1 hs1
      subst hc1 hs1
      rfl
/-- What a step takes is no shorter than what is printed for it. -/
theorem step_sg {s : Str} {g : UInt8} {n : Int} {y : Str} (hg : g ≠ 91) (h : rstep s g = (n, y, true)) : (n = 1 ∧ y = s ∧ (∀ c z, s = c :: z → c ≠ g)) ∨ (inR n = true ∧ 1 + (dec n.toNat).length + y.length ≤ s.length) := by
  cases s with
  | nil => left; simp [rstep] at h; exact ⟨h.1.symm, h.2, fun c z e => by cases e⟩
  | cons c x =>
    by_cases hc : c = g
    · right
      simp only [rstep, hc, if_true, if_neg hg] at h
      split at h
      · cases h
      · rename_i hb
        have hb := Bool.eq_false_iff.2 hb
        simp only [Bool.or_eq_false_iff, bne_eq_false_iff_eq, decide_eq_false_iff_not] at hb
        simp only [Prod.mk.injEq] at h
        obtain ⟨h1, h2, _⟩ := h
        obtain ⟨b1, b2, b3⟩ := hb
        rw [h1] at b2 b3
        have hnum : numOf (x.takeWhile isDig) = (n, 0) := by rw [← h1, ← b1]
        have := dec_short (by omega) (by omega) hnum
        have hx := congrArg List.length (List.takeWhile_append_dropWhile (p := isDig) (l := x))
        rw [h2, List.length_append] at hx
        refine ⟨by unfold inR; simp; omega, ?_⟩
        simp; omega
    · left
      simp [rstep, hc] at h
      exact ⟨h.1.symm, h.2.symm, fun c' z e => by cases e; exact hc⟩
theorem step_sq {s : Str} {n : Int} {y : Str} (h : rstep s 91 = (n, y, true)) : inR n = true ∧ (br n).length + y.length ≤ s.length := by
  cases s with
  | nil => simp [rstep] at h; obtain ⟨rfl, rfl⟩ := h; exact ⟨by decide, by simp [br]⟩
  | cons c x =>
    by_cases hc : c = 91
    · simp only [rstep, hc, if_true] at h
      split at h
      · cases h
      · rename_i hb
        have hb := Bool.eq_false_iff.2 hb
        simp only [Bool.or_eq_false_iff, bne_eq_false_iff_eq, decide_eq_false_iff_not] at hb
        split at h
        · cases h
        · rename_i hq
          simp only [Prod.mk.injEq] at h
          obtain ⟨h1, h2, _⟩ := h
          obtain ⟨b1, b2, b3⟩ := hb
          rw [h1] at b2 b3
          have hnum : numOf (x.takeWhile isDig) = (n, 0) := by rw [← h1, ← b1]
          have := dec_short (by omega) (by omega) hnum
          have hx := congrArg List.length (List.takeWhile_append_dropWhile (p := isDig) (l := x))
          rw [List.length_append] at hx
          have hy := congrArg List.length h2
          rw [List.length_drop] at hy
          have hne : x.dropWhile isDig ≠ [] := by intro e; rw [e] at hq; simp at hq
          have := List.length_pos_iff.2 hne
          refine ⟨by unfold inR; simp; omega, ?_⟩
          unfold br; split <;> simp <;> omega
    · simp [rstep, hc] at h
      obtain ⟨rfl, rfl⟩ := h
      exact ⟨by decide, by simp [br]⟩
theorem triple {r : Int × Str × Bool} (h : r.2.2 = true) : r = (r.1, r.2.1, true) := by rw [← h]
theorem qE_some {seg : Str} {o f rp c : Int} {e : Int × Str × Bool} {p : Pa} (h : qE seg o f rp c e = some p) : e = (e.1, [], true) ∧ p = ⟨seg, o, f, rp, c, e.1⟩ := by
  unfold qE at h
  split at h
  · rename_i h1
    split at h
    · rename_i h2
      cases h; exact ⟨by rw [← h1, ← h2], rfl⟩
    · cases h
  · cases h
/-- What is read is a path, and is printed as short as can be. -/
theorem read_ok {s : Str} {p : Pa} (h : parseP s = some p) : validP p = true ∧ (printP p).length ≤ s.length := by
  rw [parse_alike] at h
  unfold parseR at h
  split at h
  · cases h
  rename_i hl
  split at h
  · rename_i hname
    have hl3 := isName_len hname
    have hlen : s.length = 3 + (s.drop 3).length := by simp; omega
    revert h
    generalize s.drop 3 = t0 at hlen
    generalize s.take 3 = seg at hname hl3
    intro h
    unfold qA at h
    split at h
    · rename_i ha
      have ea := triple ha
      obtain ⟨ho, hol⟩ := step_sq ea
      split at h
      · cases h
        have hv : validP ⟨seg, (rstep t0 91).1, 0, 0, 0, 0⟩ = true := by unfold validP; simp only [hname, ho]; rfl
        refine ⟨hv, ?_⟩
        rw [printP_tail hv]; unfold tailP; simp only [if_true, List.length_append]; omega
      · split at h
        · rename_i hne h45
          have hq := h
          unfold qB at h
          by_cases hb : (rstep (rstep t0 91).2.1 45).2.2 = true
          · rw [if_pos hb] at h
            have eb := triple hb
            unfold qC at h
            by_cases hc : (rstep (rstep (rstep t0 91).2.1 45).2.1 91).2.2 = true
            · rw [if_pos hc] at h
              have ec := triple hc
              obtain ⟨hr, hrl⟩ := step_sq ec
              rcases step_sg (by decide) eb with ⟨_, _, hno⟩ | ⟨hfl, hfll⟩
              · exfalso
                cases hy : (rstep t0 91).2.1 with
                | nil => exact hne hy
                | cons c z =>
                  rw [hy] at h45
                  exact hno c z hy (by simpa using h45)
              unfold qD at h
              by_cases hd : (rstep (rstep (rstep (rstep t0 91).2.1 45).2.1 91).2.1 46).2.2 = true
              · rw [if_pos hd] at h
                generalize (rstep (rstep t0 91).2.1 45).1 = f at *
                generalize (rstep (rstep (rstep t0 91).2.1 45).2.1 91).1 = rp at *
                generalize (rstep t0 91).1 = o at *
                generalize (rstep (rstep (rstep t0 91).2.1 45).2.1 91).2.1 = y3 at *
                obtain ⟨⟨cn, y4, db⟩, ed⟩ : ∃ d, rstep y3 46 = d := ⟨_, rfl⟩
                rw [ed] at h hd
                simp only at h hd
                subst hd
                have hfb := inR_bnd hfl
                have key : ∀ sb : Int, inR cn = true → inR sb = true → (dt (decide (1 < cn) || decide (1 < sb)) cn).length + (dt (decide (1 < sb)) sb).length ≤ y3.length → p = ⟨seg, o, f, rp, cn, sb⟩ → validP p = true ∧ (printP p).length ≤ s.length := by
                  rintro sb hcn hsb hlen2 rfl
                  have hv : validP ⟨seg, o, f, rp, cn, sb⟩ = true := by unfold validP; simp only [hname, ho, hfl, hr, hcn, hsb]; simp
                  refine ⟨hv, ?_⟩
                  rw [printP_tail hv]; unfold tailP; simp only
                  rw [if_neg (by omega)]
                  simp only [List.length_append, List.length_cons]; omega
                rcases step_sg (by decide) ed with ⟨rfl, rfl, hno⟩ | ⟨hcn, hcl⟩
                · by_cases hy : y4 = []
                  · subst hy
                    rw [if_pos rfl] at h
                    obtain ⟨_, hp⟩ := qE_some h
                    exact key 1 (by decide) (by decide) (by simp [dt]) hp
                  · rw [if_neg hy, rstep_none hno] at h
                    obtain ⟨he, _⟩ := qE_some h
                    simp at he; exact absurd he hy
                · by_cases hy : y4 = []
                  · subst hy
                    rw [if_pos rfl] at h
                    obtain ⟨_, hp⟩ := qE_some h
                    refine key 1 hcn (by decide) ?_ hp
                    have : (dt (decide ((1 : Int) < 1)) 1).length = 0 := by simp [dt]
                    have h2 : (dt (decide (1 < cn) || decide ((1 : Int) < 1)) cn).length ≤ 1 + (dec cn.toNat).length := by unfold dt; split <;> simp; omega
                    omega
                  · rw [if_neg hy] at h
                    obtain ⟨he, hp⟩ := qE_some h
                    rcases step_sg (by decide) he with ⟨_, he2, _⟩ | ⟨hsn, hsl⟩
                    · exact absurd he2.symm hy
                    refine key _ hcn hsn ?_ hp
                    have h1 : ∀ (b : Bool) (n : Int), (dt b n).length ≤ 1 + (dec n.toNat).length := by intro b n; unfold dt; split <;> simp; omega
                    have h2 := h1 (decide (1 < cn) || decide (1 < (rstep y4 46).1)) cn
                    have h3 := h1 (decide (1 < (rstep y4 46).1)) (rstep y4 46).1
                    simp at hsl
                    omega
              · rw [if_neg hd, qE_bad] at h
                · cases h
                · exact Bool.eq_false_iff.2 hd
            · rw [if_neg hc, qD_bad] at h
              · cases h
              · exact Bool.eq_false_iff.2 hc
          · rw [if_neg hb, qC_bad] at h
            · cases h
            · exact Bool.eq_false_iff.2 hb
        · cases h
    · cases h
  · cases h
end Go.Proofs.YtoaoofobidhfjaaGreatDoor
