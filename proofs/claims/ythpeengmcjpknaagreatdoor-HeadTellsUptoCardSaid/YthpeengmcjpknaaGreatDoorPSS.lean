/- A number written in digits. -/
import Derived.Test.YthpeengmcjpknaaGreatDoorPSQ
set_option linter.unusedSimpArgs false
set_option linter.unusedVariables false
namespace Go.Proofs.YthpeengmcjpknaaGreatDoor
open Go.V Go.RowKit
def decF : Nat → Nat → Str
  | 0, _ => []
  | f + 1, n => if n < 10 then [UInt8.ofNat (48 + n)] else decF f (n / 10) ++ [UInt8.ofNat (48 + n % 10)]
def dec (n : Nat) : Str := decF 20 n
end Go.Proofs.YthpeengmcjpknaaGreatDoor
set_option linter.unusedSimpArgs false
set_option linter.unusedVariables false
namespace Go.Proofs.YthpeengmcjpknaaGreatDoor
open Go.V Go.RowKit
end Go.Proofs.YthpeengmcjpknaaGreatDoor
set_option linter.unusedSimpArgs false
set_option linter.unusedVariables false
namespace Go.Proofs.YthpeengmcjpknaaGreatDoor
open Go.V Go.RowKit
def br (n : Int) : Str := if 1 < n then [91] ++ dec n.toNat ++ [93] else []
def dt (b : Bool) (n : Int) : Str := if b = true then [46] ++ dec n.toNat else []
def printP (p : Pa) : Str := if validP p = true then (if p.fld = 0 then p.seg ++ br p.occ else (((p.seg ++ br p.occ) ++ [45] ++ dec p.fld.toNat) ++ br p.rep) ++ dt (decide (1 < p.cmp) || decide (1 < p.sub)) p.cmp ++ dt (decide (1 < p.sub)) p.sub) else []
theorem inR_bnd {n : Int} (h : inR n = true) : 1 ≤ n ∧ n ≤ 200 := by unfold inR at h; simpa using h
end Go.Proofs.YthpeengmcjpknaaGreatDoor
set_option linter.unusedSimpArgs false
set_option linter.unusedVariables false
namespace Go.Proofs.YthpeengmcjpknaaGreatDoor
open Go.V Go.RowKit
end Go.Proofs.YthpeengmcjpknaaGreatDoor
set_option linter.unusedSimpArgs false
set_option linter.unusedVariables false
namespace Go.Proofs.YthpeengmcjpknaaGreatDoor
open Go.V Go.RowKit
end Go.Proofs.YthpeengmcjpknaaGreatDoor
set_option linter.unusedSimpArgs false
set_option linter.unusedVariables false
namespace Go.Proofs.YthpeengmcjpknaaGreatDoor
open Go.V Go.RowKit
end Go.Proofs.YthpeengmcjpknaaGreatDoor
set_option linter.unusedSimpArgs false
set_option linter.unusedVariables false
namespace Go.Proofs.YthpeengmcjpknaaGreatDoor
open Go.V Go.RowKit
def zPa : Pa := ⟨[], 0, 0, 0, 0, 0⟩
def fin (seg : Str) (r : Int × Str × Bool) (p : Pa) : Option Pa := if r.2.2 = true then none else if r.2.1 = [] then (if isName seg = true then some p else none) else none
def pD (seg : Str) (o f rp : Int) (r : Int × Str × Bool) : Option Pa := fin seg (rnum [46] [] r.2.1 r.2.2) ⟨seg, o, f, rp, r.1, (rnum [46] [] r.2.1 r.2.2).1⟩
def pC (seg : Str) (o f : Int) (r : Int × Str × Bool) : Option Pa := if ([46] : Str).isPrefixOf r.2.1 = true then pD seg o f r.1 (rnum [46] [] r.2.1 r.2.2) else fin seg r ⟨seg, o, f, r.1, 1, 1⟩
end Go.Proofs.YthpeengmcjpknaaGreatDoor
set_option linter.unusedSimpArgs false
set_option linter.unusedVariables false
namespace Go.Proofs.YthpeengmcjpknaaGreatDoor
open Go.V Go.RowKit
end Go.Proofs.YthpeengmcjpknaaGreatDoor
set_option linter.unusedSimpArgs false
set_option linter.unusedVariables false
namespace Go.Proofs.YthpeengmcjpknaaGreatDoor
open Go.V Go.RowKit
end Go.Proofs.YthpeengmcjpknaaGreatDoor
set_option linter.unusedSimpArgs false
set_option linter.unusedVariables false
namespace Go.Proofs.YthpeengmcjpknaaGreatDoor
open Go.V Go.RowKit
theorem newPa {w0 w1 : World} (f : Fr Non w0 w1) (p : Pa) {b : Nat} {w2 : World} (hb : b = w1.heap.size) (hw : w2 = w1.alloc (.cells (List.toArray (pc zPa)) 28)) :
    mayCells w2 ⟨b, 0, none⟩ 0 6 ∧ ∀ w3, w3 = setCells w2 ⟨b, 0, none⟩ 0 (pc p) → Blk w3 b 28 (pc p) ∧ Fr Non w1 w3 ∧ Fr Non w0 w3 := by
  have hB : Blk w2 b 28 (pc zPa) := hb ▸ hw ▸ Blk.new w1 (pc zPa) 28
  have f2 : Fr Non w1 w2 := hw ▸ (Fr.refl Non w1).alloc _
  refine ⟨mayCells_of hB 0 6 (by simp [pc]), ?_⟩
  rintro w3 rfl
  have f3 := f2.setAll hB (vs := pc p) rfl (fun h => absurd h (by omega))
  exact ⟨hB.setAll rfl, f3, f.trans' f3⟩
theorem patat {w : World} {b : Nat} {p : Pa} (h : Blk w b 28 (pc p)) : cellsAt w ⟨b, 0, none⟩ 0 (pc p) := h.ats (pc p) 0 0 (fun q v hq => by simpa using hq)
end Go.Proofs.YthpeengmcjpknaaGreatDoor
set_option linter.unusedSimpArgs false
set_option linter.unusedVariables false
namespace Go.Proofs.YthpeengmcjpknaaGreatDoor
open Go.V Go.RowKit
end Go.Proofs.YthpeengmcjpknaaGreatDoor
set_option linter.unusedSimpArgs false
set_option linter.unusedVariables false
namespace Go.Proofs.YthpeengmcjpknaaGreatDoor
open Go.V Go.RowKit
theorem plain_eq {p : Pa} (h : plain p = true) : p = ⟨p.seg, p.occ, 0, 0, 0, 0⟩ := by
  obtain ⟨a, b, c, d, e, f⟩ := p
  simp [plain] at h
  obtain ⟨rfl, rfl, rfl, rfl⟩ := h
  rfl
end Go.Proofs.YthpeengmcjpknaaGreatDoor
