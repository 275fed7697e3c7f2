/- A number written in digits. -/
import Derived.Test.YtoaoofobidhfjaaGreatDoorQSQ
set_option linter.unusedSimpArgs false
set_option linter.unusedVariables false
namespace Go.Proofs.YtoaoofobidhfjaaGreatDoor
open Go.V Go.RowKit
def decF : Nat → Nat → Str
  | 0, _ => []
  | f + 1, n => if n < 10 then [UInt8.ofNat (48 + n)] else decF f (n / 10) ++ [UInt8.ofNat (48 + n % 10)]
def dec (n : Nat) : Str := decF 20 n
theorem decF_len : ∀ (f n : Nat), (decF f n).length ≤ f
  | 0, _ => by simp [decF]
  | f + 1, n => by
    unfold decF
    split
    · simp
    · have := decF_len f (n / 10); simp; omega
theorem dig_byte (d : Nat) (hd : d < 10) : IntKind.u8.wrap (48 + IntKind.u8.wrap (d : Int)) = ((UInt8.ofNat (48 + d)).toNat : Int) := by
  rw [wu8_id (x := (d : Int)) (by omega) (by omega), wu8_id (by omega) (by omega)]
  have : (UInt8.ofNat (48 + d)).toNat = 48 + d := by
    rw [UInt8.toNat_ofNat']; omega
  rw [this]; push_cast; rfl
theorem wu64_id {x : Int} (h0 : 0 ≤ x) (h1 : x < 18446744073709551616) : IntKind.u64.wrap x = x := by
  simp [IntKind.wrap, IntKind.signed, IntKind.bits]
  omega
end Go.Proofs.YtoaoofobidhfjaaGreatDoor
set_option linter.unusedSimpArgs false
set_option linter.unusedVariables false
namespace Go.Proofs.YtoaoofobidhfjaaGreatDoor
open Go.V Go.RowKit
end Go.Proofs.YtoaoofobidhfjaaGreatDoor
set_option linter.unusedSimpArgs false
set_option linter.unusedVariables false
namespace Go.Proofs.YtoaoofobidhfjaaGreatDoor
open Go.V Go.RowKit
def br (n : Int) : Str := if 1 < n then [91] ++ dec n.toNat ++ [93] else []
def dt (b : Bool) (n : Int) : Str := if b = true then [46] ++ dec n.toNat else []
def printP (p : Pa) : Str := if validP p = true then (if p.fld = 0 then p.seg ++ br p.occ else (((p.seg ++ br p.occ) ++ [45] ++ dec p.fld.toNat) ++ br p.rep) ++ dt (decide (1 < p.cmp) || decide (1 < p.sub)) p.cmp ++ dt (decide (1 < p.sub)) p.sub) else []
theorem dec_len (n : Nat) : (dec n).length ≤ 20 := decF_len 20 n
theorem br_len (n : Int) : (br n).length ≤ 22 := by unfold br; have := dec_len n.toNat; split <;> simp; omega
theorem dt_len (b : Bool) (n : Int) : (dt b n).length ≤ 21 := by unfold dt; have := dec_len n.toNat; split <;> simp; omega
theorem inR_bnd {n : Int} (h : inR n = true) : 1 ≤ n ∧ n ≤ 200 := by unfold inR at h; simpa using h
end Go.Proofs.YtoaoofobidhfjaaGreatDoor
set_option linter.unusedSimpArgs false
set_option linter.unusedVariables false
namespace Go.Proofs.YtoaoofobidhfjaaGreatDoor
open Go.V Go.RowKit
end Go.Proofs.YtoaoofobidhfjaaGreatDoor
set_option linter.unusedSimpArgs false
set_option linter.unusedVariables false
namespace Go.Proofs.YtoaoofobidhfjaaGreatDoor
open Go.V Go.RowKit
end Go.Proofs.YtoaoofobidhfjaaGreatDoor
set_option linter.unusedSimpArgs false
set_option linter.unusedVariables false
namespace Go.Proofs.YtoaoofobidhfjaaGreatDoor
open Go.V Go.RowKit
end Go.Proofs.YtoaoofobidhfjaaGreatDoor
set_option linter.unusedSimpArgs false
set_option linter.unusedVariables false
namespace Go.Proofs.YtoaoofobidhfjaaGreatDoor
open Go.V Go.RowKit
def zPa : Pa := ⟨[], 0, 0, 0, 0, 0⟩
def fin (seg : Str) (r : Int × Str × Bool) (p : Pa) : Option Pa := if r.2.2 = true then none else if r.2.1 = [] then (if isName seg = true then some p else none) else none
def pD (seg : Str) (o f rp : Int) (r : Int × Str × Bool) : Option Pa := fin seg (rnum [46] [] r.2.1 r.2.2) ⟨seg, o, f, rp, r.1, (rnum [46] [] r.2.1 r.2.2).1⟩
def pC (seg : Str) (o f : Int) (r : Int × Str × Bool) : Option Pa := if ([46] : Str).isPrefixOf r.2.1 = true then pD seg o f r.1 (rnum [46] [] r.2.1 r.2.2) else fin seg r ⟨seg, o, f, r.1, 1, 1⟩
def pB (seg : Str) (o : Int) (r : Int × Str × Bool) : Option Pa := pC seg o r.1 (rnum [91] [93] r.2.1 r.2.2)
def pA (seg : Str) (r : Int × Str × Bool) : Option Pa := if ([45] : Str).isPrefixOf r.2.1 = true then pB seg r.1 (rnum [45] [] r.2.1 r.2.2) else fin seg r ⟨seg, r.1, 0, 0, 0, 0⟩
def parseP (s : Str) : Option Pa := pA (s.take 3) (rnum [91] [93] (s.drop 3) false)
theorem fin_bad {seg : Str} {r : Int × Str × Bool} {p : Pa} (h : r.2.2 = true) : fin seg r p = none := by unfold fin; rw [if_pos h]
theorem fin_name {seg : Str} {r : Int × Str × Bool} {p : Pa} (h : isName seg = false) : fin seg r p = none := by
  unfold fin; rw [h]; split
  · rfl
  · split <;> simp
theorem fin_ok {seg : Str} (hn : isName seg = true) (n : Int) (y : Str) (p : Pa) : fin seg (n, y, false) p = if y = [] then some p else none := by
  unfold fin; rw [if_neg (by simp), if_pos hn]
end Go.Proofs.YtoaoofobidhfjaaGreatDoor
set_option linter.unusedSimpArgs false
set_option linter.unusedVariables false
namespace Go.Proofs.YtoaoofobidhfjaaGreatDoor
open Go.V Go.RowKit
def pp : Option Pa → Pa
  | none => zPa
  | some p => p
def pe : Option Pa → Int
  | none => 60
  | some _ => 0
def po (o : Option Pa) : Value := .tuple (List.toArray [.agg (List.toArray (pc (pp o))), .int .i64 (pe o)])
end Go.Proofs.YtoaoofobidhfjaaGreatDoor
set_option linter.unusedSimpArgs false
set_option linter.unusedVariables false
namespace Go.Proofs.YtoaoofobidhfjaaGreatDoor
open Go.V Go.RowKit
end Go.Proofs.YtoaoofobidhfjaaGreatDoor
set_option linter.unusedSimpArgs false
set_option linter.unusedVariables false
namespace Go.Proofs.YtoaoofobidhfjaaGreatDoor
open Go.V Go.RowKit
theorem newPa {w0 w1 : World} (f : Fr Non w0 w1) (p : Pa) {b : Nat} {w2 : World} (hb : b = w1.heap.size) (hw : w2 = w1.alloc (.cells (List.toArray (pc zPa)) 59)) :
    mayCells w2 ⟨b, 0, none⟩ 0 6 ∧ ∀ w3, w3 = setCells w2 ⟨b, 0, none⟩ 0 (pc p) → Blk w3 b 59 (pc p) ∧ Fr Non w1 w3 ∧ Fr Non w0 w3 := by
  have hB : Blk w2 b 59 (pc zPa) := hb ▸ hw ▸ Blk.new w1 (pc zPa) 59
  have f2 : Fr Non w1 w2 := hw ▸ (Fr.refl Non w1).alloc _
  refine ⟨mayCells_of hB 0 6 (by simp [pc]), ?_⟩
  rintro w3 rfl
  have f3 := f2.setAll hB (vs := pc p) rfl (fun h => absurd h (by omega))
  exact ⟨hB.setAll rfl, f3, f.trans' f3⟩
theorem patat {w : World} {b : Nat} {p : Pa} (h : Blk w b 59 (pc p)) : cellsAt w ⟨b, 0, none⟩ 0 (pc p) := h.ats (pc p) 0 0 (fun q v hq => by simpa using hq)
theorem al1 : parseP [80, 73, 68, 91, 50, 93, 45, 53, 46, 49, 46, 50] = some ⟨[80, 73, 68], 2, 5, 1, 1, 2⟩ := by kernel_rfl
theorem al2 : parseP [80, 73, 68, 45, 50, 46, 50] = some ⟨[80, 73, 68], 1, 2, 1, 2, 1⟩ := by kernel_rfl
theorem al3 : printP ⟨[80, 73, 68], 2, 5, 1, 1, 2⟩ = [80, 73, 68, 91, 50, 93, 45, 53, 46, 49, 46, 50] := by kernel_rfl
theorem al4 : validP ⟨[80, 73, 68], 1, 2, 1, 2, 1⟩ = true := by kernel_rfl
end Go.Proofs.YtoaoofobidhfjaaGreatDoor
set_option linter.unusedSimpArgs false
set_option linter.unusedVariables false
namespace Go.Proofs.YtoaoofobidhfjaaGreatDoor
open Go.V Go.RowKit
end Go.Proofs.YtoaoofobidhfjaaGreatDoor
set_option linter.unusedSimpArgs false
set_option linter.unusedVariables false
namespace Go.Proofs.YtoaoofobidhfjaaGreatDoor
open Go.V Go.RowKit
theorem plain_eq {p : Pa} (h : plain p = true) : p = ⟨p.seg, p.occ, 0, 0, 0, 0⟩ := by
  obtain ⟨a, b, c, d, e, f⟩ := p
  simp [plain] at h
  obtain ⟨rfl, rfl, rfl, rfl⟩ := h
  rfl
end Go.Proofs.YtoaoofobidhfjaaGreatDoor
