/- Parts of texts, in Go's library. -/
import Derived.Test.YthpeengmcjpknaaGreatDoorPFA
import Derived.Test.YthpeengmcjpknaaGreatDoorPFB
import Derived.Test.YthpeengmcjpknaaGreatDoorPFC
import Derived.Test.YthpeengmcjpknaaGreatDoorPFE
import Derived.Test.YthpeengmcjpknaaGreatDoorPVR
import Derived.Lib.BufferWrite
import Derived.Lib.UnsafeStr
import Derived.Test.YthpeengmcjpknaaGreatDoorPT
set_option linter.unusedSimpArgs false
set_option linter.unusedVariables false
namespace Go.Proofs.YthpeengmcjpknaaGreatDoor
open Go.V Go.RowKit
theorem upN {w w1 w2 : World} {F : Nat → Prop} (h : Fr Non w w1) (k : Fr F w1 w2) (hF : ∀ g, F g → w.heap.size ≤ g) : Fr Non w w2 := h.trans k fun b hb hf => by have := hF b hf; omega
theorem u8_eqc (c d : UInt8) : ((c.toNat : Int) == (d.toNat : Int)) = decide (c = d) := by
  rw [Bool.eq_iff_iff]
  simp only [beq_iff_eq, decide_eq_true_eq]
  exact ⟨fun h => UInt8.toNat_inj.1 (by omega), fun h => by rw [h]⟩
theorem sub_pre (s p : Str) : sub s 0 (p.length : Int) = s.take p.length := by simp [sub]
theorem sub_suf (s : Str) (j : Nat) : sub s (j : Int) (s.length : Int) = s.drop j := by
  unfold sub
  simp only [Int.toNat_natCast]
  exact List.take_of_length_le (by simp)
theorem pre_eq (s p : Str) : (s.take p.length == p) = p.isPrefixOf s := by
  rw [Bool.eq_iff_iff, beq_iff_eq, List.isPrefixOf_iff_prefix, List.prefix_iff_eq_take]
  exact ⟨fun h => h.symm, fun h => h.symm⟩
section
variable {w : World} {k : Value → World → Prop}
theorem hasPrefix_spec (s p : Str) (hk : k (.bool (p.isPrefixOf s)) w) : Cl Tryz.prog 271 [.string (mkS s), .string (mkS p)] w k := by
  refine f271_ok ?_
  unfold f271
  refine ⟨fun h => ⟨⟨by omega, by omega, by have := of_decide_eq_true h; omega⟩, ?_⟩, fun h => ?_⟩
  · rw [sub_pre, pre_eq]; exact hk
  · have h := of_decide_eq_false h
    have : p.isPrefixOf s = false := by
      rw [Bool.eq_false_iff]
      intro hp
      have := (List.isPrefixOf_iff_prefix.1 hp).length_le
      omega
    rw [this] at hk; exact hk
theorem strHasPrefix_spec (s p : Str) (hk : k (.bool (p.isPrefixOf s)) w) : Cl Tryz.prog 152 [.string (mkS s), .string (mkS p)] w k := by
  refine f152_ok ?_
  unfold f152
  exact hasPrefix_spec s p ⟨_, rfl, hk⟩
theorem cutPrefix_spec (s p : Str) (hk : k (.tuple (List.toArray [.string (mkS (if p.isPrefixOf s then s.drop p.length else s)), .bool (p.isPrefixOf s)])) w) : Cl Tryz.prog 300 [.string (mkS s), .string (mkS p)] w k := by
  refine f300_ok ?_
  unfold f300
  refine f329_ok ?_
  unfold f329
  refine hasPrefix_spec s p ⟨_, rfl, fun h => ?_, fun h => ?_⟩
  · have h : p.isPrefixOf s = false := by simpa using h
    rw [h] at hk
    exact ⟨s, false, rfl, hk⟩
  · have h : p.isPrefixOf s = true := by simpa using h
    rw [h] at hk
    have := (List.isPrefixOf_iff_prefix.1 h).length_le
    refine ⟨⟨by omega, by omega, by omega⟩, ?_⟩
    rw [sub_suf]
    exact ⟨_, true, rfl, hk⟩
end
end Go.Proofs.YthpeengmcjpknaaGreatDoor
set_option linter.unusedSimpArgs false
set_option linter.unusedVariables false
namespace Go.Proofs.YthpeengmcjpknaaGreatDoor
open Go.V Go.RowKit
theorem run_make {w : World} {P : Program} {t e : TypeId} {z : Value} {sz by_ : Nat} (ht : P.underlying t = some (.slice e)) (hs : Sz P e sz) (hz : Zr P e z) (hb : Bts P e by_) (n c : Int) (h0 : 0 ≤ n) (hc : n ≤ c) (hbig : (by_ : Int) * c ≤ 281474976710656) (h63 : c ≤ 9223372036854775807) :
    (Instr.makeSlice t (.int .i64 n) (.int .i64 c)).run P w = .ok (.slice (some ⟨w.heap.size, 0, none⟩) n.toNat c.toNat) (w.alloc (.cells (madeCells z.cells (c.toNat * sz)) e)) := by
  unfold Sz at hs
  unfold Zr at hz
  unfold Bts at hb
  obtain ⟨i, hi, rfl⟩ := Option.map_eq_some_iff.1 hs
  obtain ⟨i2, hi2, hz2⟩ := Option.bind_eq_some_iff.1 hz
  obtain ⟨i3, hi3, rfl⟩ := Option.map_eq_some_iff.1 hb
  rw [hi] at hi2 hi3
  cases hi2; cases hi3
  exact Go.run_make w t e i z ht hi hz2 .i64 .i64 n c h0 hc hbig h63
theorem Fr.row {F : Nat → Prop} {w w1 : World} (h : Fr F w w1) {g : Nat} (hg : g < w.heap.size → F g) (cs : Array Value) : Fr F w (w1.setRow g cs) :=
  ⟨h.os, h.tape, h.output, by rw [size_setRow]; exact h.size, fun b hb hF => by
    have hne : g ≠ b := fun e => by subst e; exact hF (hg hb)
    rw [← h.blk b hb hF]; simp [World.setRow, Array.getElem?_modify, hne]⟩
theorem Fr.freeze {F : Nat → Prop} {w w1 : World} (h : Fr F w w1) {a : Addr} (hg : a.block < w.heap.size → F a.block) (n : Nat) : Fr F w (w1.freeze a n) := by
  unfold World.freeze
  split
  · exact h
  · exact ⟨h.os, h.tape, h.output, by simp; exact h.size, fun b hb hF => by
      have hne : a.block ≠ b := fun e => by subst e; exact hF (hg hb)
      rw [← h.blk b hb hF]; simp [Array.getElem?_modify, hne]⟩
section
variable {w : World} {k : Value → World → Prop}
theorem clone_spec (s : Str) (hs : s.length ≤ 281474976710656) (hk : ∀ w', Fr Non w w' → k (.string (mkS s)) w') : Cl Tryz.prog 57 [.string (mkS s)] w k := by
  refine f57_ok ?_
  unfold f57
  refine f214_ok ?_
  unfold f214
  refine ⟨fun h => ?_, fun h => ?_⟩
  · have : s = [] := List.eq_nil_of_length_eq_zero (by simp at h; simp [h])
    subst this
    exact ⟨_, rfl, hk _ (Fr.refl _ _)⟩
  have hne : s ≠ [] := fun e => by simp [e] at h
  have hpos : 0 < s.length := List.length_pos_iff.2 hne
  have hu : Tryz.prog.underlying 141 = some (.slice 5) := by kernel_rfl
  have hsz : Sz Tryz.prog 5 1 := Sz.mk (by kernel_rfl)
  have hmk := run_make (w := w) (P := Tryz.prog) (t := 141) (e := 5) (z := .int .u8 0) (sz := 1) (by_ := 1) hu hsz (Zr.mk (by kernel_rfl)) (Bts.mk (by kernel_rfl)) (s.length : Int) (s.length : Int) (by omega) (by omega) (by omega) (by omega)
  obtain ⟨w1, hw1⟩ : ∃ w1, w1 = w.alloc (.cells (madeCells (Value.int .u8 0).cells (((s.length : Int)).toNat * 1)) 5) := ⟨_, rfl⟩
  rw [← hw1] at hmk
  have f1 : Fr Non w w1 := hw1 ▸ (Fr.refl Non w).alloc _
  have hg1 : w1.heap[w.heap.size]? = some (.cells (madeCells (Value.int .u8 0).cells (((s.length : Int)).toNat * 1)) 5 (0, 0)) := by rw [hw1]; exact heap_alloc_new w _
  have hcopy := Lib.run_copy_row_string (P := Tryz.prog) w1 141 9 3 5 w.heap.size 0 s.length s.length (mkS s) (madeCells (Value.int .u8 0).cells (((s.length : Int)).toNat * 1)) 5 hu hsz hg1 (by simp) (by simp [size_madeCells])
  obtain ⟨w2, hw2⟩ : ∃ w2, w2 = w1.setRow w.heap.size ((madeCells (Value.int .u8 0).cells (((s.length : Int)).toNat * 1)).toList.take 0 ++ Lib.byteCells (mkS s).data.toList ++ (madeCells (Value.int .u8 0).cells (((s.length : Int)).toNat * 1)).toList.drop (0 + (mkS s).size)).toArray := ⟨_, rfl⟩
  rw [← hw2] at hcopy
  have f2 : Fr Non w w2 := hw2 ▸ Fr.row f1 (fun h => absurd h (Nat.lt_irrefl _)) _
  have hB2 : Blk w2 w.heap.size 5 (bys s) := by
    have hr := setRow_heap w1 w.heap.size _ ((madeCells (Value.int .u8 0).cells (((s.length : Int)).toNat * 1)).toList.take 0 ++ Lib.byteCells (mkS s).data.toList ++ (madeCells (Value.int .u8 0).cells (((s.length : Int)).toNat * 1)).toList.drop (0 + (mkS s).size)).toArray 5 (0, 0) hg1
    rw [← hw2] at hr
    have e0 : (madeCells (Value.int .u8 0).cells (((s.length : Int)).toNat * 1)).toList.drop (0 + (mkS s).size) = [] := List.drop_of_length_le (by simp [size_madeCells])
    have ea : ((madeCells (Value.int .u8 0).cells (((s.length : Int)).toNat * 1)).toList.take 0 ++ Lib.byteCells (mkS s).data.toList ++ (madeCells (Value.int .u8 0).cells (((s.length : Int)).toNat * 1)).toList.drop (0 + (mkS s).size)).toArray = (bys s).toArray := by
      rw [e0]; simp [Lib.byteCells, bys]
    rw [ea] at hr
    exact hr
  have hun := Lib.run_unsafeString_row (P := Tryz.prog) (w := w2) 288 3 9 5 (by kernel_rfl) (by kernel_rfl) w.heap.size s.length (by unfold Blk at hB2; simp [World.shape?, hB2, bys]) s hne (Nat.le_refl _) (by omega) (fun j x hx => by rw [add_mk, Nat.zero_add]; exact hB2.cell (by simp [bys, hx]))
  refine ⟨⟨some ⟨w.heap.size, 0, none⟩, s.length, s.length⟩, w1, hmk, (s.length : Int), w2, ?_, ⟨w.heap.size, 0, none⟩, rfl, ⟨by omega, ?_⟩, s, _, hun, s, rfl, ?_⟩
  · simpa [goInt] using hcopy
  · show (0 : Int) < (s.length : Int)
    omega
  · exact hk _ (Fr.freeze f2 (fun h => absurd h (Nat.lt_irrefl _)) _)
end
end Go.Proofs.YthpeengmcjpknaaGreatDoor
set_option linter.unusedSimpArgs false
set_option linter.unusedVariables false
namespace Go.Proofs.YthpeengmcjpknaaGreatDoor
open Go.V Go.RowKit
def isDig (c : UInt8) : Bool := decide (48 ≤ c.toNat ∧ c.toNat ≤ 57)
def dval (s : Str) : Int := s.foldl (fun v c => 10 * v + ((c.toNat : Int) - 48)) 0
def numBad (s : Str) : Prop := s = [] ∨ 10 < s.length ∨ (1 < s.length ∧ s.getD 0 0 = 48)
instance (s : Str) : Decidable (numBad s) := by unfold numBad; infer_instance
def numOf (s : Str) : Int × Int := if numBad s then (0, 11) else if s.all isDig = true then (if 2147483647 < dval s then (0, 11) else (dval s, 0)) else (0, 11)
end Go.Proofs.YthpeengmcjpknaaGreatDoor
set_option linter.unusedSimpArgs false
set_option linter.unusedVariables false
namespace Go.Proofs.YthpeengmcjpknaaGreatDoor
open Go.V Go.RowKit
end Go.Proofs.YthpeengmcjpknaaGreatDoor
set_option linter.unusedSimpArgs false
set_option linter.unusedVariables false
namespace Go.Proofs.YthpeengmcjpknaaGreatDoor
open Go.V Go.RowKit
def setL (cs : Str) : List Value := (List.range 256).map fun i => .bool (decide (∃ c ∈ cs, c.toNat = i))
theorem setL_len (cs : Str) : (setL cs).length = 256 := by simp [setL]
theorem setL_get (cs : Str) {i : Nat} (hi : i < 256) : (setL cs)[i]? = some (.bool (decide (∃ c ∈ cs, c.toNat = i))) := by simp [setL, hi]
theorem setL_nil : setL [] = List.replicate 256 (.bool false) := by
  apply List.ext_getElem?
  intro i
  by_cases hi : i < 256
  · rw [setL_get [] hi, List.getElem?_replicate, if_pos hi]; congr 2
  · rw [List.getElem?_eq_none (by rw [setL_len]; omega), List.getElem?_eq_none (by rw [List.length_replicate]; omega)]
theorem setL_snoc (cs : Str) (c : UInt8) : (setL cs).set c.toNat (.bool true) = setL (cs ++ [c]) := by
  apply List.ext_getElem?
  intro i
  have hc := c.toNat_lt
  by_cases hi : i < 256
  · by_cases e : i = c.toNat
    · subst e
      rw [List.getElem?_set_self (by rw [setL_len]; exact hi), setL_get _ hi]
      congr 2
      symm
      rw [decide_eq_true_iff]
      exact ⟨c, by simp, rfl⟩
    · rw [List.getElem?_set_ne (fun h => e h.symm), setL_get _ hi, setL_get _ hi]
      congr 2
      rw [decide_eq_decide]
      constructor
      · rintro ⟨d, hd, h⟩; exact ⟨d, by simp [hd], h⟩
      · rintro ⟨d, hd, h⟩
        rcases List.mem_append.1 hd with hd | hd
        · exact ⟨d, hd, h⟩
        · simp at hd; subst hd; exact absurd h.symm e
  · rw [List.getElem?_eq_none (by simp [setL_len]; omega), List.getElem?_eq_none (by rw [setL_len]; omega)]
theorem setL_one (cs : Str) : (setL cs).all (·.oneCell') = true := by
  rw [List.all_eq_true]
  intro v hv
  simp only [setL, List.mem_map] at hv
  obtain ⟨i, _, rfl⟩ := hv
  rfl
def trimR (p : UInt8 → Bool) (s : Str) : Str := (s.reverse.dropWhile p).reverse
theorem trimR_snoc (p : UInt8 → Bool) (s : Str) (c : UInt8) : trimR p (s ++ [c]) = if p c then trimR p s else s ++ [c] := by
  unfold trimR
  rw [List.reverse_append]
  simp only [List.reverse_cons, List.reverse_nil, List.nil_append, List.singleton_append, List.dropWhile_cons]
  split <;> simp
theorem mem_nat (cs : Str) (c : UInt8) : decide (∃ d ∈ cs, d.toNat = c.toNat) = cs.contains c := by
  rw [Bool.eq_iff_iff, decide_eq_true_iff, List.contains_iff_mem]
  constructor
  · rintro ⟨d, hd, h⟩; have : d = c := UInt8.toNat_inj.1 h; exact this ▸ hd
  · intro h; exact ⟨c, h, rfl⟩
section
variable {w : World} {k : Value → World → Prop}
theorem makeset_spec (cs : Str) (hl : cs.length ≤ 1000000) (ha : ∀ c ∈ cs, c.toNat < 128) (hk : ∀ w', Fr Non w w' → k (.tuple (List.toArray [.agg (List.toArray (setL cs)), .bool true])) w') : Cl Tryz.prog 312 [.string (mkS cs)] w k := by
  refine f312_ok ?_
  unfold f312
  rintro b2 w3 rfl hw3
  have f3 : Fr Non w w3 := hw3 ▸ (Fr.refl Non w).alloc _
  have hB3 : Blk w3 w.heap.size 313 (setL []) := by rw [setL_nil]; exact hw3 ▸ Blk.new w _ _
  refine ⟨fun m i w' => ∃ j : Nat, i = j ∧ j ≤ cs.length ∧ m = cs.length - j ∧ Blk w' w.heap.size 313 (setL (cs.take j)) ∧ Fr Non w w', ⟨cs.length, 0, rfl, by omega, by omega, hB3, f3⟩, ?_⟩
  rintro m i w8 ⟨j, rfl, hj, rfl, hB, hf⟩
  refine ⟨fun h => ?_, fun h => ?_⟩
  · have hjl : j < cs.length := by have := of_decide_eq_true h; omega
    have e1 : cs.getD ((j : Int)).toNat 0 = cs[j] := by simp [hjl]
    have hlt := ha cs[j] (List.getElem_mem hjl)
    rw [e1]
    refine ⟨⟨by omega, by omega⟩, fun h => by have := of_decide_eq_true h; omega, fun _ => ⟨⟨by omega, by omega⟩, ?_⟩⟩
    have ea : (⟨w.heap.size, 0, none⟩ : Addr).add (((cs[j].toNat : Int)).toNat * 1) = ⟨w.heap.size, cs[j].toNat, none⟩ := by rw [add_mk]; simp
    rw [ea]
    refine ⟨hB.isS (by rw [setL_len]; omega), hB.free _, ?_⟩
    rintro w12 rfl
    refine ⟨cs.length - (j + 1), by omega, j + 1, by rw [w64_id (by omega) (by omega)]; push_cast; rfl, by omega, rfl, ?_, hf.set (a := ⟨w.heap.size, cs[j].toNat, none⟩) (fun h => absurd h (Nat.lt_irrefl _)) _⟩
    have := hB.set cs[j].toNat (.bool true)
    rw [setL_snoc] at this
    rw [List.take_succ_eq_append_getElem hjl]; exact this
  · obtain rfl : j = cs.length := by have := of_decide_eq_false h; omega
    rw [List.take_length] at hB
    refine ⟨setL cs, setL_len cs, hB.ats _ 0 0 (fun q v hq => by simpa using hq), setL_len cs, setL_one cs, mayCells_of hB 0 _ (by omega), ?_⟩
    rintro w14 rfl
    exact ⟨setL cs, setL_len cs, (hB.setAll rfl).ats _ 0 0 (fun q v hq => by simpa using hq), hk _ (hf.setAll hB rfl (fun h => absurd h (Nat.lt_irrefl _)))⟩
theorem contains_spec {b : Nat} {cs : Str} (c : UInt8) (hB : Blk w b 313 (setL cs)) (hk : k (.bool (cs.contains c)) w) : Cl Tryz.prog 331 [.pointer (some ⟨b, 0, none⟩), .int .u8 (c.toNat : Int)] w k := by
  refine f331_ok ?_
  unfold f331
  have hc := c.toNat_lt
  refine ⟨_, rfl, ⟨by omega, by omega⟩, cs.contains c, ?_, hk⟩
  rw [add_mk, Nat.zero_add]
  refine hB.cell ?_
  simp only [Int.toNat_natCast, Nat.mul_one]
  rw [setL_get cs hc, mem_nat]
theorem trimLeftASCII_spec {b : Nat} {cs : Str} (s : Str) (hB : Blk w b 313 (setL cs)) (hk : k (.string (mkS (s.dropWhile cs.contains))) w) : Cl Tryz.prog 313 [.string (mkS s), .pointer (some ⟨b, 0, none⟩)] w k := by
  refine f313_ok ?_
  unfold f313
  refine ⟨fun t w' => w' = w ∧ t = s.dropWhile cs.contains, fun t w' ⟨e1, e2⟩ => by subst e1 e2; exact hk, ?_⟩
  refine ⟨fun m t w' => m = t.length ∧ w' = w ∧ t.dropWhile cs.contains = s.dropWhile cs.contains, ⟨s.length, rfl, rfl, rfl⟩, ?_⟩
  rintro m t w' ⟨rfl, rfl, ht⟩
  refine ⟨fun h => ?_, fun h => ?_⟩
  · have h := of_decide_eq_true h
    cases t with
    | nil => simp at h
    | cons d t =>
      refine ⟨⟨by omega, h⟩, ?_⟩
      rw [show (d :: t).getD ((0 : Int)).toNat 0 = d from rfl]
      refine contains_spec d hB ⟨_, rfl, fun hn => ⟨rfl, ?_⟩, fun hn => ⟨⟨by omega, by simp; omega, by omega⟩, t.length, by simp, ?_⟩⟩
      · have hn : cs.contains d = false := by simpa using hn
        rw [← ht, List.dropWhile_cons, if_neg (by rw [hn]; simp)]
      · have hn : cs.contains d = true := by simpa using hn
        rw [show (1 : Int) = ((1 : Nat) : Int) from rfl, sub_suf]
        exact ⟨rfl, rfl, by rw [← ht, List.dropWhile_cons, if_pos hn]; rfl⟩
  · have h := of_decide_eq_false h
    cases t with
    | nil => exact ⟨rfl, by rw [← ht]; rfl⟩
    | cons d t => exact absurd h (by simp)
theorem trimRightASCII_spec {b : Nat} {cs : Str} (s : Str) (hs : s.length ≤ 1000000000000000) (hB : Blk w b 313 (setL cs)) (hk : k (.string (mkS (trimR cs.contains s))) w) : Cl Tryz.prog 314 [.string (mkS s), .pointer (some ⟨b, 0, none⟩)] w k := by
  refine f314_ok ?_
  unfold f314
  refine ⟨fun t w' => w' = w ∧ t = trimR cs.contains s, fun t w' ⟨e1, e2⟩ => by subst e1 e2; exact hk, ?_⟩
  refine ⟨fun m t w' => m = t.length ∧ w' = w ∧ trimR cs.contains t = trimR cs.contains s ∧ t.length ≤ s.length, ⟨s.length, rfl, rfl, rfl, Nat.le_refl _⟩, ?_⟩
  rintro m t w' ⟨rfl, rfl, ht, htl⟩
  refine ⟨fun h => ?_, fun h => ?_⟩
  · have h := of_decide_eq_true h
    obtain ⟨u, d, rfl⟩ : ∃ u d, t = u ++ [d] := ⟨t.dropLast, t.getLast (by intro e; simp [e] at h), (List.dropLast_concat_getLast _).symm⟩
    have hul : (u ++ [d]).length = u.length + 1 := by simp
    have ei : IntKind.i64.wrap (((u ++ [d]).length : Int) - 1) = (u.length : Int) := by rw [hul, w64_id (by omega) (by omega)]; push_cast; omega
    rw [ei]
    refine ⟨⟨by omega, by omega⟩, ?_⟩
    rw [show (u ++ [d]).getD ((u.length : Int)).toNat 0 = d from by simp]
    refine contains_spec d hB ⟨_, rfl, fun hn => ⟨rfl, ?_⟩, fun hn => ⟨⟨by omega, by omega, by omega⟩, u.length, by omega, ?_⟩⟩
    · have hn : cs.contains d = false := by simpa using hn
      rw [← ht, trimR_snoc, if_neg (by rw [hn]; simp)]
    · have hn : cs.contains d = true := by simpa using hn
      have es : sub (u ++ [d]) 0 (u.length : Int) = u := by simp [sub]
      rw [es]
      exact ⟨rfl, rfl, by rw [← ht, trimR_snoc, if_pos hn], by omega⟩
  · have h := of_decide_eq_false h
    have : t = [] := List.eq_nil_of_length_eq_zero (by omega)
    subst this
    exact ⟨rfl, by rw [← ht]; rfl⟩
theorem trim_spec (s cs : Str) (hs : s.length ≤ 1000000000000000) (hl : cs.length ≤ 1000000) (h2 : 2 ≤ cs.length) (ha : ∀ c ∈ cs, c.toNat < 128) (hk : ∀ w', Fr Non w w' → k (.string (mkS ((trimR cs.contains s).dropWhile cs.contains))) w') : Cl Tryz.prog 270 [.string (mkS s), .string (mkS cs)] w k := by
  refine f270_ok ?_
  unfold f270
  have hcs : cs ≠ [] := fun e => by simp [e] at h2
  refine ⟨fun v w' => w' = w ∧ v = decide (s = []), ?_, fun h => ⟨rfl, ?_⟩, fun h => ⟨rfl, ?_⟩⟩
  case refine_2 => have h : s = [] := by simpa using h
                   simp [h]
  case refine_3 => have h : ¬ s = [] := by simpa using h
                   simp [h, hcs]
  rintro v w5 ⟨rfl, rfl⟩
  refine ⟨fun h => ?_, fun h => ?_⟩
  · have h := of_decide_eq_true h
    subst h
    exact hk _ (Fr.refl _ _)
  refine ⟨fun v w' => w' = w5 ∧ v = false, ?_, fun h => by simp at h; omega, fun _ => ⟨rfl, rfl⟩⟩
  rintro v w8 ⟨rfl, rfl⟩
  refine ⟨fun h => by simp at h, fun _ => ?_⟩
  refine makeset_spec cs hl ha fun w1 f1 => ⟨setL cs, true, rfl, ?_⟩
  rintro b20 w21 rfl hw21
  have hB0 : Blk w21 w1.heap.size 313 (List.replicate 256 (.bool false)) := hw21 ▸ Blk.new w1 _ _
  have f21 : Fr Non w1 w21 := hw21 ▸ (Fr.refl Non w1).alloc _
  refine ⟨setL_len cs, setL_one cs, mayCells_of hB0 0 _ (by rw [setL_len, List.length_replicate]; omega), ?_⟩
  rintro w22 hw22
  have hB : Blk w22 w1.heap.size 313 (setL cs) := hw22 ▸ hB0.setAll (by rw [setL_len, List.length_replicate])
  have f22 : Fr Non w1 w22 := hw22 ▸ f21.setAll hB0 (by rw [setL_len, List.length_replicate]) (fun h => absurd h (Nat.lt_irrefl _))
  refine ⟨fun _ => ?_, fun h => by simp at h⟩
  exact trimRightASCII_spec s hs hB ⟨_, rfl, trimLeftASCII_spec _ hB ⟨_, rfl, hk _ (upN f1 f22 (fun g hg => hg.elim))⟩⟩
end
end Go.Proofs.YthpeengmcjpknaaGreatDoor
set_option linter.unusedSimpArgs false
set_option linter.unusedVariables false
namespace Go.Proofs.YthpeengmcjpknaaGreatDoor
open Go.V Go.RowKit
def great (c : UInt8) : Bool := decide (65 ≤ c.toNat ∧ c.toNat ≤ 90)
def nmSet : Str := [65, 66, 67, 68, 69, 70, 71, 72, 73, 74, 75, 76, 77, 78, 79, 80, 81, 82, 83, 84, 85, 86, 87, 88, 89, 90, 48, 49, 50, 51, 52, 53, 54, 55, 56, 57]
def nmc (c : UInt8) : Bool := great c || isDig c
theorem nm_fin : ∀ n : Fin 256, nmSet.contains (UInt8.ofNat n.val) = nmc (UInt8.ofNat n.val) := by decide +kernel
theorem nm_contains (c : UInt8) : nmSet.contains c = nmc c := by
  have := nm_fin ⟨c.toNat, c.toNat_lt⟩
  simpa using this
def isName (s : Str) : Bool := decide (s.length = 3) && (great (s.getD 0 0) && s.all nmc)
theorem tw_all (p : UInt8 → Bool) : ∀ (s : Str), ∀ c ∈ s.takeWhile p, p c = true
  | [], c, h => by simp at h
  | d :: s, c, h => by
    rw [List.takeWhile_cons] at h
    split at h
    · rename_i hd
      rcases List.mem_cons.1 h with rfl | h
      · exact hd
      · exact tw_all p s c h
    · simp at h
theorem dw_nil (p : UInt8 → Bool) : ∀ (s : Str), (∀ c ∈ s, p c = true) → s.dropWhile p = []
  | [], _ => rfl
  | d :: s, h => by rw [List.dropWhile_cons, if_pos (h d (by simp))]; exact dw_nil p s (fun c hc => h c (by simp [hc]))
theorem trim_all (p : UInt8 → Bool) (s : Str) : ((trimR p s).dropWhile p == []) = s.all p := by
  rw [Bool.eq_iff_iff, beq_iff_eq]
  constructor
  · intro h
    have h1 : (trimR p s).all p = true := by
      rw [List.all_eq_true]
      intro c hc
      have := List.takeWhile_append_dropWhile (p := p) (l := trimR p s)
      rw [h, List.append_nil] at this
      rw [← this] at hc
      exact tw_all p _ c hc
    have h2 : trimR p s = [] := by
      by_cases he : trimR p s = []
      · exact he
      · exfalso
        have hne : s.reverse.dropWhile p ≠ [] := fun e => he (by simp [trimR, e])
        have hh := List.head_dropWhile_not p hne
        have hm : (s.reverse.dropWhile p).head hne ∈ trimR p s := by unfold trimR; rw [List.mem_reverse]; exact List.head_mem hne
        have := List.all_eq_true.1 h1 _ hm
        rw [this] at hh; cases hh
    have h3 : s.reverse.dropWhile p = [] := by simpa [trimR] using h2
    rw [List.all_eq_true]
    intro c hc
    have := List.takeWhile_append_dropWhile (p := p) (l := s.reverse)
    rw [h3, List.append_nil] at this
    have hc' : c ∈ s.reverse.takeWhile p := by rw [this]; simpa using hc
    exact tw_all p _ c hc'
  · intro h
    have h3 : s.reverse.dropWhile p = [] := by
      refine dw_nil p _ fun c hc => ?_
      exact List.all_eq_true.1 h c (by simpa using hc)
    simp [trimR, h3]
section
variable {w : World} {k : Value → World → Prop}
theorem isName_spec (s : Str) (hs : s.length ≤ 1000000000000000) (hk : ∀ w', Fr Non w w' → k (.bool (isName s)) w') : Cl Tryz.prog 151 [.string (mkS s)] w k := by
  refine f151_ok ?_
  unfold f151
  refine ⟨fun v w' => w' = w ∧ v = !(decide (s.length = 3) && great (s.getD 0 0)), ?_, fun h => ⟨rfl, ?_⟩, fun h => ⟨⟨by omega, ?_⟩, fun h2 => ⟨rfl, ?_⟩, fun h2 => ⟨⟨by omega, ?_⟩, rfl, ?_⟩⟩⟩
  case refine_2 =>
    have h : ¬ s.length = 3 := fun e => by simp [e] at h
    simp [h]
  case refine_3 =>
    have h : s.length = 3 := by simp at h; omega
    omega
  case refine_4 =>
    have h2 := of_decide_eq_true h2
    have : great (s.getD 0 0) = false := by
      rw [show s.getD ((0 : Int)).toNat 0 = s.getD 0 0 from rfl] at h2
      simp only [great, decide_eq_false_iff_not]
      omega
    rw [this]; simp
  case refine_5 =>
    have h : s.length = 3 := by simp at h; omega
    omega
  case refine_6 =>
    have h : s.length = 3 := by simp at h; omega
    have h2 := of_decide_eq_false h2
    have e0 : s.getD ((0 : Int)).toNat 0 = s.getD 0 0 := rfl
    rw [e0] at h2 ⊢
    by_cases h3 : (90 : Int) < ((s.getD 0 0).toNat : Int)
    · have : great (s.getD 0 0) = false := by simp only [great, decide_eq_false_iff_not]; omega
      rw [this, decide_eq_true h3]; simp
    · have : great (s.getD 0 0) = true := by simp only [great, decide_eq_true_eq]; omega
      rw [this, decide_eq_false h3, decide_eq_true h]; rfl
  rintro v w4 ⟨rfl, rfl⟩
  refine ⟨fun h => ?_, fun h => ?_⟩
  · have h : (decide (s.length = 3) && great (s.getD 0 0)) = false := (Bool.not_eq_true' _).mp h
    have e : isName s = false := by unfold isName; rw [← Bool.and_assoc, h]; rfl
    have := hk w4 (Fr.refl _ _)
    rw [e] at this; exact this
  · have h : (decide (s.length = 3) && great (s.getD 0 0)) = true := (Bool.not_eq_false' _).mp h
    have e : isName s = s.all nmc := by unfold isName; rw [← Bool.and_assoc, h]; rfl
    refine trim_spec s nmSet hs (by decide) (by decide) (by decide) fun w1 f1 => ⟨_, rfl, ?_⟩
    have hf : nmSet.contains = nmc := funext nm_contains
    rw [trim_all, hf, ← e]
    exact hk _ f1
theorem rname_spec (s : Str) (hs : s.length ≤ 1000000000000000) (hk : k (.bool (isName s)) w) : Cl Tryz.prog 143 [.string (mkS s)] w k := by
  refine f143_ok ?_
  unfold f143
  refine ⟨fun h => ?_, fun h => ?_⟩
  · have h : ¬ s.length = 3 := fun e => by simp [e] at h
    have e : isName s = false := by simp [isName, h]
    rw [e] at hk; exact hk
  have h : s.length = 3 := by simp at h; omega
  let ok : Nat → Bool := fun q => great (s.getD q 0) || (!(decide (q = 0)) && isDig (s.getD q 0))
  have hname : isName s = (ok 0 && (ok 1 && ok 2)) := by
    obtain ⟨a, b, c, rfl⟩ : ∃ a b c, s = [a, b, c] := by
      match s, h with
      | [a, b, c], _ => exact ⟨a, b, c, rfl⟩
    simp only [isName, ok, nmc, List.length_cons, List.length_nil, List.all_cons, List.all_nil, List.getD_cons_zero, List.getD_cons_succ]
    cases great a <;> cases great b <;> cases great c <;> cases isDig a <;> cases isDig b <;> cases isDig c <;> rfl
  refine ⟨fun m i w' => ∃ j : Nat, i = j ∧ j ≤ 3 ∧ m = 3 - j ∧ w' = w ∧ ∀ q, q < j → ok q = true, ⟨3, 0, rfl, by omega, by omega, rfl, fun q hq => by omega⟩, ?_⟩
  rintro m i w6 ⟨j, rfl, hj, rfl, rfl, hall⟩
  refine ⟨fun hlt => ?_, fun hge => ?_⟩
  · have hjl : j < 3 := by have := of_decide_eq_true hlt; omega
    have e0 : s.getD ((j : Int)).toNat 0 = s.getD j 0 := rfl
    simp only [e0]
    refine ⟨fun v w' => w' = w6 ∧ v = great (s.getD j 0), ?_, ⟨by omega, by omega⟩, fun h => ⟨⟨by omega, by omega⟩, rfl, ?_⟩, fun h => ⟨rfl, ?_⟩⟩
    case refine_2 => have h := of_decide_eq_true h
                     simp only [great, decide_eq_decide]; omega
    case refine_3 => have h := of_decide_eq_false h
                     symm; simp only [great, decide_eq_false_iff_not]; omega
    rintro gr w9 ⟨rfl, rfl⟩
    refine ⟨fun v w' => w' = w9 ∧ v = isDig (s.getD j 0), ?_, ⟨by omega, by omega⟩, fun h => ⟨⟨by omega, by omega⟩, rfl, ?_⟩, fun h => ⟨rfl, ?_⟩⟩
    case refine_2 => have h := of_decide_eq_true h
                     simp only [isDig, decide_eq_decide]; omega
    case refine_3 => have h := of_decide_eq_false h
                     symm; simp only [isDig, decide_eq_false_iff_not]; omega
    rintro dg w12 ⟨rfl, rfl⟩
    refine ⟨fun v w' => w' = w12 ∧ v = !ok j, ?_, fun h => ⟨fun h2 => ⟨rfl, ?_⟩, fun h2 => ⟨rfl, ?_⟩⟩, fun h => ⟨rfl, ?_⟩⟩
    · rintro v w15 ⟨rfl, rfl⟩
      refine ⟨fun hb => ?_, fun hb => ?_⟩
      · have hb : ok j = false := by simpa using hb
        have e : isName s = false := by
          rw [hname]
          have : j = 0 ∨ j = 1 ∨ j = 2 := by omega
          rcases this with rfl | rfl | rfl <;> simp [hb]
        rw [e] at hk; exact hk
      · have hb : ok j = true := by simpa using hb
        refine ⟨3 - (j + 1), by omega, j + 1, by rw [w64_id (by omega) (by omega)]; push_cast; rfl, by omega, rfl, rfl, fun q hq => ?_⟩
        by_cases hqj : q = j
        · rw [hqj]; exact hb
        · exact hall q (by omega)
    · have h : great (s.getD j 0) = false := by simpa using h
      have h2 : j = 0 := by simpa using h2
      subst h2
      simp only [ok, h]; rfl
    · have h : great (s.getD j 0) = false := by simpa using h
      have h2 : ¬ j = 0 := by simpa using h2
      simp only [ok, h, h2]; simp
    · have h : great (s.getD j 0) = true := by simpa using h
      simp only [ok, h]; rfl
  · obtain rfl : j = 3 := by have := of_decide_eq_false hge; omega
    have e : isName s = true := by rw [hname, hall 0 (by omega), hall 1 (by omega), hall 2 (by omega)]; rfl
    rw [e] at hk; exact hk
end
end Go.Proofs.YthpeengmcjpknaaGreatDoor
set_option linter.unusedSimpArgs false
set_option linter.unusedVariables false
namespace Go.Proofs.YthpeengmcjpknaaGreatDoor
open Go.V Go.RowKit
structure Pa where
  seg : Str
  occ : Int
  fld : Int
  rep : Int
  cmp : Int
  sub : Int
def pc (p : Pa) : List Value := [.string (mkS p.seg), .int .i64 p.occ, .int .i64 p.fld, .int .i64 p.rep, .int .i64 p.cmp, .int .i64 p.sub]
def inR (n : Int) : Bool := decide (1 ≤ n) && decide (n ≤ 200)
def plain (p : Pa) : Bool := (p.fld == 0) && ((p.rep == 0) && ((p.cmp == 0) && ((p.sub == 0) && true)))
def validP (p : Pa) : Bool := (isName p.seg && inR p.occ) && (plain p || (inR p.fld && (inR p.rep && (inR p.cmp && inR p.sub))))
section
variable {w : World} {k : Value → World → Prop}
theorem in_spec (n : Int) (hk : k (.bool (inR n)) w) : Cl Tryz.prog 211 [.int .i64 n] w k := by
  refine f211_ok ?_
  unfold f211
  unfold inR at hk
  refine ⟨fun h => ?_, fun h => ?_⟩
  · rw [h] at hk; exact hk
  · rw [h] at hk; exact hk
theorem valid_spec (p : Pa) (hs : p.seg.length ≤ 1000000000000000) (hk : ∀ w', Fr Non w w' → k (.bool (validP p)) w') : Cl Tryz.prog 52 [.agg (List.toArray (pc p))] w k := by
  refine f52_ok ?_
  unfold f52
  rintro b7 w8 rfl hw8
  have f8 : Fr Non w w8 := hw8 ▸ (Fr.refl Non w).alloc _
  have hB : Blk w8 w.heap.size 28 (pc p) := hw8 ▸ Blk.new w (pc p) 28
  refine ⟨fun v w' => v = !(isName p.seg && inR p.occ) ∧ Fr Non w8 w', ?_, p.seg, hB.cell rfl, ?_⟩
  · rintro v w1 ⟨rfl, f1⟩
    have g1 := upN f8 f1 (fun g hg => hg.elim)
    have hB1 := hB.fr f1 (fun h => h)
    refine ⟨fun h => ?_, fun h => ?_⟩
    · have h := (Bool.not_eq_true' _).mp h
      have e : validP p = false := by unfold validP; rw [h]; rfl
      have := hk w1 g1
      rw [e] at this; exact this
    have h := (Bool.not_eq_false' _).mp h
    have ev : validP p = (plain p || (inR p.fld && (inR p.rep && (inR p.cmp && inR p.sub)))) := by unfold validP; rw [h]; rfl
    have hk1 := hk w1 g1
    rw [ev] at hk1
    refine ⟨p.seg, p.occ, p.fld, p.rep, p.cmp, p.sub, hB1.ats (pc p) 0 0 (fun q v hq => by simpa using hq), p.seg, hB1.cell rfl, p.occ, by rw [add_mk]; exact hB1.cell rfl, fun hp => ?_, fun hp => ?_⟩
    · have hp : plain p = true := by simpa [plain] using hp
      rw [hp] at hk1; exact hk1
    · have hp : plain p = false := by
        cases hq : plain p
        · rfl
        · exfalso; unfold plain at hq; rw [hq] at hp; simp at hp
      rw [hp, Bool.false_or] at hk1
      refine ⟨p.fld, by rw [add_mk]; exact hB1.cell rfl, in_spec _ ⟨_, rfl, fun h1 => ?_, fun h1 => by rw [h1] at hk1; exact hk1⟩⟩
      rw [h1, Bool.true_and] at hk1
      refine ⟨p.rep, by rw [add_mk]; exact hB1.cell rfl, in_spec _ ⟨_, rfl, fun h1 => ?_, fun h1 => by rw [h1] at hk1; exact hk1⟩⟩
      rw [h1, Bool.true_and] at hk1
      refine ⟨p.cmp, by rw [add_mk]; exact hB1.cell rfl, in_spec _ ⟨_, rfl, fun h1 => ?_, fun h1 => by rw [h1] at hk1; exact hk1⟩⟩
      rw [h1, Bool.true_and] at hk1
      exact ⟨p.sub, by rw [add_mk]; exact hB1.cell rfl, in_spec _ ⟨_, rfl, hk1⟩⟩
  · refine isName_spec p.seg hs fun w1 f1 => ⟨_, rfl, fun h => ?_, fun h => ?_⟩
    · have h := (Bool.not_eq_true' _).mp h
      exact ⟨by rw [h]; rfl, f1⟩
    · have h := (Bool.not_eq_false' _).mp h
      refine ⟨p.occ, by rw [add_mk]; exact (hB.fr f1 (fun h => h)).cell rfl, in_spec _ ⟨_, rfl, ?_, f1⟩⟩
      rw [h]; rfl
theorem decide_two (x : Int) : ((!decide (x < 1)) && !decide (200 < x)) = inR x := by
  unfold inR
  by_cases h1 : x < 1 <;> by_cases h2 : 200 < x <;> simp [h1, h2] <;> omega
theorem rvalid_spec (p : Pa) (hs : p.seg.length ≤ 1000000000000000) (hk : ∀ w', Fr Non w w' → k (.bool (validP p)) w') : Cl Tryz.prog 61 [.agg (List.toArray (pc p))] w k := by
  refine f61_ok ?_
  unfold f61
  rintro b7 w8 rfl hw8
  have f8 : Fr Non w w8 := hw8 ▸ (Fr.refl Non w).alloc _
  have hB : Blk w8 w.heap.size 28 (pc p) := hw8 ▸ Blk.new w (pc p) 28
  refine ⟨fun v w' => v = !(isName p.seg && inR p.occ) ∧ w' = w8, ?_, p.seg, hB.cell rfl, ?_⟩
  · rintro v w1 ⟨rfl, rfl⟩
    have hk1 := hk w1 f8
    refine ⟨fun h => ?_, fun h => ?_⟩
    · have h := (Bool.not_eq_true' _).mp h
      have e : validP p = false := by unfold validP; rw [h]; rfl
      rw [e] at hk1; exact hk1
    have h := (Bool.not_eq_false' _).mp h
    have ev : validP p = (plain p || (inR p.fld && (inR p.rep && (inR p.cmp && inR p.sub)))) := by unfold validP; rw [h]; rfl
    refine ⟨p.fld, by rw [add_mk]; exact hB.cell rfl, fun h0 => ?_, fun h0 => ?_⟩
    · have nf : inR p.fld = false := by have : p.fld = 0 := by simpa using h0
                                        rw [this]; rfl
      have ev2 : validP p = ((p.rep == 0) && ((p.cmp == 0) && (p.sub == 0))) := by rw [ev, nf]; simp only [plain, h0, Bool.true_and, Bool.and_true, Bool.false_and, Bool.or_false]
      rw [ev2] at hk1
      refine ⟨p.rep, by rw [add_mk]; exact hB.cell rfl, fun h1 => ?_, fun h1 => by rw [h1] at hk1; exact hk1⟩
      rw [h1, Bool.true_and] at hk1
      refine ⟨p.cmp, by rw [add_mk]; exact hB.cell rfl, fun h1 => ?_, fun h1 => by rw [h1] at hk1; exact hk1⟩
      rw [h1, Bool.true_and] at hk1
      exact ⟨p.sub, by rw [add_mk]; exact hB.cell rfl, hk1⟩
    · have np : plain p = false := by unfold plain; rw [h0]; rfl
      rw [ev, np, Bool.false_or] at hk1
      refine ⟨p.fld, by rw [add_mk]; exact hB.cell rfl, p.rep, by rw [add_mk]; exact hB.cell rfl, p.cmp, by rw [add_mk]; exact hB.cell rfl, p.sub, by rw [add_mk]; exact hB.cell rfl, ?_⟩
      rintro b26 w27 rfl hw27
      have f27 : Fr Non w1 w27 := hw27 ▸ (Fr.refl Non w1).alloc _
      have hA := Blk.new w1 [.int .i64 0, .int .i64 0, .int .i64 0, .int .i64 0] 206
      rw [← hw27] at hA
      refine ⟨mayCells_of hA 0 4 (by simp), ?_⟩
      rintro w28 hw28
      have hA2 : Blk w28 w1.heap.size 206 [.int .i64 p.fld, .int .i64 p.rep, .int .i64 p.cmp, .int .i64 p.sub] := hw28 ▸ hA.setAll rfl
      have f28 : Fr Non w1 w28 := hw28 ▸ f27.setAll hA (vs := [.int .i64 p.fld, .int .i64 p.rep, .int .i64 p.cmp, .int .i64 p.sub]) rfl (fun h => absurd h (Nat.lt_irrefl _))
      have hk2 : k (.bool (inR p.fld && (inR p.rep && (inR p.cmp && inR p.sub)))) w28 := by
        have := hk w28 (upN f8 f28 (fun g hg => hg.elim))
        rw [ev, np, Bool.false_or] at this; exact this
      let vs : List Int := [p.fld, p.rep, p.cmp, p.sub]
      have hvs : (inR p.fld && (inR p.rep && (inR p.cmp && inR p.sub))) = vs.all inR := by simp [vs]
      rw [hvs] at hk2
      refine ⟨fun m i w' => ∃ j : Nat, i = j ∧ j ≤ 4 ∧ m = 4 - j ∧ w' = w28 ∧ (vs.take j).all inR = true, ⟨4, 0, rfl, by omega, by omega, rfl, rfl⟩, ?_⟩
      rintro m i w33 ⟨j, rfl, hj, rfl, rfl, hall⟩
      have hlen : vs.length = 4 := rfl
      refine ⟨fun hlt => ?_, fun hge => ?_⟩
      · have hjl : j < 4 := by have := of_decide_eq_true hlt; omega
        have hcell : w33.cell? ((⟨w1.heap.size, 0, none⟩ : Addr).add (((j : Int)).toNat * 1)) = some (.int .i64 (vs[j]'(by omega))) := by
          rw [add_mk]
          refine hA2.cell ?_
          have : j = 0 ∨ j = 1 ∨ j = 2 ∨ j = 3 := by omega
          rcases this with rfl | rfl | rfl | rfl <;> rfl
        refine ⟨fun v w' => v = !inR (vs[j]'(by omega)) ∧ w' = w33, ?_, ⟨by omega, by omega⟩, _, hcell, fun h1 => ⟨?_, rfl⟩, fun h1 => ⟨⟨by omega, by omega⟩, _, hcell, ?_, rfl⟩⟩
        · rintro v w36 ⟨rfl, rfl⟩
          refine ⟨fun hb => ?_, fun hb => ?_⟩
          · have hb := (Bool.not_eq_true' _).mp hb
            have : vs.all inR = false := by
              rw [Bool.eq_false_iff]; intro ha
              have := List.all_eq_true.1 ha _ (List.getElem_mem (show j < vs.length by omega))
              rw [hb] at this; cases this
            rw [this] at hk2; exact hk2
          · have hb := (Bool.not_eq_false' _).mp hb
            refine ⟨4 - (j + 1), by omega, j + 1, by rw [w64_id (by omega) (by omega)]; push_cast; rfl, by omega, rfl, rfl, ?_⟩
            rw [List.take_succ_eq_append_getElem (by omega), List.all_append, hall]; simp [hb]
        · rw [← decide_two, h1]; rfl
        · rw [← decide_two, h1]; simp
      · obtain rfl : j = 4 := by have := of_decide_eq_false hge; omega
        have : vs.all inR = true := hall
        rw [this] at hk2; exact hk2
  · refine rname_spec p.seg hs ⟨_, rfl, fun h => ?_, fun h => ?_⟩
    · have h := (Bool.not_eq_true' _).mp h
      exact ⟨by rw [h]; rfl, rfl⟩
    · have h := (Bool.not_eq_false' _).mp h
      refine ⟨p.occ, by rw [add_mk]; exact hB.cell rfl, fun h1 => ⟨?_, rfl⟩, fun h1 => ⟨p.occ, by rw [add_mk]; exact hB.cell rfl, ?_, rfl⟩⟩
      · rw [h, ← decide_two, h1]; rfl
      · rw [h, ← decide_two, h1]; simp
end
end Go.Proofs.YthpeengmcjpknaaGreatDoor
set_option linter.unusedSimpArgs false
set_option linter.unusedVariables false
namespace Go.Proofs.YthpeengmcjpknaaGreatDoor
open Go.V Go.RowKit
def rnum (op en s : Str) (bad : Bool) : Int × Str × Bool :=
  if op.isPrefixOf s then
    ((numOf ((s.drop op.length).takeWhile isDig)).1,
     (if en.isPrefixOf ((s.drop op.length).dropWhile isDig) then ((s.drop op.length).dropWhile isDig).drop en.length else (s.drop op.length).dropWhile isDig),
     (bad || ((numOf ((s.drop op.length).takeWhile isDig)).2 != 0 || (decide ((numOf ((s.drop op.length).takeWhile isDig)).1 < 1) || (decide (200 < (numOf ((s.drop op.length).takeWhile isDig)).1) || !(en.isPrefixOf ((s.drop op.length).dropWhile isDig)))))))
  else (1, s, bad)
end Go.Proofs.YthpeengmcjpknaaGreatDoor
set_option linter.unusedSimpArgs false
set_option linter.unusedVariables false
namespace Go.Proofs.YthpeengmcjpknaaGreatDoor
open Go.V Go.RowKit
end Go.Proofs.YthpeengmcjpknaaGreatDoor
