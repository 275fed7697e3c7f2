/- A text's own copy. -/
import Derived.Test.YtpkkbbdffhcpaaaDoorS1
import Derived.Lib.BufferWrite
import Derived.Lib.UnsafeStr
set_option linter.unusedSimpArgs false
set_option linter.unusedVariables false
namespace Go.Proofs.YtpkkbbdffhcpaaaDoor
open Go.V Go.RowKit
theorem run_make {w : World} {P : Program} {t e : TypeId} {z : Value} {sz by_ : Nat} (ht : P.underlying t = some (.slice e)) (hs : Sz P e sz) (hz : Zr P e z) (hb : Bts P e by_) (n c : Int) (h0 : 0 ≤ n) (hc : n ≤ c) (hbig : (by_ : Int) * c ≤ 281474976710656) (h63 : c ≤ 9223372036854775807) :
    (Instr.makeSlice t (.int .i64 n) (.int .i64 c)).run P w = .ok (.slice (some ⟨w.heap.size, 0, none⟩) n.toNat c.toNat) (w.alloc (.cells (madeCells z.cells (c.toNat * sz)) e)) := by
  unfold Sz at hs
  unfold Zr at hz
  unfold Bts at hb
  obtain ⟨i, hi, rfl⟩ := Option.map_eq_some_iff.1 hs
  obtain ⟨i2, hi2, hz2⟩ := Option.bind_eq_some_iff.1 hz
  obtain ⟨i3, hi3, rfl⟩ := Option.map_eq_some_iff.1 hb
  rw [hi] at hi2 hi3
  cases hi2; cases hi3
  exact Go.run_make w t e i z ht hi hz2 .i64 .i64 n c h0 hc hbig h63
theorem Fr.row {F : Nat → Prop} {w w1 : World} (h : Fr F w w1) {g : Nat} (hg : g < w.heap.size → F g) (cs : Array Value) : Fr F w (w1.setRow g cs) :=
  ⟨h.os, h.tape, h.output, by rw [size_setRow]; exact h.size, fun b hb hF => by
    have hne : g ≠ b := fun e => by subst e; exact hF (hg hb)
    rw [← h.blk b hb hF]; simp [World.setRow, Array.getElem?_modify, hne]⟩
theorem Fr.freeze {F : Nat → Prop} {w w1 : World} (h : Fr F w w1) {a : Addr} (hg : a.block < w.heap.size → F a.block) (n : Nat) : Fr F w (w1.freeze a n) := by
  unfold World.freeze
  split
  · exact h
  · exact ⟨h.os, h.tape, h.output, by simp; exact h.size, fun b hb hF => by
      have hne : a.block ≠ b := fun e => by subst e; exact hF (hg hb)
      rw [← h.blk b hb hF]; simp [Array.getElem?_modify, hne]⟩
section
variable {w : World} {k : Value → World → Prop}
theorem clone_spec (s : Str) (hs : s.length ≤ 281474976710656) (hk : ∀ w', Fr Non w w' → k (.string (mkS s)) w') : Cl Tryd.prog 26 [.string (mkS s)] w k := by
  refine f26_ok ?_
  unfold f26
  refine f52_ok ?_
  unfold f52
  refine ⟨fun h => ?_, fun h => ?_⟩
  · have : s = [] := List.eq_nil_of_length_eq_zero (by simp at h; simp [h])
    subst this
    exact ⟨_, rfl, hk _ (Fr.refl _ _)⟩
  have hne : s ≠ [] := fun e => by simp [e] at h
  have hpos : 0 < s.length := List.length_pos_iff.2 hne
  have hu : Tryd.prog.underlying 92 = some (.slice 5) := by kernel_rfl
  have hsz : Sz Tryd.prog 5 1 := Sz.mk (by kernel_rfl)
  have hmk := run_make (w := w) (P := Tryd.prog) (t := 92) (e := 5) (z := .int .u8 0) (sz := 1) (by_ := 1) hu hsz (Zr.mk (by kernel_rfl)) (Bts.mk (by kernel_rfl)) (s.length : Int) (s.length : Int) (by omega) (by omega) (by omega) (by omega)
  obtain ⟨w1, hw1⟩ : ∃ w1, w1 = w.alloc (.cells (madeCells (Value.int .u8 0).cells (((s.length : Int)).toNat * 1)) 5) := ⟨_, rfl⟩
  rw [← hw1] at hmk
  have f1 : Fr Non w w1 := hw1 ▸ (Fr.refl Non w).alloc _
  have hg1 : w1.heap[w.heap.size]? = some (.cells (madeCells (Value.int .u8 0).cells (((s.length : Int)).toNat * 1)) 5 (0, 0)) := by rw [hw1]; exact heap_alloc_new w _
  have hcopy := Lib.run_copy_row_string (P := Tryd.prog) w1 92 9 3 5 w.heap.size 0 s.length s.length (mkS s) (madeCells (Value.int .u8 0).cells (((s.length : Int)).toNat * 1)) 5 hu hsz hg1 (by simp) (by simp [size_madeCells])
  obtain ⟨w2, hw2⟩ : ∃ w2, w2 = w1.setRow w.heap.size ((madeCells (Value.int .u8 0).cells (((s.length : Int)).toNat * 1)).toList.take 0 ++ Lib.byteCells (mkS s).data.toList ++ (madeCells (Value.int .u8 0).cells (((s.length : Int)).toNat * 1)).toList.drop (0 + (mkS s).size)).toArray := ⟨_, rfl⟩
  rw [← hw2] at hcopy
  have f2 : Fr Non w w2 := hw2 ▸ Fr.row f1 (fun h => absurd h (Nat.lt_irrefl _)) _
  have hB2 : Blk w2 w.heap.size 5 (bys s) := by
    have hr := setRow_heap w1 w.heap.size _ ((madeCells (Value.int .u8 0).cells (((s.length : Int)).toNat * 1)).toList.take 0 ++ Lib.byteCells (mkS s).data.toList ++ (madeCells (Value.int .u8 0).cells (((s.length : Int)).toNat * 1)).toList.drop (0 + (mkS s).size)).toArray 5 (0, 0) hg1
    rw [← hw2] at hr
    have e0 : (madeCells (Value.int .u8 0).cells (((s.length : Int)).toNat * 1)).toList.drop (0 + (mkS s).size) = [] := List.drop_of_length_le (by simp [size_madeCells])
    have ea : ((madeCells (Value.int .u8 0).cells (((s.length : Int)).toNat * 1)).toList.take 0 ++ Lib.byteCells (mkS s).data.toList ++ (madeCells (Value.int .u8 0).cells (((s.length : Int)).toNat * 1)).toList.drop (0 + (mkS s).size)).toArray = (bys s).toArray := by
      rw [e0]; simp [Lib.byteCells, bys]
    rw [ea] at hr
    exact hr
  have hun := Lib.run_unsafeString_row (P := Tryd.prog) (w := w2) 114 3 9 5 (by kernel_rfl) (by kernel_rfl) w.heap.size s.length (by unfold Blk at hB2; simp [World.shape?, hB2, bys]) s hne (Nat.le_refl _) (by omega) (fun j x hx => by rw [add_mk, Nat.zero_add]; exact hB2.cell (by simp [bys, hx]))
  refine ⟨⟨some ⟨w.heap.size, 0, none⟩, s.length, s.length⟩, w1, hmk, (s.length : Int), w2, ?_, ⟨w.heap.size, 0, none⟩, rfl, ⟨by omega, ?_⟩, s, _, hun, s, rfl, ?_⟩
  · simpa [goInt] using hcopy
  · show (0 : Int) < (s.length : Int)
    omega
  · exact hk _ (Fr.freeze f2 (fun h => absurd h (Nat.lt_irrefl _)) _)
end
end Go.Proofs.YtpkkbbdffhcpaaaDoor
