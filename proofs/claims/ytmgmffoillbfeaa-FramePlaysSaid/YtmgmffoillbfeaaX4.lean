/- The smaller functions of the reader, and what takes an event off it. -/
import Derived.Test.YtmgmffoillbfeaaX3
import Derived.Lib.Bytealg
set_option linter.unusedSimpArgs false
set_option linter.unusedVariables false
namespace Go.Proofs.Ytmgmffoillbfeaa
open Go.V Go.RowKit

theorem ib_neg (c : UInt8) : ∀ l : Str, (0 ≤ Lib.indexByte l c) ↔ c ∈ l
  | [] => by simp [Lib.indexByte]
  | b :: l => by
    have ih := ib_neg c l
    unfold Lib.indexByte
    by_cases hb : b = c
    · simp [hb]
    · have h2 : ¬ c = b := fun e => hb e.symm
      have h3 := Lib.indexByte_ge l c
      simp only [hb, beq_iff_eq, if_false, List.mem_cons, h2, false_or]
      rw [← ih]
      split <;> omega
theorem index_spec {w : World} {k : Value → World → Prop} (s : Str) (c : UInt8) (hk : k (.int .i64 (Lib.indexByte s c)) w) : Cl Try.prog 26 [.string (mkS s), .int .u8 (c.toNat : Int)] w k := by
  refine f26_ok ?_
  unfold f26
  refine f34_ok ?_
  unfold f34
  refine ⟨_, fun u => ?_, _, rfl, hk⟩
  rw [show (callFunc 37 (List.toArray [.string (mkS s), .int .u8 (c.toNat : Int)])).run Try.prog u = _ from run_callFunc_extern (e := Extern.BytealgIndexByte.indexByte) Try.func37 (by kernel_rfl) (by kernel_rfl) (by kernel_rfl) (by kernel_rfl) _ u]
  rw [show (Extern.BytealgIndexByte.indexByte (List.toArray [.string (mkS s), .int .u8 (c.toNat : Int)])).run Try.prog u = _ from Lib.run_indexByteString (mkS s) (c.toNat : Int) u]
  simp
def wre (t : Str) : Int := if 11 ∈ t ∨ 28 ∈ t then 70 else if 32768 < t.length then 2 else 0
def wrp (t : Str) : Str := if wre t = 0 then 11 :: t ++ [28, 13] else []
theorem wrap_spec {w : World} {k : Value → World → Prop} (t : Str) (hk : ∀ w', Fr Non w w' → k (.tuple (List.toArray [.string (mkS (wrp t)), .int .i64 (wre t)])) w') : Cl Try.prog 11 [.string (mkS t)] w k := by
  refine f11_ok ?_
  unfold f11
  refine ⟨fun v w' => v = decide (11 ∈ t ∨ 28 ∈ t) ∧ w' = w, ?_, index_spec t 11 ⟨_, rfl, ?_, ?_⟩⟩
  · rintro v w' ⟨rfl, rfl⟩
    refine ⟨fun h => ?_, fun h => ⟨fun h2 => ?_, fun h2 => ?_⟩⟩
    · have h : 11 ∈ t ∨ 28 ∈ t := by simpa using h
      have e1 : wre t = 70 := by simp [wre, h]
      have e2 : wrp t = [] := by simp [wrp, e1]
      have := hk w' (Fr.refl _ _); rw [e1, e2] at this; exact this
    · have h : ¬ (11 ∈ t ∨ 28 ∈ t) := by simpa using h
      have h2 : 32768 < t.length := by have := of_decide_eq_true h2; omega
      have e1 : wre t = 2 := by simp [wre, h, h2]
      have e2 : wrp t = [] := by simp [wrp, e1]
      have := hk w' (Fr.refl _ _); rw [e1, e2] at this; exact this
    · have h : ¬ (11 ∈ t ∨ 28 ∈ t) := by simpa using h
      have h2 : ¬ 32768 < t.length := by have := of_decide_eq_false h2; omega
      have e1 : wre t = 0 := by simp [wre, h, h2]
      have e2 : wrp t = [11] ++ t ++ [28, 13] := by simp [wrp, e1]
      intro b11 w12 hb hw
      subst hb hw
      have hb1 := Blk.new w' [.int .u8 11] 5
      refine ⟨[11], hb1.bytes (l := [11]) rfl, by simp; omega, ?_⟩
      intro b14 w15 hb hw
      subst hb hw
      have hb2 := Blk.new (w'.alloc (.cells (List.toArray [.int .u8 11]) 5)) [.int .u8 28, .int .u8 13] 5
      refine ⟨[28, 13], hb2.bytes (l := [28, 13]) rfl, by simp; omega, ?_⟩
      have := hk _ (((Fr.refl Non w').alloc (.cells (List.toArray [.int .u8 11]) 5)).alloc (.cells (List.toArray [.int .u8 28, .int .u8 13]) 5))
      rw [e1, e2] at this; exact this
  · intro h
    have h : 11 ∈ t := (ib_neg 11 t).1 (of_decide_eq_true h)
    exact ⟨by simp [h], rfl⟩
  · intro h
    have h : 11 ∉ t := fun hm => (of_decide_eq_false h) ((ib_neg 11 t).2 hm)
    refine index_spec t 28 ⟨_, rfl, ?_, rfl⟩
    rw [decide_eq_decide, ib_neg]; simp [h]
/-- A new reader. -/
def rnew (m : Int) : RS := ⟨m, 0, [], [], 0⟩
theorem Rep.mk' (w : World) (T E : TypeId) (m : Int) : Rep T E (w.alloc (.cells (List.toArray [.int .i64 m, .int .i64 0, .slice none 0 0, .slice none 0 0, .int .i64 0]) T)) w.heap.size (rnew m) (fun g => g = w.heap.size) :=
  ⟨⟨none, 0, 0⟩, ⟨none, 0, 0⟩, Non, Non, ⟨rfl, fun g hg => by subst hg; simp⟩, fun _ h => h.elim, fun _ h => h.elim, Blk.new w _ T, SlOk.nil _ _ _ _, SlOk.nil _ _ _ _⟩
theorem new_spec {w : World} {k : Value → World → Prop} (m : Int) (hk : ∀ w', Rep 45 67 w' w.heap.size (rnew m) (fun g => g = w.heap.size) → Fr Non w w' → k (.pointer (some ⟨w.heap.size, 0, none⟩)) w') : Cl Try.prog 12 [.int .i64 m] w k := by
  refine f12_ok ?_
  unfold f12
  rintro b w3 rfl rfl
  exact hk _ (Rep.mk' w 45 67 m) ((Fr.refl Non w).alloc _)
section
variable {w : World} {k : Value → World → Prop} {b : Nat} {r : RS} {F : Nat → Prop}
theorem Rep.c (h : Rep 45 67 w b r F) : ∃ i e : Sl, Blk w b 45 [.int .i64 r.most, .int .i64 r.st, .slice i.base i.len i.cap, .slice e.base e.len e.cap, .int .i64 r.skip] := by
  obtain ⟨i, e, h, _⟩ := h.blk; exact ⟨i, e, h⟩
theorem skipped_spec (h : Rep 45 67 w b r F) (hk : k (.int .i64 r.skip) w) : Cl Try.prog 14 [.pointer (some ⟨b, 0, none⟩)] w k := by
  obtain ⟨i, e, hb⟩ := h.c
  refine f14_ok ?_
  unfold f14
  exact ⟨fun h => by simp at h, fun _ => ⟨_, rfl, _, by rw [add_mk]; exact hb.cell rfl, hk⟩⟩
theorem inside_spec (h : Rep 45 67 w b r F) (hk : k (.bool (r.st != 0)) w) : Cl Try.prog 15 [.pointer (some ⟨b, 0, none⟩)] w k := by
  obtain ⟨i, e, hb⟩ := h.c
  refine f15_ok ?_
  unfold f15
  exact ⟨fun _ => ⟨_, rfl, _, by rw [add_mk]; exact hb.cell rfl, hk⟩, fun h => by simp at h⟩
end
end Go.Proofs.Ytmgmffoillbfeaa
