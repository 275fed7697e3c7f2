/- A nil reader; a reset; all events of a reader; two lists of events. -/
import Derived.Test.YtmgmffoillbfeaaX6
set_option linter.unusedSimpArgs false
set_option linter.unusedVariables false
namespace Go.Proofs.Ytmgmffoillbfeaa
open Go.V Go.RowKit

section
variable {w : World} {k : Value → World → Prop} {b : Nat} {r : RS} {F : Nat → Prop}
theorem beq_dec (a b : Int) : (a == b) = decide (a = b) := rfl
theorem feed_nil (s : Str) (hk : k (.tuple #[]) w) : Cl Try.prog 13 [.pointer none, .string (mkS s)] w k := by
  refine f13_ok ?_
  unfold f13
  exact ⟨fun _ => hk, fun h => by simp at h⟩
theorem reset_nil (hk : k (.tuple #[]) w) : Cl Try.prog 22 [.pointer none] w k := by
  refine f22_ok ?_
  unfold f22
  exact ⟨fun _ => hk, fun h => by simp at h⟩
theorem skipped_nil (hk : k (.int .i64 0) w) : Cl Try.prog 14 [.pointer none] w k := by
  refine f14_ok ?_
  unfold f14
  exact ⟨fun _ => hk, fun h => by simp at h⟩
theorem inside_nil (hk : k (.bool false) w) : Cl Try.prog 15 [.pointer none] w k := by
  refine f15_ok ?_
  unfold f15
  exact ⟨fun h => by simp at h, fun _ => hk⟩
theorem next_nil (hk : ∀ w', Fr Non w w' → k (nxt []) w') : Cl Try.prog 20 [.pointer none] w k := by
  refine f20_ok ?_
  unfold f20
  rintro b2 w1 rfl hw1 b4 w2 rfl hw2 b6 w3 rfl hw3
  refine ⟨fun _ => ?_, fun h => by simp at h⟩
  have z1 : w1.heap.size = w.heap.size + 1 := by rw [hw1]; simp
  have f1 : Fr Non w w1 := hw1 ▸ (Fr.refl Non w).alloc _
  have hA : Blk w1 w.heap.size 9 [.string (mkS [])] := hw1 ▸ Blk.new w [.string (mkS [])] 9
  have z2 : w2.heap.size = w.heap.size + 2 := by rw [hw2]; simp [z1]
  have f2 : Fr Non w w2 := hw2 ▸ f1.alloc _
  have hA2 : Blk w2 w.heap.size 9 [.string (mkS [])] := hw2 ▸ hA.alloc _
  have hB : Blk w2 w1.heap.size 3 [.int .i64 0] := hw2 ▸ Blk.new w1 [.int .i64 0] 3
  have f3 : Fr Non w w3 := hw3 ▸ f2.alloc _
  have hA3 : Blk w3 w.heap.size 9 [.string (mkS [])] := hw3 ▸ hA2.alloc _
  have hB3 : Blk w3 w1.heap.size 3 [.int .i64 0] := hw3 ▸ hB.alloc _
  have hC : Blk w3 w2.heap.size 4 [.bool false] := hw3 ▸ Blk.new w2 [.bool false] 4
  refine ⟨hA3.isS (by simp), hA3.free 0, ?_⟩
  rintro w8 rfl
  have q1 := setF (w := w3) w.heap.size 0 (.string (mkS []))
  have hB7 := hB3.fr q1 (by omega)
  refine ⟨hB7.isS (by simp), hB7.free 0, ?_⟩
  rintro w9 rfl
  have q2 := setF (w := w3.setCell ⟨w.heap.size, 0, none⟩ (.string (mkS []))) w1.heap.size 0 (.int .i64 0)
  have hC8 := (hC.fr q1 (by omega)).fr q2 (by omega)
  refine ⟨hC8.isS (by simp), hC8.free 0, ?_⟩
  rintro w10 rfl
  have q3 := setF (w := (w3.setCell ⟨w.heap.size, 0, none⟩ (.string (mkS []))).setCell ⟨w1.heap.size, 0, none⟩ (.int .i64 0)) w2.heap.size 0 (.bool false)
  have hA9 := ((hA3.set 0 (.string (mkS []))).fr q2 (by omega)).fr q3 (by omega)
  have hB9 := (hB7.set 0 (.int .i64 0)).fr q3 (by omega)
  have hC9 := hC8.set 0 (.bool false)
  refine ⟨[], 0, false, hA9.cell rfl, hB9.cell rfl, hC9.cell rfl, hk _ ?_⟩
  exact ((f3.trans q1 (fun b hb e => by omega)).trans q2 (fun b hb e => by omega)).trans q3 (fun b hb e => by omega)
/-- What a reset leaves. -/
def rst (r : RS) : RS := { r with st := 0, inp := [], evs := if r.st = 1 ∨ r.st = 2 then [([], 1)] else if r.st = 3 ∨ r.st = 4 then [([], 2)] else [] }
theorem reset_end {w0 : World} {r' : RS} {F' : Nat → Prop} (h : Rep 45 67 w b r' F') (f : Fr F w0 w) (hF : ∀ g, F' g → F g ∨ w0.heap.size ≤ g) (hs : ∀ g, F g → g < w0.heap.size)
    (e : { r' with st := 0, inp := [] } = rst r) (hk : ∀ w' F', Rep 45 67 w' b (rst r) F' → Fr F w0 w' → (∀ g, F' g → F g ∨ w0.heap.size ≤ g) → k (.tuple #[]) w') :
    ∃ a22, some (⟨b, 0, none⟩ : Addr) = some a22 ∧ (w.cell? (a22.add 1)).isSome = true ∧ w.frozen? (a22.add 1) = false ∧ ∀ w23, w23 = w.setCell (a22.add 1) (.int .i64 0) → ∃ a24, some (⟨b, 0, none⟩ : Addr) = some a24 ∧ (w23.cell? (a24.add 2)).isSome = true ∧ w23.frozen? (a24.add 2) = false ∧ ∀ w25, w25 = w23.setCell (a24.add 2) (.slice none 0 0) → k (.tuple #[]) w25 := by
  obtain ⟨i, ev, hb⟩ := h.c
  have hbF : b < w0.heap.size → F b := fun hlt => (hF b h.own).resolve_right (fun h => by omega)
  refine ⟨_, rfl, by rw [add_mk]; exact hb.isS (by simp), by rw [add_mk]; exact hb.free 1, ?_⟩
  rintro w1 rfl
  rw [add_mk]
  have h1 := h.setSt 0
  obtain ⟨i1, e1, hb1⟩ := h1.c
  refine ⟨_, rfl, by rw [add_mk]; exact hb1.isS (by simp), by rw [add_mk]; exact hb1.free 2, ?_⟩
  rintro w2 rfl
  rw [add_mk]
  have h2 := h1.clrIn
  exact hk _ F' (e ▸ h2) ((f.set (a := ⟨b, 0 + 1, none⟩) hbF _).set (a := ⟨b, 0 + 2, none⟩) hbF _) hF
theorem reset_spec (h : Rep 45 67 w b r F) (ho : Ok r) (hk : ∀ w' F', Rep 45 67 w' b (rst r) F' → Fr F w w' → (∀ g, F' g → F g ∨ w.heap.size ≤ g) → k (.tuple #[]) w') : Cl Try.prog 22 [.pointer (some ⟨b, 0, none⟩)] w k := by
  refine f22_ok ?_
  unfold f22
  refine ⟨fun h => by simp at h, fun _ => ?_⟩
  obtain ⟨i, ev, hb⟩ := h.c
  have hlt : ∀ g, F g → g < w.heap.size := fun g hg => h.lt hg
  have hown := h.own
  refine ⟨_, rfl, by rw [add_mk]; exact hb.isS (by simp), by rw [add_mk]; exact hb.free 3, ?_⟩
  rintro w1 rfl
  rw [add_mk]
  have h1 := h.clrEv
  have f1 : Fr F w _ := (Fr.refl F w).set (a := ⟨b, 0 + 3, none⟩) (fun _ => hown) (.slice none 0 0)
  obtain ⟨i1, e1, hb1⟩ := h1.c
  have hs0 := ho.s0
  have hs1 := ho.s1
  refine ⟨fun w' => ∃ r' F', Rep 45 67 w' b r' F' ∧ Fr F w w' ∧ (∀ g, F' g → F g ∨ w.heap.size ≤ g) ∧ { r' with st := 0, inp := [] } = rst r, ?_, _, rfl, r.st, by rw [add_mk]; exact hb1.cell rfl, ?_⟩
  · rintro w5 ⟨r', F', h5, f5, hF5, e5⟩
    exact reset_end h5 f5 hF5 hlt e5 hk
  have one : ∀ (n : Int), (if r.st = 1 ∨ r.st = 2 then [([], 1)] else if r.st = 3 ∨ r.st = 4 then [([], 2)] else []) = [(([] : Str), n)] → ∀ b11 w12, b11 = (w.setCell ⟨b, 0 + 3, none⟩ (.slice none 0 0)).heap.size → w12 = (w.setCell ⟨b, 0 + 3, none⟩ (.slice none 0 0)).alloc (.cells (List.toArray [.string (mkS []), .int .i64 n]) 67) → ∃ a13, some (⟨b, 0, none⟩ : Addr) = some a13 ∧ (w12.cell? (a13.add 3)).isSome = true ∧ w12.frozen? (a13.add 3) = false ∧ ∀ w14, w14 = w12.setCell (a13.add 3) (.slice (some ⟨b11, 0, none⟩) 1 1) →
      ∃ r' F', Rep 45 67 w14 b r' F' ∧ Fr F w w14 ∧ (∀ g, F' g → F g ∨ w.heap.size ≤ g) ∧ { r' with st := 0, inp := [] } = rst r := by
    intro n hn b11 w12 hb11 hw12
    have h2 : Rep 45 67 w12 b { r with evs := [] } F := hw12 ▸ h1.alloc _
    have f2 : Fr F w w12 := hw12 ▸ f1.alloc _
    have z : b11 = w.heap.size := by rw [hb11]; simp
    have hn2 : Blk w12 b11 67 (evc ([], n)) := by rw [hb11, hw12]; exact Blk.new _ _ 67
    obtain ⟨i2, e2, hb2⟩ := h2.c
    refine ⟨_, rfl, by rw [add_mk]; exact hb2.isS (by simp), by rw [add_mk]; exact hb2.free 3, ?_⟩
    rintro w14 rfl
    rw [add_mk]
    have hnF : ¬ F b11 := fun hF => by have := hlt _ hF; omega
    refine ⟨_, _, h2.oneEv ([], n) hn2 hnF, f2.set (a := ⟨b, 0 + 3, none⟩) (fun _ => hown) _, ?_, ?_⟩
    · rintro g (hg | rfl)
      · exact .inl hg
      · exact .inr (by omega)
    · simp [rst, hn]
  refine ⟨fun v w' => v = decide (r.st = 1 ∨ r.st = 2) ∧ w' = w.setCell ⟨b, 0 + 3, none⟩ (.slice none 0 0), ?_, fun h => ⟨by simp at h; simp [h], rfl⟩, fun h => ⟨by simp at h; rw [beq_dec]; simp [h], rfl⟩⟩
  rintro v w10 ⟨rfl, rfl⟩
  refine ⟨fun hv => one 1 ?_, fun hv => ?_⟩
  · have hv := of_decide_eq_true hv; rw [if_pos hv]
  have hv := of_decide_eq_false hv
  refine ⟨fun v w' => v = decide (r.st = 3 ∨ r.st = 4) ∧ w' = w.setCell ⟨b, 0 + 3, none⟩ (.slice none 0 0), ?_, fun h => ⟨by simp at h; simp [h], rfl⟩, fun h => ⟨by simp at h; rw [beq_dec]; simp [h], rfl⟩⟩
  rintro v w10 ⟨rfl, rfl⟩
  refine ⟨fun hv2 => one 2 ?_, fun hv2 => ?_⟩
  · have hv2 := of_decide_eq_true hv2; rw [if_neg hv, if_pos hv2]
  have hv2 := of_decide_eq_false hv2
  exact ⟨_, _, h1, f1, fun g hg => .inl hg, by simp [rst, hv, hv2]⟩

theorem refwrap_spec (t : Str) (ht : t.length ≤ 1000000000000000) (hk : k (.tuple (List.toArray [.string (mkS (wrp t)), .int .i64 (wre t)])) w) : Cl Try.prog 25 [.string (mkS t)] w k := by
  refine f25_ok ?_
  unfold f25
  refine ⟨fun m v w' => ∃ j : Nat, v = j ∧ j ≤ t.length ∧ m = t.length - j ∧ w' = w ∧ 11 ∉ t.take j ∧ 28 ∉ t.take j, ⟨t.length, 0, rfl, by omega, by omega, rfl, by simp, by simp⟩, ?_⟩
  rintro m v w' ⟨j, rfl, hj, rfl, rfl, hn1, hn2⟩
  refine ⟨fun h => ?_, fun h => ?_⟩
  · have h := of_decide_eq_true h
    have hjl : j < t.length := by omega
    have e1 : t.getD ((j : Int)).toNat 0 = t[j] := by simp [hjl]
    have e2 : ((t[j].toNat : Int) == 11) = decide (t[j] = 11) := u8_eq _ 11 (by decide)
    have e3 : ((t[j].toNat : Int) == 28) = decide (t[j] = 28) := u8_eq _ 28 (by decide)
    have hm : t[j] ∈ t := List.getElem_mem hjl
    rw [e1, e2, e3]
    refine ⟨fun v w9 => v = decide (t[j] = 11 ∨ t[j] = 28) ∧ w9 = w', ?_, ⟨by omega, by omega⟩, fun h => ⟨by simp at h; simp [h], rfl⟩, fun h => ⟨⟨by omega, by omega⟩, by simp at h; simp [h], rfl⟩⟩
    rintro v w9 ⟨rfl, rfl⟩
    refine ⟨fun hv => ?_, fun hv => ?_⟩
    · have hv := of_decide_eq_true hv
      have hb : 11 ∈ t ∨ 28 ∈ t := hv.elim (fun e => .inl (e ▸ hm)) (fun e => .inr (e ▸ hm))
      have w1 : wre t = 70 := by simp [wre, hb]
      have w2 : wrp t = [] := by simp [wrp, w1]
      rw [w1, w2] at hk; exact hk
    · have hv := of_decide_eq_false hv
      simp only [not_or] at hv
      refine ⟨t.length - (j + 1), by omega, j + 1, by rw [w64_id (by omega) (by omega)]; push_cast; rfl, by omega, rfl, rfl, ?_, ?_⟩
      · rw [List.take_succ_eq_append_getElem hjl]; simp only [List.mem_append, List.mem_singleton, not_or]; exact ⟨hn1, fun e => hv.1 e.symm⟩
      · rw [List.take_succ_eq_append_getElem hjl]; simp only [List.mem_append, List.mem_singleton, not_or]; exact ⟨hn2, fun e => hv.2 e.symm⟩
  · have h := of_decide_eq_false h
    obtain rfl : j = t.length := by omega
    rw [List.take_length] at hn1 hn2
    have hb : ¬ (11 ∈ t ∨ 28 ∈ t) := by simp [hn1, hn2]
    refine ⟨fun h2 => ?_, fun h2 => ?_⟩
    · have h2 : 32768 < t.length := by have := of_decide_eq_true h2; omega
      have w1 : wre t = 2 := by simp [wre, hb, h2]
      have w2 : wrp t = [] := by simp [wrp, w1]
      rw [w1, w2] at hk; exact hk
    · have h2 : ¬ 32768 < t.length := by have := of_decide_eq_false h2; omega
      have w1 : wre t = 0 := by simp [wre, hb, h2]
      have w2 : wrp t = [11] ++ t ++ [28, 13] := by simp [wrp, w1]
      rw [w1, w2] at hk
      exact ⟨by simp; omega, by simp; omega, hk⟩

theorem wraps_spec (s : Str) (hs : s.length ≤ 1000000000000000) (hk : ∀ w', Fr Non w w' → k (.bool true) w') : Cl Try.prog 7 [.string (mkS s)] w k := by
  refine f7_ok ?_
  unfold f7
  refine ⟨fun _ => alive_spec fun w1 f1 => ⟨_, rfl, hk _ f1⟩, fun _ => ?_⟩
  refine wrap_spec s fun w1 f1 => ⟨_, _, rfl, ?_⟩
  refine refwrap_spec s hs ⟨_, _, rfl, ?_⟩
  refine feed_nil s (reset_nil (next_nil fun w2 f2 => ⟨[], 0, false, rfl, ?_⟩))
  have g2 := upN f1 f2 (fun g hg => hg.elim)
  refine alive_spec fun w3 f3 => ⟨_, rfl, fun _ => ⟨fun _ => ⟨fun _ => ⟨fun _ => ⟨fun _ => ⟨fun _ => ?_, fun h => by simp at h⟩, fun h => by simp at h⟩, fun h => by simp at h⟩, fun h => by simp at h⟩, fun h => by simp at h⟩, fun h => by simp at h⟩
  have g3 := upN g2 f3 (fun g hg => hg.elim)
  exact skipped_nil ⟨_, rfl, fun _ => inside_nil ⟨_, rfl, hk _ g3⟩, fun h => by simp at h⟩
end
end Go.Proofs.Ytmgmffoillbfeaa
