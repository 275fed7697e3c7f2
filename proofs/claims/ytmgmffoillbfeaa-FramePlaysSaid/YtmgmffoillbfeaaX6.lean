/- The reader lives; what stands between frames is skipped. -/
import Derived.Test.YtmgmffoillbfeaaX5
set_option linter.unusedSimpArgs false
set_option linter.unusedVariables false
namespace Go.Proofs.Ytmgmffoillbfeaa
open Go.V Go.RowKit

theorem rnew_ok (m : Int) : Ok (rnew m) := ⟨by simp [rnew], by simp [rnew], by have := lim_pos m; simp [rnew]; omega, by simp [rnew]⟩
theorem fd_app (r : RS) (s t : Str) : fd r (s ++ t) = fd (fd r s) t := by simp [fd]
theorem fd_cons (r : RS) (c : UInt8) (t : Str) : fd r (c :: t) = fd (stp r c) t := rfl
theorem fd_skip : ∀ (s : Str) (r : RS), r.st = 0 → 11 ∉ s → fd r s = { r with skip := r.skip + s.length }
  | [], r, _, _ => by simp [fd]
  | c :: s, r, h, hs => by
    have hc : c ≠ 11 := fun e => hs (by simp [e])
    have h1 : stp r c = { r with skip := r.skip + 1 } := by simp [stp, h, hc]
    rw [fd_cons, h1, fd_skip s { r with skip := r.skip + 1 } h (fun e => hs (by simp [e]))]
    simp only [List.length_cons]; congr 1; push_cast; omega
theorem fd_body : ∀ (s : Str) (r : RS), r.st = 1 → 11 ∉ s → 28 ∉ s → (r.inp.length : Int) + s.length ≤ lim r.most → fd r s = { r with inp := r.inp ++ s }
  | [], r, _, _, _, _ => by simp [fd]
  | c :: s, r, h, hs, hs2, hl => by
    have hc : c ≠ 11 := fun e => hs (by simp [e])
    have hc2 : c ≠ 28 := fun e => hs2 (by simp [e])
    simp only [List.length_cons] at hl
    have hn : ¬ (r.inp.length : Int) = lim r.most := by push_cast at hl; omega
    have h1 : stp r c = { r with inp := r.inp ++ [c] } := by simp [stp, h, hc, hc2, hn]
    rw [fd_cons, h1, fd_body s { r with inp := r.inp ++ [c] } h (fun e => hs (by simp [e])) (fun e => hs2 (by simp [e])) (by simp; push_cast at hl; omega)]
    simp
theorem fd_frame (b : Str) (r : RS) (h : r.st = 0) (h1 : 11 ∉ b) (h2 : 28 ∉ b) (hl : (b.length : Int) ≤ lim r.most) : fd r (11 :: b ++ [28, 13]) = { r with inp := b, evs := r.evs ++ [(b, 0)] } := by
  have e0 : stp r 11 = { r with st := 1, inp := [] } := by simp [stp, h]
  rw [List.cons_append, fd_cons, e0, fd_app, fd_body b { r with st := 1, inp := [] } rfl h1 h2 (by simpa using hl)]
  simp [fd, stp, h]

theorem upN {w w1 w2 : World} {F : Nat → Prop} (h : Fr Non w w1) (k : Fr F w1 w2) (hF : ∀ g, F g → w.heap.size ≤ g) : Fr Non w w2 := h.trans k fun b hb hf => by have := hF b hf; omega
def bsA : Str := [120, 11, 97, 98, 28, 13]
theorem alive_fd : fd (rnew 4) bsA = ⟨4, 0, [97, 98], [([97, 98], 0)], 1⟩ := by kernel_rfl
theorem alive_spec {w : World} {k : Value → World → Prop} (hk : ∀ w', Fr Non w w' → k (.bool true) w') : Cl Try.prog 10 [] w k := by
  refine f10_ok ?_
  unfold f10
  refine new_spec 4 fun w1 h1 f1 => ⟨_, rfl, ?_⟩
  refine feed_spec bsA h1 (rnew_ok 4) (by simp [rnew, bsA]) fun w2 F2 h2 f2 hF2 => ?_
  rw [alive_fd] at h2
  have hup : ∀ g, F2 g → w.heap.size ≤ g := fun g hg => by
    rcases hF2 g hg with rfl | h
    · exact Nat.le_refl _
    · have := f1.size; omega
  have g2 := upN f1 f2 (fun g hg => by subst hg; exact Nat.le_refl _)
  refine next_spec h2 fun w3 h3 f3 => ⟨[97, 98], 0, true, rfl, ?_⟩
  have g3 := upN g2 f3 hup
  refine wrap_spec [97, 98] fun w4 f4 => ⟨_, _, rfl, fun _ => ⟨fun _ => ⟨fun _ => ?_, fun h => by simp at h⟩, fun h => by simp at h⟩, fun h => by simp at h⟩
  have h4 := h3.fr f4 (fun _ _ h => h)
  have g4 := upN g3 f4 (fun g hg => hg.elim)
  refine skipped_spec h4 ⟨_, rfl, fun _ => ?_, fun h => by simp at h⟩
  refine inside_spec h4 ⟨_, rfl, fun _ => ⟨fun _ => ?_, fun h => ?_⟩, fun h => by simp at h⟩
  · exact hk _ g4
  · exact absurd h (by decide)

theorem skips_spec {w : World} {k : Value → World → Prop} (a b : Str) (ha : a.length ≤ 1000000000000000) (hb : b.length ≤ 1000000000000000) (hk : ∀ w', Fr Non w w' → k (.bool true) w') : Cl Try.prog 3 [.string (mkS a), .string (mkS b)] w k := by
  refine f3_ok ?_
  unfold f3
  rw [w64_id (by omega) (by omega)]
  refine ⟨fun _ => alive_spec fun w1 f1 => ⟨_, rfl, hk _ f1⟩, fun hlen => ?_⟩
  have hlen := of_decide_eq_false hlen
  refine ⟨fun m i w' => ∃ j : Nat, i = j ∧ j ≤ a.length ∧ m = a.length - j ∧ w' = w ∧ 11 ∉ a.take j, ⟨a.length, 0, rfl, by omega, by omega, rfl, by simp⟩, ?_⟩
  rintro m i w' ⟨j, rfl, hj, rfl, rfl, hno⟩
  refine ⟨fun h => ?_, fun h => ?_⟩
  · have h := of_decide_eq_true h
    have hjl : j < a.length := by omega
    have e1 : a.getD ((j : Int)).toNat 0 = a[j] := by simp [hjl]
    refine ⟨⟨by omega, by omega⟩, fun _ => alive_spec fun w1 f1 => ⟨_, rfl, hk _ f1⟩, fun hne => ?_⟩
    have e2 : ((a[j].toNat : Int) == 11) = decide (a[j] = 11) := u8_eq _ 11 (by decide)
    rw [e1, e2] at hne
    have hne := of_decide_eq_false hne
    refine ⟨a.length - (j + 1), by omega, j + 1, by rw [w64_id (by omega) (by omega)]; push_cast; rfl, by omega, rfl, rfl, ?_⟩
    rw [List.take_succ_eq_append_getElem hjl]
    simp only [List.mem_append, List.mem_singleton, not_or]
    exact ⟨hno, fun e => hne e.symm⟩
  have h := of_decide_eq_false h
  obtain rfl : j = a.length := by omega
  rw [List.take_length] at hno
  refine wrap_spec b fun w1 f1 => ⟨_, _, rfl, ?_⟩
  refine new_spec 0 fun w2 h2 f2 => ⟨_, rfl, ?_⟩
  have g2 := upN f1 f2 (fun g hg => hg.elim)
  refine feed_spec a h2 (rnew_ok 0) (by simp [rnew]; omega) fun w3 F3 h3 f3 hF3 => ?_
  have hup : ∀ g, F3 g → w'.heap.size ≤ g := fun g hg => by
    rcases hF3 g hg with rfl | h
    · exact f1.size
    · have := g2.size; omega
  have g3 := upN g2 f3 (fun g hg => by subst hg; exact f1.size)
  have e3 : fd (rnew 0) a = { rnew 0 with skip := a.length } := by rw [fd_skip a _ rfl hno]; simp [rnew]
  rw [e3] at h3
  refine ⟨fun v w4 => v = false ∧ w4 = w3, ?_, ?_⟩
  · rintro v w4 ⟨rfl, rfl⟩
    refine ⟨fun h => by simp at h, fun _ => ⟨fun _ => alive_spec fun w5 f5 => ⟨_, rfl, hk _ (upN g3 f5 (fun g hg => hg.elim))⟩, fun he => ?_⟩⟩
    have he : wre b = 0 := by simpa using he
    have hb1 : 11 ∉ b ∧ 28 ∉ b ∧ b.length ≤ 32768 := by
      unfold wre at he
      split at he
      · simp at he
      · rename_i hn
        split at he
        · simp at he
        · rename_i hn2; simp only [not_or] at hn; exact ⟨hn.1, hn.2, by omega⟩
    have hw : wrp b = 11 :: b ++ [28, 13] := by simp [wrp, he]
    have hwl : (wrp b).length = b.length + 3 := by rw [hw]; simp
    refine ⟨by rw [hwl]; omega, ?_⟩
    refine feed_spec (wrp b ++ a) h3 ⟨by simp [rnew], by simp [rnew], by simp [rnew, lim], by simp⟩ (by simp [rnew, hwl]; omega) fun w5 F5 h5 f5 hF5 => ?_
    have g5 := upN g3 f5 hup
    have e5 : fd { rnew 0 with skip := a.length } (wrp b ++ a) = { rnew 0 with inp := b, evs := [(b, 0)], skip := a.length + a.length } := by
      rw [fd_app, hw, fd_frame b _ rfl hb1.1 hb1.2.1 (by simp [rnew, lim]; omega), fd_skip a _ rfl hno]
      simp [rnew]
    rw [e5] at h5
    refine alive_spec fun w6 f6 => ⟨_, rfl, fun _ => ?_, fun h => by simp at h⟩
    have h6 := h5.fr f6 (fun _ _ h => h)
    have g6 := upN g5 f6 (fun g hg => hg.elim)
    refine skipped_spec h6 ⟨_, rfl, fun _ => ?_, fun h => ?_⟩
    · refine inside_spec h6 ⟨_, rfl, hk _ g6⟩
    · rw [w64_id (by omega) (by omega)] at h
      simp only [beq_eq_false_iff_ne] at h
      omega
  · refine skipped_spec h3 ⟨_, rfl, fun h => by simp at h, fun _ => ?_⟩
    refine inside_spec h3 ⟨_, rfl, rfl, rfl⟩
end Go.Proofs.Ytmgmffoillbfeaa
