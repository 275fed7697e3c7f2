/- What is read of a text, whatever the text; the first call of chapter 8. -/
import Derived.Test.YtoaoofobidhfjaaGreatDoorEB
import Derived.Test.YtoaoofobidhfjaaGreatDoorN1
set_option linter.unusedSimpArgs false
set_option linter.unusedVariables false
namespace Go.Proofs.YtoaoofobidhfjaaGreatDoor
open Go.V Go.RowKit
def txE (t : Str) : Int := parseE isName t
def zDm : Dm := ⟨0, 0, 0, 0, 0⟩
def txD (t : Str) : Dm := if txE t = 0 then (ofP t).getD zDm else zDm
def txL (t : Str) : List Seg := if txE t = 0 then parseL t else []
theorem parse_len {t : Str} (h : parseE isName t = 0) : t.length ≤ 65536 := by
  unfold parseE at h
  split at h
  · cases h
  · omega
theorem sm_txL (t : Str) : SmM (txL t) := by
  unfold txL
  by_cases h : txE t = 0
  · rw [if_pos h]
    have hl := parse_len h
    obtain ⟨d, ho, _, _⟩ := parse_okM nmOk h
    unfold parseL
    rw [ho]
    have hn := lines_len t
    have := sm_sgU d (ps := linesP t) (by omega) fun p hp => by have := lines_sub t p hp; omega
    rw [sgU_all] at this
    exact SmM_can this
  · rw [if_neg h]
    exact ⟨by simp, fun g hg => by simp at hg⟩
/-- A text that is read: what the message is. -/
theorem txE_ok {t : Str} (h : txE t = 0) : OkM isName (txD t) (txL t) ∧ canM (txL t) = txL t ∧ ofP t = some (txD t) := by
  obtain ⟨d, ho, h1, h2⟩ := parse_okM nmOk h
  have e1 : txD t = d := by unfold txD; rw [if_pos h, ho]; rfl
  have e2 : txL t = parseL t := by unfold txL; rw [if_pos h]
  rw [e1, e2]
  exact ⟨h1, h2, ho⟩
section
variable {w : World} {k : Value → World → Prop}
theorem parse_u (t : Str) (hG : GMax w) (hk : ∀ (y : Sl) w', OwM w' y (txL t) (fun b => w.heap.size ≤ b ∧ b < w'.heap.size) → Fr Non w w' → k (.tuple (List.toArray [.agg (List.toArray (mc (mD (txD t) y))), .int .i64 (txE t)])) w') :
    Cl Tryz.prog 21 [.string (mkS t)] w k := by
  refine tparse_spec t hG (fun d y w' ho h0 hy f => ?_) (fun w' h0 f => ?_)
  · have h0' : txE t = 0 := h0
    have e1 : txD t = d := by unfold txD; rw [if_pos h0', ho]; rfl
    have e2 : txL t = parseL t := by unfold txL; rw [if_pos h0']
    have := hk y w' (by rw [e2]; exact hy) f
    rw [e1, h0'] at this
    exact this
  · have h0' : ¬ txE t = 0 := h0
    have e1 : txD t = zDm := by unfold txD; rw [if_neg h0']
    have e2 : txL t = [] := by unfold txL; rw [if_neg h0']
    have := hk ⟨none, 0, 0⟩ w' (by rw [e2]; exact Own.nil _ _ _ _ _) f
    rw [e1] at this
    exact this
/-- A message's variable, written. -/
theorem msgVar {w1 : World} (m : Mh) {b : Nat} {w2 : World} (hb : b = w1.heap.size) (hw : w2 = w1.alloc (.cells (List.toArray [.int .u8 0, .int .u8 0, .int .u8 0, .int .u8 0, .int .u8 0, .slice none 0 0]) 26)) :
    mayCells w2 ⟨b, 0, none⟩ 0 6 ∧ ∀ w3, w3 = setCells w2 ⟨b, 0, none⟩ 0 (mc m) → Blk w3 b 26 (mc m) ∧ Fr Non w1 w3 := by
  have hB : Blk w2 b 26 (mc zM) := hb ▸ hw ▸ Blk.new w1 _ _
  have f2 : Fr Non w1 w2 := hw ▸ (Fr.refl Non w1).alloc _
  refine ⟨mayCells_of hB 0 6 (by simp [mc]), ?_⟩
  rintro w3 rfl
  exact ⟨hB.setAll rfl, f2.setAll hB (vs := mc m) rfl (fun h => absurd h (by omega))⟩
theorem msgAts {w1 : World} {m : Mh} {b : Nat} (h : Blk w1 b 26 (mc m)) : cellsAt w1 ⟨b, 0, none⟩ 0 (mc m) := h.ats _ 0 0 (fun q v hq => by simpa using hq)
def tA : Str := [77, 83, 72, 124, 94, 126, 92, 38, 124, 65, 94, 66, 38, 67, 126, 68, 13, 80, 73, 68, 124, 124, 13, 10]
theorem alA1 : txE tA = 0 := by kernel_rfl
theorem alA2 : (txL tA).length = 2 := by kernel_rfl
theorem alA3 : bkM (txL tA) ≤ BB := by decide +kernel
theorem alA4 : prE (mD (txD tA) ⟨none, 0, 0⟩) (txL tA) = 0 := by kernel_rfl
theorem alA5 : prS (mD (txD tA) ⟨none, 0, 0⟩) (txL tA) = [77, 83, 72, 124, 94, 126, 92, 38, 124, 65, 94, 66, 38, 67, 126, 68, 13, 80, 73, 68, 13] := by kernel_rfl
theorem alA6 : validM (mD (txD tA) ⟨none, 0, 0⟩) (txL tA) = true := by kernel_rfl
theorem alive8_spec (hG : GMax w) (hk : ∀ w', Fr Non w w' → k (.bool true) w') : Cl Tryz.prog 16 [] w k := by
  refine f16_ok ?_
  unfold f16
  refine parse_u tA hG fun y w1 hy f1 => ⟨_, _, _, _, _, y, _, rfl, ?_⟩
  intro b10 w11 hb10 hw11
  obtain ⟨m1, n1⟩ := msgVar (mD (txD tA) y) hb10 hw11
  refine ⟨m1, fun w12 hw12 => ?_⟩
  obtain ⟨hM, f12⟩ := n1 w12 hw12
  have hy12 := hy.fr (fun _ => EG.st) f12 (fun _ _ h => h)
  refine ⟨_, _, _, _, _, y, msgAts hM, tprint_spec (mD (txD tA) y) (txL tA) (OwM.rd hy12) alA3 (Dg_mD _ _) fun w19 f19 => ⟨_, _, rfl, ?_⟩⟩
  have e4 : prE (mD (txD tA) y) (txL tA) = 0 := alA4
  have e5 : prS (mD (txD tA) y) (txL tA) = [77, 83, 72, 124, 94, 126, 92, 38, 124, 65, 94, 66, 38, 67, 126, 68, 13, 80, 73, 68, 13] := alA5
  have e6 : validM (mD (txD tA) y) (txL tA) = true := alA6
  have hM19 := hM.fr f19 (fun h => h)
  have hyl := Own.len hy
  rw [alA2] at hyl
  rw [alA1, e4, e5]
  refine ⟨fun _ => ⟨fun _ => ⟨y, by rw [add_mk]; exact hM19.cell rfl, fun _ => ⟨fun _ => ⟨_, _, _, _, _, y, msgAts hM19, tvalid_spec (mD (txD tA) y) (txL tA) (OwM.rd (hy12.fr (fun _ => EG.st) f19 (fun _ _ h => h))) (sm_txL tA) (Dg_mD _ _) fun w30 f30 => ⟨_, rfl, ?_⟩⟩, fun h => absurd h (by decide)⟩, fun h => ?_⟩, fun h => absurd h (by decide)⟩, fun h => absurd h (by decide)⟩
  · rw [e6]; exact hk _ (((f1.trans' f12).trans' f19).trans' f30)
  · rw [hyl] at h; exact absurd h (by decide)
end
end Go.Proofs.YtoaoofobidhfjaaGreatDoor
