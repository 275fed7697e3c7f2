/- The law PathCounts. -/
import Derived.Test.YtpkkbbdffhcpaaaDoorM2

set_option linter.unusedSimpArgs false
set_option linter.unusedVariables false
namespace Go.Proofs.YtpkkbbdffhcpaaaDoor
open Go.V Go.RowKit
theorem cnt_take_le (name : Str) (l : List Seg) (n : Nat) : cnt name (l.take n) ≤ cnt name l := List.Sublist.countP_le (List.take_sublist n l)
theorem occ_ex (name : Str) : ∀ (l : List Seg) (n : Nat), 1 ≤ n → n ≤ cnt name l → ∃ i g, l[i]? = some g ∧ g.name = name ∧ cnt name (l.take (i + 1)) = n
  | [], n, h1, h2 => by simp [cnt] at h2; omega
  | g :: l, n, h1, h2 => by
    by_cases hg : g.name = name
    · by_cases hn : n = 1
      · exact ⟨0, g, rfl, hg, by simp [cnt, hg, hn]⟩
      · obtain ⟨i, g2, e1, e2, e3⟩ := occ_ex name l (n - 1) (by omega) (by simp [cnt, hg] at h2 ⊢; omega)
        refine ⟨i + 1, g2, by simpa using e1, e2, ?_⟩
        simp only [List.take_succ_cons, cnt, List.countP_cons, hg, beq_self_eq_true, if_true] at e3 ⊢
        omega
    · obtain ⟨i, g2, e1, e2, e3⟩ := occ_ex name l n h1 (by simp [cnt, hg] at h2 ⊢; omega)
      refine ⟨i + 1, g2, by simpa using e1, e2, ?_⟩
      have : (g.name == name) = false := by simpa using hg
      simp only [List.take_succ_cons, cnt, List.countP_cons, this] at e3 ⊢
      simpa using e3
theorem atF_isSome (name : Str) (l : List Seg) {occ : Int} (h : 1 ≤ occ) : (atF name occ l).isSome = decide (occ ≤ (cnt name l : Nat)) := by
  rw [Bool.eq_iff_iff, decide_eq_true_eq]
  unfold atF
  rw [List.find?_isSome]
  constructor
  · rintro ⟨i, _, hi⟩
    obtain ⟨g, _, _, e⟩ := of_decide_eq_true hi
    have := cnt_take_le name l (i + 1)
    omega
  · intro hle
    obtain ⟨i, g, e1, e2, e3⟩ := occ_ex name l occ.toNat (by omega) (by omega)
    refine ⟨i, ?_, decide_eq_true ⟨g, e1, e2, by omega⟩⟩
    have := (List.getElem?_eq_some_iff.1 e1).1
    simpa using this
section
variable {w : World} {k : Value → World → Prop}
theorem counts_spec (m : Mh) (name : Str) (l : List Seg) (hR : RM w m.s l) (hS : SmM l) (hp : name.length ≤ 1000000000000000) (hk : ∀ w', Fr Non w w' → k (.bool true) w') : Cl Tryd.prog 6 [.agg (List.toArray (mc m)), .string (mkS name)] w k := by
  refine f6_ok ?_
  unfold f6
  intro b8 w9 hb8 hw9
  have f9 : Fr Non w w9 := hw9 ▸ (Fr.refl Non w).alloc _
  have hM : Blk w9 b8 36 (mc m) := hb8 ▸ hw9 ▸ Blk.new w (mc m) 36
  have ats : ∀ {w' : World}, Blk w' b8 36 (mc m) → cellsAt w' ⟨b8, 0, none⟩ 0 (mc m) := fun h => h.ats (mc m) 0 0 (fun q v hq => by simpa using hq)
  refine ⟨m.d1, m.d2, m.d3, m.d4, m.d5, m.s, ats hM, light_any m l (hR.fr f9) hS fun b w16 g16 => ⟨_, rfl, fun _ => alive_spec fun w19 g19 => ⟨_, rfl, hk _ ((f9.trans' g16).trans' g19)⟩, fun _ => ?_⟩⟩
  have f16 := f9.trans' g16
  have hM16 := hM.fr g16 (fun h => h)
  refine ⟨m.d1, m.d2, m.d3, m.d4, m.d5, m.s, ats hM16, count_spec m name l (hR.fr f16) hS.1 fun w28 g28 => ⟨_, rfl, ?_⟩⟩
  have f28 := f16.trans' g28
  refine valid_spec ⟨name, 1, 0, 0, 0, 0⟩ hp fun w31 g31 => ⟨_, rfl, fun _ => alive_spec fun w34 g34 => ⟨_, rfl, hk _ ((f28.trans' g31).trans' g34)⟩, fun hv => ?_⟩
  have hv := (Bool.not_eq_false' _).mp hv
  have f31 := f28.trans' g31
  have hM31 := (hM16.fr g28 (fun h => h)).fr g31 (fun h => h)
  refine ⟨fun t i w' => ∃ j : Nat, i = ((j + 1 : Nat) : Int) ∧ j ≤ 200 ∧ t = 200 - j ∧ Fr Non w w' ∧ Blk w' b8 36 (mc m), ⟨200, 0, rfl, by omega, rfl, f31, hM31⟩, ?_⟩
  rintro t i w41 ⟨j, rfl, hj, rfl, f41, hM41⟩
  refine ⟨fun h => ?_, fun h => alive_spec fun w51 g51 => ⟨_, rfl, hk _ (f41.trans' g51)⟩⟩
  have hj : j < 200 := by have := of_decide_eq_true h; omega
  refine ⟨m.d1, m.d2, m.d3, m.d4, m.d5, m.s, ats hM41, has_spec m ⟨name, ((j + 1 : Nat) : Int), 0, 0, 0, 0⟩ l (hR.fr f41) hS hp ⟨show (-9223372036854775808 : Int) ≤ ((j + 1 : Nat) : Int) by omega, show ((j + 1 : Nat) : Int) ≤ 9223372036854775807 by omega⟩ fun w48 g48 => ⟨_, rfl, fun hb => ?_, fun _ => ?_⟩⟩
  · exfalso
    have hvj : validP ⟨name, ((j + 1 : Nat) : Int), 0, 0, 0, 0⟩ = true := by
      unfold validP at hv ⊢
      simp only [Bool.and_eq_true] at hv ⊢
      refine ⟨⟨hv.1.1, ?_⟩, hv.2⟩
      unfold inR; simp; omega
    have : hasP l ⟨name, ((j + 1 : Nat) : Int), 0, 0, 0, 0⟩ = decide (((j + 1 : Nat) : Int) ≤ (cnt name l : Nat)) := by
      unfold hasP; rw [if_pos hvj, if_pos rfl]; exact atF_isSome name l (occ := ((j + 1 : Nat) : Int)) (by omega)
    rw [this] at hb; simp at hb
  · exact ⟨200 - (j + 1), by omega, j + 1, by rw [w64_id (by omega) (by omega)]; push_cast; rfl, by omega, rfl, f41.trans' g48, hM41.fr g48 (fun h => h)⟩
end
end Go.Proofs.YtpkkbbdffhcpaaaDoor
