/- Functions of the program that read messages by paths. -/
import Derived.Test.YthpeengmcjpknaaGreatDoorPM1
set_option linter.unusedSimpArgs false
set_option linter.unusedVariables false
namespace Go.Proofs.YthpeengmcjpknaaGreatDoor
open Go.V Go.RowKit
def nthD {α : Type} (l : List (List α)) (n : Int) : List α := if 1 ≤ n ∧ n ≤ l.length then l.getD (n - 1).toNat [] else []
theorem nthD_in {α : Type} {l : List (List α)} {n : Int} (h1 : 1 ≤ n) (h2 : n ≤ l.length) : ∃ h : (n - 1).toNat < l.length, nthD l n = l[(n - 1).toNat] := by
  have : (n - 1).toNat < l.length := by omega
  refine ⟨this, ?_⟩
  unfold nthD; rw [if_pos ⟨h1, h2⟩, List.getD_eq_getElem?_getD, List.getElem?_eq_getElem this]; rfl
theorem nthD_out {α : Type} {l : List (List α)} {n : Int} (h : ¬ (1 ≤ n ∧ n ≤ l.length)) : nthD l n = [] := by unfold nthD; rw [if_neg h]
def getP (l : List Seg) (p : Pa) : Str :=
  if validP p = true then (if p.fld = 0 then [] else match atF p.seg p.occ l with
    | some i => nthD (nthD (nthD (nthD ((l[i]?.map Seg.flds).getD []) p.fld) p.rep) p.cmp) p.sub
    | none => []) else []
theorem atF_lt {name : Str} {occ : Int} {l : List Seg} {i : Nat} (h : atF name occ l = some i) : i < l.length := by
  unfold atF at h
  have := List.mem_of_find?_eq_some h
  simpa using this
theorem atI_neg (o : Option Nat) : decide (atI o < 0) = o.isNone := by
  cases o with
  | none => rfl
  | some i => exact decide_eq_false (show ¬ ((i : Int) < 0) by omega)
section
variable {w : World} {k : Value → World → Prop}
theorem nth3_spec (x : Sl) (n : Int) {l} (hX : RdL 1 RF w x l) (hS : l.length ≤ BB) (hk : ∀ y b, RdL 1 RR w y (nthD l n) → k (.tuple (List.toArray [.slice y.base y.len y.cap, .bool b])) w) : Cl Tryz.prog 225 [.slice x.base x.len x.cap, .int .i64 n] w k := by
  refine f225_ok ?_
  unfold f225
  have hL := hX.1
  unfold BB at hS
  refine ⟨fun v w' => w' = w ∧ v = !decide (1 ≤ n ∧ n ≤ (l.length : Int)), ?_, fun h => ⟨rfl, ?_⟩, fun h => ⟨rfl, ?_⟩⟩
  case refine_2 => have h := of_decide_eq_true h
                   symm; simp only [Bool.not_eq_true', decide_eq_false_iff_not]; omega
  case refine_3 => have h := of_decide_eq_false h
                   rw [hL]; by_cases h2 : (l.length : Int) < n
                   · rw [decide_eq_true h2]; symm; simp only [Bool.not_eq_true', decide_eq_false_iff_not]; omega
                   · rw [decide_eq_false h2]; symm; simp only [Bool.not_eq_false', decide_eq_true_eq]; omega
  rintro v w' ⟨rfl, rfl⟩
  refine ⟨fun h => ?_, fun h => ?_⟩
  · have h : ¬ (1 ≤ n ∧ n ≤ (l.length : Int)) := of_decide_eq_false ((Bool.not_eq_true' _).mp h)
    exact hk ⟨none, 0, 0⟩ false (by rw [nthD_out h]; exact RdL.nil)
  · have h : 1 ≤ n ∧ n ≤ (l.length : Int) := of_decide_eq_true ((Bool.not_eq_false' _).mp h)
    obtain ⟨hi, he⟩ := nthD_in h.1 h.2
    obtain ⟨a, ha, y, hy, hY⟩ := hX.2 _ hi
    rw [w64_id (by omega) (by omega)]
    exact ⟨a, ha, ⟨by omega, by omega⟩, y, hy, hk y true (by rw [he]; exact hY)⟩
theorem nth2_spec (x : Sl) (n : Int) {l} (hX : RdL 1 RR w x l) (hS : l.length ≤ BB) (hk : ∀ y b, RdL 1 RC w y (nthD l n) → k (.tuple (List.toArray [.slice y.base y.len y.cap, .bool b])) w) : Cl Tryz.prog 226 [.slice x.base x.len x.cap, .int .i64 n] w k := by
  refine f226_ok ?_
  unfold f226
  have hL := hX.1
  unfold BB at hS
  refine ⟨fun v w' => w' = w ∧ v = !decide (1 ≤ n ∧ n ≤ (l.length : Int)), ?_, fun h => ⟨rfl, ?_⟩, fun h => ⟨rfl, ?_⟩⟩
  case refine_2 => have h := of_decide_eq_true h
                   symm; simp only [Bool.not_eq_true', decide_eq_false_iff_not]; omega
  case refine_3 => have h := of_decide_eq_false h
                   rw [hL]; by_cases h2 : (l.length : Int) < n
                   · rw [decide_eq_true h2]; symm; simp only [Bool.not_eq_true', decide_eq_false_iff_not]; omega
                   · rw [decide_eq_false h2]; symm; simp only [Bool.not_eq_false', decide_eq_true_eq]; omega
  rintro v w' ⟨rfl, rfl⟩
  refine ⟨fun h => ?_, fun h => ?_⟩
  · have h : ¬ (1 ≤ n ∧ n ≤ (l.length : Int)) := of_decide_eq_false ((Bool.not_eq_true' _).mp h)
    exact hk ⟨none, 0, 0⟩ false (by rw [nthD_out h]; exact RdL.nil)
  · have h : 1 ≤ n ∧ n ≤ (l.length : Int) := of_decide_eq_true ((Bool.not_eq_false' _).mp h)
    obtain ⟨hi, he⟩ := nthD_in h.1 h.2
    obtain ⟨a, ha, y, hy, hY⟩ := hX.2 _ hi
    rw [w64_id (by omega) (by omega)]
    exact ⟨a, ha, ⟨by omega, by omega⟩, y, hy, hk y true (by rw [he]; exact hY)⟩
theorem nth1_spec (x : Sl) (n : Int) {l} (hX : RdL 1 RC w x l) (hS : l.length ≤ BB) (hk : ∀ y b, RdL 1 RdStr w y (nthD l n) → k (.tuple (List.toArray [.slice y.base y.len y.cap, .bool b])) w) : Cl Tryz.prog 227 [.slice x.base x.len x.cap, .int .i64 n] w k := by
  refine f227_ok ?_
  unfold f227
  have hL := hX.1
  unfold BB at hS
  refine ⟨fun v w' => w' = w ∧ v = !decide (1 ≤ n ∧ n ≤ (l.length : Int)), ?_, fun h => ⟨rfl, ?_⟩, fun h => ⟨rfl, ?_⟩⟩
  case refine_2 => have h := of_decide_eq_true h
                   symm; simp only [Bool.not_eq_true', decide_eq_false_iff_not]; omega
  case refine_3 => have h := of_decide_eq_false h
                   rw [hL]; by_cases h2 : (l.length : Int) < n
                   · rw [decide_eq_true h2]; symm; simp only [Bool.not_eq_true', decide_eq_false_iff_not]; omega
                   · rw [decide_eq_false h2]; symm; simp only [Bool.not_eq_false', decide_eq_true_eq]; omega
  rintro v w' ⟨rfl, rfl⟩
  refine ⟨fun h => ?_, fun h => ?_⟩
  · have h : ¬ (1 ≤ n ∧ n ≤ (l.length : Int)) := of_decide_eq_false ((Bool.not_eq_true' _).mp h)
    exact hk ⟨none, 0, 0⟩ false (by rw [nthD_out h]; exact RdL.nil)
  · have h : 1 ≤ n ∧ n ≤ (l.length : Int) := of_decide_eq_true ((Bool.not_eq_false' _).mp h)
    obtain ⟨hi, he⟩ := nthD_in h.1 h.2
    obtain ⟨a, ha, y, hy, hY⟩ := hX.2 _ hi
    rw [w64_id (by omega) (by omega)]
    exact ⟨a, ha, ⟨by omega, by omega⟩, y, hy, hk y true (by rw [he]; exact hY)⟩
theorem nth0_spec (x : Sl) (n : Int) {l} (hX : RdL 1 RdStr w x l) (hS : l.length ≤ BB) (hk : ∀ b, k (.tuple (List.toArray [.string (mkS (nthD l n)), .bool b])) w) : Cl Tryz.prog 228 [.slice x.base x.len x.cap, .int .i64 n] w k := by
  refine f228_ok ?_
  unfold f228
  have hL := hX.1
  unfold BB at hS
  refine ⟨fun v w' => w' = w ∧ v = !decide (1 ≤ n ∧ n ≤ (l.length : Int)), ?_, fun h => ⟨rfl, ?_⟩, fun h => ⟨rfl, ?_⟩⟩
  case refine_2 => have h := of_decide_eq_true h
                   symm; simp only [Bool.not_eq_true', decide_eq_false_iff_not]; omega
  case refine_3 => have h := of_decide_eq_false h
                   rw [hL]; by_cases h2 : (l.length : Int) < n
                   · rw [decide_eq_true h2]; symm; simp only [Bool.not_eq_true', decide_eq_false_iff_not]; omega
                   · rw [decide_eq_false h2]; symm; simp only [Bool.not_eq_false', decide_eq_true_eq]; omega
  rintro v w' ⟨rfl, rfl⟩
  refine ⟨fun h => ?_, fun h => ?_⟩
  · have h : ¬ (1 ≤ n ∧ n ≤ (l.length : Int)) := of_decide_eq_false ((Bool.not_eq_true' _).mp h)
    have := hk false
    rw [nthD_out h] at this; exact this
  · have h : 1 ≤ n ∧ n ≤ (l.length : Int) := of_decide_eq_true ((Bool.not_eq_false' _).mp h)
    obtain ⟨hi, he⟩ := nthD_in h.1 h.2
    obtain ⟨a, ha, hy⟩ := hX.2 _ hi
    rw [w64_id (by omega) (by omega)]
    have := hk true
    rw [he] at this
    exact ⟨a, ha, ⟨by omega, by omega⟩, _, hy, this⟩
theorem nthD_all {α : Type} {l : List (List α)} {n : Int} {P : List α → Prop} (h0 : P []) (h : ∀ x ∈ l, P x) : P (nthD l n) := by
  by_cases hh : 1 ≤ n ∧ n ≤ (l.length : Int)
  · obtain ⟨hi, he⟩ := nthD_in hh.1 hh.2
    rw [he]; exact h _ (List.getElem_mem hi)
  · rw [nthD_out hh]; exact h0
theorem SmF0 : SmF [] := ⟨Nat.zero_le _, fun r h => by cases h⟩
theorem SmR0 : SmR [] := ⟨Nat.zero_le _, fun r h => by cases h⟩
theorem SmC0 : SmC [] := ⟨Nat.zero_le _, fun r h => by cases h⟩
theorem get_spec (m : Mh) (p : Pa) (l : List Seg) (hR : RM w m.s l) (hS : SmM l) (hp : p.seg.length ≤ 1000000000000000) (ho : -9223372036854775808 ≤ p.occ ∧ p.occ ≤ 9223372036854775807) (hk : ∀ w', Fr Non w w' → k (.string (mkS (getP l p))) w') : Cl Tryz.prog 65 [.agg (List.toArray (mc m)), .agg (List.toArray (pc p))] w k := by
  refine f65_ok ?_
  unfold f65
  intro b13 w14 hb13 hw14 b15 w16 hb15 hw16
  have f14 : Fr Non w w14 := hw14 ▸ (Fr.refl Non w).alloc _
  have f16 : Fr Non w w16 := hw16 ▸ f14.alloc _
  have hM14 : Blk w14 b13 26 (mc m) := hb13 ▸ hw14 ▸ Blk.new w (mc m) 26
  have hM : Blk w16 b13 26 (mc m) := hw16 ▸ hM14.alloc _
  have hP : Blk w16 b15 28 (pc p) := hb15 ▸ hw16 ▸ Blk.new w14 (pc p) 28
  refine ⟨m.d1, m.d2, m.d3, m.d4, m.d5, m.s, hM.ats (mc m) 0 0 (fun q v hq => by simpa using hq), p.seg, hP.cell rfl, p.occ, by rw [add_mk]; exact hP.cell rfl, ?_⟩
  refine at_spec m p.seg p.occ l (hR.fr f16) hS.1 ho fun w25 g25 => ⟨_, rfl, ?_⟩
  have hM1 := hM.fr g25 (fun h => h)
  have hP1 := hP.fr g25 (fun h => h)
  refine ⟨fun v w' => (v = true → getP l p = []) ∧ (v = false → validP p = true ∧ p.fld ≠ 0 ∧ ∃ i, atF p.seg p.occ l = some i) ∧ Fr Non w25 w', ?_, p.seg, p.occ, p.fld, p.rep, p.cmp, p.sub, patat hP1, ?_⟩
  · rintro v w30 ⟨h1, h2, g30⟩
    have f30 := (f16.trans' g25).trans' g30
    refine ⟨fun hv => ?_, fun hv => ?_⟩
    · have := hk _ f30
      rw [h1 hv] at this; exact this
    rintro w41 rfl
    obtain ⟨hval, hf0, i, hi⟩ := h2 hv
    have hlt := atF_lt hi
    have g41 : Fr Non w25 w30.drew := g30.drew
    have f41 : Fr Non w w30.drew := f30.drew
    have hM2 := hM1.fr g41 (fun h => h)
    have hP2 := hP1.fr g41 (fun h => h)
    have hR2 := hR.fr f41
    obtain ⟨a, ha, hn, x, hx, hX⟩ := hR2.2 i hlt
    obtain ⟨_, hS1, hSF⟩ := hS.2 _ (List.getElem_mem hlt)
    have hL := hR.1
    rw [hi]
    have hg : getP l p = nthD (nthD (nthD (nthD l[i].flds p.fld) p.rep) p.cmp) p.sub := by
      unfold getP; rw [if_pos hval, if_neg hf0, hi]; simp [hlt]
    refine ⟨m.s, by rw [add_mk]; exact hM2.cell rfl, a, ha, ⟨by simp [atI], by simp [atI]; omega⟩, x, hx, p.fld, by rw [add_mk]; exact hP2.cell rfl, ?_⟩
    have s2 : SmF (nthD l[i].flds p.fld) := nthD_all SmF0 hSF
    have s3 : SmR (nthD (nthD l[i].flds p.fld) p.rep) := nthD_all SmR0 s2.2
    have s4 : SmC (nthD (nthD (nthD l[i].flds p.fld) p.rep) p.cmp) := nthD_all SmC0 s3.2
    refine nth3_spec x p.fld hX hS1 fun y b hY => ⟨_, _, rfl, p.rep, by rw [add_mk]; exact hP2.cell rfl, ?_⟩
    refine nth2_spec y p.rep hY s2.1 fun z b hZ => ⟨_, _, rfl, p.cmp, by rw [add_mk]; exact hP2.cell rfl, ?_⟩
    refine nth1_spec z p.cmp hZ s3.1 fun u b hU => ⟨_, _, rfl, p.sub, by rw [add_mk]; exact hP2.cell rfl, ?_⟩
    refine nth0_spec u p.sub hU s4.1 fun b => ⟨_, _, rfl, ?_⟩
    have := hk _ f41
    rw [hg] at this; exact this
  · refine valid_spec p hp fun w37 g37 => ⟨_, rfl, fun hv => ⟨fun _ => ?_, fun h => (by cases h), g37⟩, fun hv => ⟨p.fld, by rw [add_mk]; exact (hP1.fr g37 (fun h => h)).cell rfl, fun h0 => ⟨fun _ => ?_, fun h => (by cases h), g37⟩, fun h0 => ⟨fun hh => ?_, fun hh => ?_, g37⟩⟩⟩
    · have hv := (Bool.not_eq_true' _).mp hv
      unfold getP; rw [if_neg (by rw [hv]; simp)]
    · have hv := (Bool.not_eq_false' _).mp hv
      unfold getP; rw [if_pos hv, if_pos (by simpa using h0)]
    · have hv := (Bool.not_eq_false' _).mp hv
      rw [atI_neg] at hh
      have : atF p.seg p.occ l = none := by simpa using hh
      unfold getP; rw [if_pos hv, if_neg (by simpa using h0), this]
    · have hv := (Bool.not_eq_false' _).mp hv
      rw [atI_neg] at hh
      refine ⟨hv, by simpa using h0, ?_⟩
      cases ho : atF p.seg p.occ l with
      | none => rw [ho] at hh; cases hh
      | some i => exact ⟨i, rfl⟩
end
end Go.Proofs.YthpeengmcjpknaaGreatDoor
