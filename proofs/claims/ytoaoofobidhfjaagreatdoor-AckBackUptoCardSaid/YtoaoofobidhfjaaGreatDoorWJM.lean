/- Path: places, walked. -/
import Derived.Test.YtoaoofobidhfjaaGreatDoorWJS
import Derived.Test.YtoaoofobidhfjaaGreatDoorWM2
import Derived.Test.YtoaoofobidhfjaaGreatDoorWM4
import Derived.Test.YtoaoofobidhfjaaGreatDoorWM8
set_option linter.unusedSimpArgs false
set_option linter.unusedVariables false
namespace Go.Proofs.YtoaoofobidhfjaaGreatDoor
open Go.V Go.RowKit
section
variable {w : World} {k : Value → World → Prop}
theorem count_spec (m : Mh) (name : Str) (l : List Seg) (hR : RM w m.s l) (hS : l.length ≤ BB) (hk : ∀ w', Fr Non w w' → k (.int .i64 (cnt name l)) w') : Cl Tryz.prog 100 [.agg (List.toArray (mc m)), .string (mkS name)] w k := by
  refine f100_ok ?_
  unfold f100
  intro b8 w9 hb8 hw9
  have f9 : Fr Non w w9 := hw9 ▸ (Fr.refl Non w).alloc _
  have hB : Blk w9 b8 26 (mc m) := hb8 ▸ hw9 ▸ Blk.new w (mc m) 26
  have hL := hR.1
  unfold BB at hS
  refine ⟨m.s, by rw [add_mk]; exact hB.cell rfl, fun t n i w' => ∃ j : Nat, i = j ∧ j ≤ l.length ∧ t = l.length - j ∧ n = (cnt name (l.take j) : Nat) ∧ Fr Non w w', ⟨l.length, 0, rfl, by omega, rfl, rfl, f9⟩, ?_⟩
  rintro t n i w16 ⟨j, rfl, hj, rfl, rfl, f16⟩
  refine ⟨fun h => ?_, fun h => ?_⟩
  · have hj : j < l.length := by have := of_decide_eq_true h; omega
    obtain ⟨a, ha, hn, x, hx, hX⟩ := (hR.fr f16).2 j hj
    have hle := cnt_le name (l.take j)
    have hs := cnt_snoc name hj
    simp only [List.length_take] at hle
    refine ⟨fun n w' => n = (cnt name (l.take (j + 1)) : Nat) ∧ Fr Non w w', ?_, a, ha, ⟨by omega, by omega⟩, l[j].name, x, ⟨hn, hx, trivial⟩, ?_⟩
    · rintro n w19 ⟨rfl, f19⟩
      exact ⟨l.length - (j + 1), by omega, j + 1, by rw [w64_id (by omega) (by omega)]; push_cast; rfl, by omega, rfl, rfl, f19⟩
    · intro b23 w24 hb23 hw24
      have hC : Blk w24 b23 35 [.string (mkS []), .slice none 0 0] := hb23 ▸ hw24 ▸ Blk.new w16 _ 35
      have f24 : Fr Non w16 w24 := hw24 ▸ (Fr.refl Non w16).alloc _
      refine ⟨mayCells_of hC 0 2 (by simp), fun w25 hw25 => ?_⟩
      have hD : Blk w25 b23 35 [.string (mkS l[j].name), .slice x.base x.len x.cap] := hw25 ▸ hC.setAll rfl
      have f25 : Fr Non w w25 := f16.trans' (hw25 ▸ f24.setAll hC (vs := [.string (mkS l[j].name), .slice x.base x.len x.cap]) rfl (fun h => absurd h (by omega)))
      refine ⟨l[j].name, hD.cell rfl, fun he => ⟨?_, f25⟩, fun he => ⟨?_, f25⟩⟩
      · rw [hs, he, w64_id (by omega) (by omega)]; simp
      · rw [hs, he]; simp
  · have : j = l.length := by have := of_decide_eq_false h; omega
    subst this
    rw [List.take_length]; exact hk _ f16
set_option maxHeartbeats 1000000 in
theorem at_spec (m : Mh) (name : Str) (occ : Int) (l : List Seg) (hR : RM w m.s l) (hS : l.length ≤ BB) (ho : -9223372036854775808 ≤ occ ∧ occ ≤ 9223372036854775807) (hk : ∀ w', Fr Non w w' → k (.int .i64 (atI (atF name occ l))) w') : Cl Tryz.prog 102 [.agg (List.toArray (mc m)), .string (mkS name), .int .i64 occ] w k := by
  refine f102_ok ?_
  unfold f102
  intro b9 w10 hb9 hw10 b11 w12 hb11 hw12 b13 w14 hb13 hw14
  have f10 : Fr Non w w10 := hw10 ▸ (Fr.refl Non w).alloc _
  have f12 : Fr Non w w12 := hw12 ▸ f10.alloc _
  have f14 : Fr Non w w14 := hw14 ▸ f12.alloc _
  have hB10 : Blk w10 b9 26 (mc m) := hb9 ▸ hw10 ▸ Blk.new w (mc m) 26
  have hB : Blk w14 b9 26 (mc m) := hw14 ▸ (hw12 ▸ hB10.alloc _ : Blk w12 _ _ _).alloc _
  have hN12 : Blk w12 b11 9 [.string (mkS name)] := hb11 ▸ hw12 ▸ Blk.new w10 _ 9
  have hN : Blk w14 b11 9 [.string (mkS name)] := hw14 ▸ hN12.alloc _
  have hO : Blk w14 b13 3 [.int .i64 occ] := hb13 ▸ hw14 ▸ Blk.new w12 _ 3
  have hL := hR.1
  have l9 := hB10.lt
  have l11 := hN12.lt
  have z9 : w.heap.size ≤ b9 := by omega
  have z10 : w.heap.size ≤ w10.heap.size := f10.size
  have z12 : w.heap.size ≤ w12.heap.size := f12.size
  unfold BB at hS
  refine ⟨m.s, by rw [add_mk]; exact hB.cell rfl, ?_⟩
  have e0 : IntKind.i64.wrap (occ - (cnt name (l.take 0) : Nat)) = occ := by simp only [List.take_zero, cnt, List.countP_nil]; rw [IntKind.wrap_i64]; omega
  refine f148_ok ?_
  unfold f148
  refine ⟨fun t i w' => ∃ j : Nat, i = j ∧ j ≤ l.length ∧ t = l.length - j ∧ Fr Non w w' ∧ Blk w' b11 9 [.string (mkS name)] ∧ Blk w' b13 3 [.int .i64 (IntKind.i64.wrap (occ - (cnt name (l.take j) : Nat)))] ∧ ∀ i, i < j → atp name occ l i = false,
    ⟨l.length, 0, rfl, by omega, rfl, f14, hN, by rw [e0]; exact hO, fun i h => by omega⟩, ?_⟩
  rintro t i w7 ⟨j, rfl, hj, rfl, f7, hN7, hO7, hno⟩
  refine ⟨fun h => ?_, fun h => ?_⟩
  · have hj : j < l.length := by have := of_decide_eq_true h; omega
    obtain ⟨a, ha, hn, x, hx, hX⟩ := (hR.fr f7).2 j hj
    have hle := cnt_le name (l.take j)
    have hs := cnt_snoc name hj
    have hp := atp_eq name occ hj
    rw [hs] at hp
    simp only [List.length_take] at hle
    refine ⟨a, ha, ⟨by omega, by omega⟩, l[j].name, x, ⟨hn, hx, trivial⟩, ?_⟩
    refine Cv.of (caps := [.pointer (some ⟨b11, 0, none⟩), .pointer (some ⟨b13, 0, none⟩)]) (.mk (by kernel_rfl)) ?_
    refine f149_ok ?_
    unfold f149
    intro b5 w6 hb5 hw6
    have f6 : Fr Non w7 w6 := hw6 ▸ (Fr.refl Non w7).alloc _
    have hG : Blk w6 b5 35 [.string (mkS l[j].name), .slice x.base x.len x.cap] := hb5 ▸ hw6 ▸ Blk.new w7 _ 35
    have hN6 := hN7.fr f6 (fun h => h)
    have hO6 := hO7.fr f6 (fun h => h)
    have l13 := hO7.lt
    refine ⟨fun w' => Fr Non w w' ∧ Blk w' b5 35 [.string (mkS l[j].name), .slice x.base x.len x.cap] ∧ Blk w' b11 9 [.string (mkS name)] ∧ Blk w' b13 3 [.int .i64 (IntKind.i64.wrap (occ - (cnt name (l.take (j + 1)) : Nat)))], ?_, l[j].name, hG.cell rfl, name, hN6.cell rfl, fun he => ⟨_, hO6.cell rfl, hO6.isS (by simp), hO6.free _, ?_⟩, fun he => ⟨f7.trans' f6, hG, hN6, by rw [hs, he]; exact hO6⟩⟩
    · rintro w8 ⟨f8, hG8, hN8, hO8⟩
      refine ⟨l[j].name, hG8.cell rfl, name, hN8.cell rfl, fun he => ⟨_, hO8.cell rfl, ⟨_, rfl, fun hz => ?_, fun hz => ?_⟩⟩, fun he => ⟨_, rfl, fun hz => (by cases hz), fun _ => ?_⟩⟩
      · have : atF name occ l = some j := find_some hj hno (by
          show atp name occ l j = true
          rw [hp, he]; rw [hs, he, IntKind.wrap_i64] at hz; simp only [if_true, beq_iff_eq, Bool.true_and, decide_eq_true_eq] at hz ⊢; omega)
        rw [this] at hk; exact ⟨_, rfl, hk _ f8⟩
      · refine ⟨l.length - (j + 1), by omega, j + 1, by rw [w64_id (by omega) (by omega)]; push_cast; rfl, by omega, rfl, f8, hN8, hO8, fun i hi => ?_⟩
        by_cases hij : i = j
        · subst hij; rw [hp, he]; rw [hs, he, IntKind.wrap_i64] at hz; simp only [if_true, beq_eq_false_iff_ne, Bool.true_and, decide_eq_false_iff_not, ne_eq] at hz ⊢; omega
        · exact hno i (by omega)
      · refine ⟨l.length - (j + 1), by omega, j + 1, by rw [w64_id (by omega) (by omega)]; push_cast; rfl, by omega, rfl, f8, hN8, hO8, fun i hi => ?_⟩
        by_cases hij : i = j
        · subst hij; rw [hp, he]; rfl
        · exact hno i (by omega)
    · rintro w12 rfl
      have e : IntKind.i64.wrap (IntKind.i64.wrap (occ - (cnt name (l.take j) : Nat)) - 1) = IntKind.i64.wrap (occ - (cnt name (l.take (j + 1)) : Nat)) := by
        rw [hs, he]; simp only [IntKind.wrap_i64, if_true]; omega
      rw [e]
      have n13 : w.heap.size ≤ b13 := by omega
      have hlt5 : b13 < b5 := by omega
      exact ⟨(f7.trans' f6).set (a := ⟨b13, 0, none⟩) (fun h => by simp only at h; omega) _, hG.ne (a := ⟨b13, 0, none⟩) (by simp only; omega) _, hN6.ne (a := ⟨b13, 0, none⟩) (by simp only; omega) _, hO6.set 0 _⟩
  · have : j = l.length := by have := of_decide_eq_false h; omega
    subst this
    have : atF name occ l = none := find_none hno
    rw [this] at hk; exact ⟨_, rfl, hk _ f7⟩
end
section
variable {w : World} {k : Value → World → Prop}
theorem nth3_spec (x : Sl) (n : Int) {l} (hX : RdL 1 RF w x l) (hS : l.length ≤ BB) (hk : ∀ y b, RdL 1 RR w y (nthD l n) → k (.tuple (List.toArray [.slice y.base y.len y.cap, .bool b])) w) : Cl Tryz.prog 104 [.slice x.base x.len x.cap, .int .i64 n] w k := by
  refine f104_ok ?_
  unfold f104
  have hL := hX.1
  unfold BB at hS
  refine ⟨fun v w' => w' = w ∧ v = !decide (1 ≤ n ∧ n ≤ (l.length : Int)), ?_, fun h => ⟨rfl, ?_⟩, fun h => ⟨rfl, ?_⟩⟩
  case refine_2 => have h := of_decide_eq_true h
                   symm; simp only [Bool.not_eq_true', decide_eq_false_iff_not]; omega
  case refine_3 => have h := of_decide_eq_false h
                   rw [hL]; by_cases h2 : (l.length : Int) < n
                   · rw [decide_eq_true h2]; symm; simp only [Bool.not_eq_true', decide_eq_false_iff_not]; omega
                   · rw [decide_eq_false h2]; symm; simp only [Bool.not_eq_false', decide_eq_true_eq]; omega
  rintro v w' ⟨rfl, rfl⟩
  refine ⟨fun h => ?_, fun h => ?_⟩
  · have h : ¬ (1 ≤ n ∧ n ≤ (l.length : Int)) := of_decide_eq_false ((Bool.not_eq_true' _).mp h)
    exact hk ⟨none, 0, 0⟩ false (by rw [nthD_out h]; exact RdL.nil)
  · have h : 1 ≤ n ∧ n ≤ (l.length : Int) := of_decide_eq_true ((Bool.not_eq_false' _).mp h)
    obtain ⟨hi, he⟩ := nthD_in h.1 h.2
    obtain ⟨a, ha, y, hy, hY⟩ := hX.2 _ hi
    rw [w64_id (by omega) (by omega)]
    exact ⟨a, ha, ⟨by omega, by omega⟩, y, hy, hk y true (by rw [he]; exact hY)⟩
theorem nth2_spec (x : Sl) (n : Int) {l} (hX : RdL 1 RR w x l) (hS : l.length ≤ BB) (hk : ∀ y b, RdL 1 RC w y (nthD l n) → k (.tuple (List.toArray [.slice y.base y.len y.cap, .bool b])) w) : Cl Tryz.prog 105 [.slice x.base x.len x.cap, .int .i64 n] w k := by
  refine f105_ok ?_
  unfold f105
  have hL := hX.1
  unfold BB at hS
  refine ⟨fun v w' => w' = w ∧ v = !decide (1 ≤ n ∧ n ≤ (l.length : Int)), ?_, fun h => ⟨rfl, ?_⟩, fun h => ⟨rfl, ?_⟩⟩
  case refine_2 => have h := of_decide_eq_true h
                   symm; simp only [Bool.not_eq_true', decide_eq_false_iff_not]; omega
  case refine_3 => have h := of_decide_eq_false h
                   rw [hL]; by_cases h2 : (l.length : Int) < n
                   · rw [decide_eq_true h2]; symm; simp only [Bool.not_eq_true', decide_eq_false_iff_not]; omega
                   · rw [decide_eq_false h2]; symm; simp only [Bool.not_eq_false', decide_eq_true_eq]; omega
  rintro v w' ⟨rfl, rfl⟩
  refine ⟨fun h => ?_, fun h => ?_⟩
  · have h : ¬ (1 ≤ n ∧ n ≤ (l.length : Int)) := of_decide_eq_false ((Bool.not_eq_true' _).mp h)
    exact hk ⟨none, 0, 0⟩ false (by rw [nthD_out h]; exact RdL.nil)
  · have h : 1 ≤ n ∧ n ≤ (l.length : Int) := of_decide_eq_true ((Bool.not_eq_false' _).mp h)
    obtain ⟨hi, he⟩ := nthD_in h.1 h.2
    obtain ⟨a, ha, y, hy, hY⟩ := hX.2 _ hi
    rw [w64_id (by omega) (by omega)]
    exact ⟨a, ha, ⟨by omega, by omega⟩, y, hy, hk y true (by rw [he]; exact hY)⟩
theorem nth1_spec (x : Sl) (n : Int) {l} (hX : RdL 1 RC w x l) (hS : l.length ≤ BB) (hk : ∀ y b, RdL 1 RdStr w y (nthD l n) → k (.tuple (List.toArray [.slice y.base y.len y.cap, .bool b])) w) : Cl Tryz.prog 106 [.slice x.base x.len x.cap, .int .i64 n] w k := by
  refine f106_ok ?_
  unfold f106
  have hL := hX.1
  unfold BB at hS
  refine ⟨fun v w' => w' = w ∧ v = !decide (1 ≤ n ∧ n ≤ (l.length : Int)), ?_, fun h => ⟨rfl, ?_⟩, fun h => ⟨rfl, ?_⟩⟩
  case refine_2 => have h := of_decide_eq_true h
                   symm; simp only [Bool.not_eq_true', decide_eq_false_iff_not]; omega
  case refine_3 => have h := of_decide_eq_false h
                   rw [hL]; by_cases h2 : (l.length : Int) < n
                   · rw [decide_eq_true h2]; symm; simp only [Bool.not_eq_true', decide_eq_false_iff_not]; omega
                   · rw [decide_eq_false h2]; symm; simp only [Bool.not_eq_false', decide_eq_true_eq]; omega
  rintro v w' ⟨rfl, rfl⟩
  refine ⟨fun h => ?_, fun h => ?_⟩
  · have h : ¬ (1 ≤ n ∧ n ≤ (l.length : Int)) := of_decide_eq_false ((Bool.not_eq_true' _).mp h)
    exact hk ⟨none, 0, 0⟩ false (by rw [nthD_out h]; exact RdL.nil)
  · have h : 1 ≤ n ∧ n ≤ (l.length : Int) := of_decide_eq_true ((Bool.not_eq_false' _).mp h)
    obtain ⟨hi, he⟩ := nthD_in h.1 h.2
    obtain ⟨a, ha, y, hy, hY⟩ := hX.2 _ hi
    rw [w64_id (by omega) (by omega)]
    exact ⟨a, ha, ⟨by omega, by omega⟩, y, hy, hk y true (by rw [he]; exact hY)⟩
theorem nth0_spec (x : Sl) (n : Int) {l} (hX : RdL 1 RdStr w x l) (hS : l.length ≤ BB) (hk : ∀ b, k (.tuple (List.toArray [.string (mkS (nthD l n)), .bool b])) w) : Cl Tryz.prog 107 [.slice x.base x.len x.cap, .int .i64 n] w k := by
  refine f107_ok ?_
  unfold f107
  have hL := hX.1
  unfold BB at hS
  refine ⟨fun v w' => w' = w ∧ v = !decide (1 ≤ n ∧ n ≤ (l.length : Int)), ?_, fun h => ⟨rfl, ?_⟩, fun h => ⟨rfl, ?_⟩⟩
  case refine_2 => have h := of_decide_eq_true h
                   symm; simp only [Bool.not_eq_true', decide_eq_false_iff_not]; omega
  case refine_3 => have h := of_decide_eq_false h
                   rw [hL]; by_cases h2 : (l.length : Int) < n
                   · rw [decide_eq_true h2]; symm; simp only [Bool.not_eq_true', decide_eq_false_iff_not]; omega
                   · rw [decide_eq_false h2]; symm; simp only [Bool.not_eq_false', decide_eq_true_eq]; omega
  rintro v w' ⟨rfl, rfl⟩
  refine ⟨fun h => ?_, fun h => ?_⟩
  · have h : ¬ (1 ≤ n ∧ n ≤ (l.length : Int)) := of_decide_eq_false ((Bool.not_eq_true' _).mp h)
    have := hk false
    rw [nthD_out h] at this; exact this
  · have h : 1 ≤ n ∧ n ≤ (l.length : Int) := of_decide_eq_true ((Bool.not_eq_false' _).mp h)
    obtain ⟨hi, he⟩ := nthD_in h.1 h.2
    obtain ⟨a, ha, hy⟩ := hX.2 _ hi
    rw [w64_id (by omega) (by omega)]
    have := hk true
    rw [he] at this
    exact ⟨a, ha, ⟨by omega, by omega⟩, _, hy, this⟩
theorem get_spec (m : Mh) (p : Pa) (l : List Seg) (hR : RM w m.s l) (hS : SmM l) (hp : p.seg.length ≤ 1000000000000000) (ho : -9223372036854775808 ≤ p.occ ∧ p.occ ≤ 9223372036854775807) (hk : ∀ w', Fr Non w w' → k (.string (mkS (getP l p))) w') : Cl Tryz.prog 37 [.agg (List.toArray (mc m)), .agg (List.toArray (pc p))] w k := by
  refine f37_ok ?_
  unfold f37
  intro b13 w14 hb13 hw14 b15 w16 hb15 hw16
  have f14 : Fr Non w w14 := hw14 ▸ (Fr.refl Non w).alloc _
  have f16 : Fr Non w w16 := hw16 ▸ f14.alloc _
  have hM14 : Blk w14 b13 26 (mc m) := hb13 ▸ hw14 ▸ Blk.new w (mc m) 26
  have hM : Blk w16 b13 26 (mc m) := hw16 ▸ hM14.alloc _
  have hP : Blk w16 b15 59 (pc p) := hb15 ▸ hw16 ▸ Blk.new w14 (pc p) 59
  refine ⟨m.d1, m.d2, m.d3, m.d4, m.d5, m.s, hM.ats (mc m) 0 0 (fun q v hq => by simpa using hq), p.seg, hP.cell rfl, p.occ, by rw [add_mk]; exact hP.cell rfl, ?_⟩
  refine at_spec m p.seg p.occ l (hR.fr f16) hS.1 ho fun w25 g25 => ⟨_, rfl, ?_⟩
  have hM1 := hM.fr g25 (fun h => h)
  have hP1 := hP.fr g25 (fun h => h)
  refine ⟨fun v w' => (v = true → getP l p = []) ∧ (v = false → validP p = true ∧ p.fld ≠ 0 ∧ ∃ i, atF p.seg p.occ l = some i) ∧ Fr Non w25 w', ?_, p.seg, p.occ, p.fld, p.rep, p.cmp, p.sub, patat hP1, ?_⟩
  · rintro v w30 ⟨h1, h2, g30⟩
    have f30 := (f16.trans' g25).trans' g30
    refine ⟨fun hv => ?_, fun hv => ?_⟩
    · have := hk _ f30
      rw [h1 hv] at this; exact this
    rintro w41 rfl
    obtain ⟨hval, hf0, i, hi⟩ := h2 hv
    have hlt := atF_lt hi
    have g41 : Fr Non w25 w30.drew := g30.drew
    have f41 : Fr Non w w30.drew := f30.drew
    have hM2 := hM1.fr g41 (fun h => h)
    have hP2 := hP1.fr g41 (fun h => h)
    have hR2 := hR.fr f41
    obtain ⟨a, ha, hn, x, hx, hX⟩ := hR2.2 i hlt
    obtain ⟨_, hS1, hSF⟩ := hS.2 _ (List.getElem_mem hlt)
    have hL := hR.1
    rw [hi]
    have hg : getP l p = nthD (nthD (nthD (nthD l[i].flds p.fld) p.rep) p.cmp) p.sub := by
      unfold getP; rw [if_pos hval, if_neg hf0, hi]; simp [hlt]
    refine ⟨m.s, by rw [add_mk]; exact hM2.cell rfl, a, ha, ⟨by simp [atI], by simp [atI]; omega⟩, x, hx, p.fld, by rw [add_mk]; exact hP2.cell rfl, ?_⟩
    have s2 : SmF (nthD l[i].flds p.fld) := nthD_all SmF0 hSF
    have s3 : SmR (nthD (nthD l[i].flds p.fld) p.rep) := nthD_all SmR0 s2.2
    have s4 : SmC (nthD (nthD (nthD l[i].flds p.fld) p.rep) p.cmp) := nthD_all SmC0 s3.2
    refine nth3_spec x p.fld hX hS1 fun y b hY => ⟨_, _, rfl, p.rep, by rw [add_mk]; exact hP2.cell rfl, ?_⟩
    refine nth2_spec y p.rep hY s2.1 fun z b hZ => ⟨_, _, rfl, p.cmp, by rw [add_mk]; exact hP2.cell rfl, ?_⟩
    refine nth1_spec z p.cmp hZ s3.1 fun u b hU => ⟨_, _, rfl, p.sub, by rw [add_mk]; exact hP2.cell rfl, ?_⟩
    refine nth0_spec u p.sub hU s4.1 fun b => ⟨_, _, rfl, ?_⟩
    have := hk _ f41
    rw [hg] at this; exact this
  · refine valid_spec p hp fun w37 g37 => ⟨_, rfl, fun hv => ⟨fun _ => ?_, fun h => (by cases h), g37⟩, fun hv => ⟨p.fld, by rw [add_mk]; exact (hP1.fr g37 (fun h => h)).cell rfl, fun h0 => ⟨fun _ => ?_, fun h => (by cases h), g37⟩, fun h0 => ⟨fun hh => ?_, fun hh => ?_, g37⟩⟩⟩
    · have hv := (Bool.not_eq_true' _).mp hv
      unfold getP; rw [if_neg (by rw [hv]; simp)]
    · have hv := (Bool.not_eq_false' _).mp hv
      unfold getP; rw [if_pos hv, if_pos (by simpa using h0)]
    · have hv := (Bool.not_eq_false' _).mp hv
      rw [atI_neg] at hh
      have : atF p.seg p.occ l = none := by simpa using hh
      unfold getP; rw [if_pos hv, if_neg (by simpa using h0), this]
    · have hv := (Bool.not_eq_false' _).mp hv
      rw [atI_neg] at hh
      refine ⟨hv, by simpa using h0, ?_⟩
      cases ho : atF p.seg p.occ l with
      | none => rw [ho] at hh; cases hh
      | some i => exact ⟨i, rfl⟩
end
section
variable {w : World} {k : Value → World → Prop} {D : Nat → Prop}
theorem clone3_spec (x : Sl) (l : List (List Rept)) (hx : RdLD D 1 (RdSlD D 1 (RRD D)) w x l) (hl : l.length ≤ BB) (hk : ∀ s xs w', Sls (RdLD D 1 (RRD D)) w xs l → (∀ v ∈ xs, v.oneCell' = true) → SlOk w' 38 1 s xs (fun b => w.heap.size ≤ b ∧ b < w'.heap.size) → Fr Non w w' → k (.slice s.base s.len s.cap) w') : Cl Tryz.prog 184 [.slice x.base x.len x.cap] w k := by
  refine f184_ok ?_
  unfold f184
  unfold BB at hl
  have hL := hx.1
  obtain ⟨xs, h1, h2, h3, h4⟩ := hx.sls
  refine ⟨fun h => ?_, fun h b2 w3 hb2 hw3 => ?_⟩
  · have hn : x.base = none := by cases hb : x.base with
      | none => rfl
      | some a => rw [hb] at h; cases h
    have : xs = [] := by
      cases hxs : xs with
      | nil => rfl
      | cons v r =>
        obtain ⟨a, ha, _⟩ := h4 0 v (by rw [hxs]; rfl)
        rw [hn] at ha; cases ha
    subst this
    exact hk ⟨none, 0, 0⟩ [] w h1 h2 (SlOk.nil _ _ _ _) (Fr.refl _ _)
  · obtain ⟨s', w', hr, hs, hlen, hf⟩ := clone_cells (P := Tryz.prog) (sz := 1) kU47 kS64 kZ64 kB64 rfl (by omega) (x := x) (xs := xs) (by omega) h4 h2 h (by omega) (by omega) hb2 hw3 33
    exact ⟨s', w', hr, hk s' xs w' h1 h2 hs hf⟩
set_option maxHeartbeats 1000000 in
theorem with3_spec (x : Sl) (n : Int) (g : List Rept → List Rept) (change : Value) (l : List (List Rept)) (hx : RdLD D 1 (RdSlD D 1 (RRD D)) w x l) (hD : ∀ b, D b → b < w.heap.size) (hn1 : 1 ≤ n) (hn2 : n ≤ 1000) (hl : l.length ≤ BB)
    (hch : ∀ (z : Sl) (le : List Rept) (w1 : World) (k1 : Value → World → Prop), RdLD D 1 (RRD D) w1 z le → Fr Non w w1 → (le ∈ l ∨ le = []) → (∀ (y : Sl) (w2 : World), RdLD (fun b => D b ∨ w1.heap.size ≤ b) 1 (RRD (fun b => D b ∨ w1.heap.size ≤ b)) w2 y (g le) → Fr Non w1 w2 → k1 (.slice y.base y.len y.cap) w2) → Cv Tryz.prog change [.slice z.base z.len z.cap] w1 k1)
    (hk : ∀ (y : Sl) (w' : World), RdLD (fun b => D b ∨ w.heap.size ≤ b) 1 (RdSlD (fun b => D b ∨ w.heap.size ≤ b) 1 (RRD (fun b => D b ∨ w.heap.size ≤ b))) w' y (wthN n.toNat g l) → Fr Non w w' → k (.slice y.base y.len y.cap) w') : Cl Tryz.prog 150 [.slice x.base x.len x.cap, .int .i64 n, change] w k := by
  refine f150_ok ?_
  unfold f150
  refine clone3_spec x l hx hl fun s0 xs0 w4 hS0 one0 ok0 f4 => ⟨s0, rfl, ?_⟩
  unfold BB at hl
  have hl0 := ok0.len
  have hsl0 := hS0.1
  have e1 : IntKind.i64.wrap (n - 1) = n - 1 := w64_id (by omega) (by omega)
  rw [e1]
  refine ⟨fun t out w' => ∃ (j : Nat) (xs : List Value), t = n.toNat - out.len ∧ out.len = l.length + j ∧ j ≤ n.toNat - l.length ∧ SlOk w' 38 1 out xs (fun b => w.heap.size ≤ b ∧ b < w'.heap.size) ∧ Sls (RdLD D 1 (RRD D)) w xs (l ++ List.replicate j []) ∧ Fr Non w w',
    ⟨n.toNat - s0.len, 0, xs0, rfl, by omega, by omega, ok0, by simpa using hS0, f4⟩, ?_⟩
  rintro t out w11 ⟨j, xs, rfl, hlen, hj, hok, hS, f11⟩
  refine ⟨fun h b12 w13 hb12 hw13 => ?_, fun h => ?_⟩
  · have h := of_decide_eq_true h
    obtain ⟨s', w', hr, hs, hlen', hf⟩ := push_cell (P := Tryz.prog) (sz := 1) kU47 kS64 kZ64 kB64 rfl (by omega) hok (cx := [.slice none 0 0]) rfl (by intro v hv; simp at hv; subst hv; rfl) (by omega) (by omega) hb12 hw13 (fun g hg => hg.2) 1 33
    have z11 := f11.size
    have zf := hf.size
    refine ⟨s', w', hr, n.toNat - s'.len, by omega, j + 1, _, rfl, by omega, by omega, hs.mono (fun b hb => by omega), ?_, upN f11 hf (fun g hg => hg.1)⟩
    rw [List.replicate_succ', ← List.append_assoc]
    exact Sls.snoc hS (z := ⟨none, 0, 0⟩) RdLD.nil
  · have h := of_decide_eq_false h
    have hj : j = n.toNat - l.length := by omega
    have hL : (l ++ List.replicate j []).length = l.length + j := by simp
    have hi : n.toNat - 1 < (l ++ List.replicate j []).length := by omega
    obtain ⟨z, hz, hZ⟩ := hS.2 _ hi
    obtain ⟨a, ha, hc⟩ := hok.at hz
    have e2 : (n - 1).toNat = n.toNat - 1 := by omega
    have hmem : (l ++ List.replicate j [])[n.toNat - 1] ∈ l ∨ (l ++ List.replicate j [])[n.toNat - 1] = [] := by
      rcases List.mem_append.1 (List.getElem_mem hi) with h | h
      · exact .inl h
      · exact .inr (List.eq_of_mem_replicate h)
    have B : (0 : Int) ≤ n - 1 ∧ n - 1 < (out.len : Int) := by omega
    rw [e2, Nat.mul_one]
    refine ⟨a, ha, B, z, hc, hch z _ w11 _ (hZ.kp RRD.kp fun b hb => f11.blk b (hD b hb) (fun h => h)) f11 hmem fun y w18 hy f18 => ⟨y, rfl, a, ha, B, ?_⟩⟩
    obtain ⟨a', ha', hFa, i1, i2, hok2⟩ := (hok.fr f18 (fun _ _ h => h)).setv (j := n.toNat - 1) (by have := hS.1; omega) (.slice y.base y.len y.cap)
    rw [ha] at ha'; cases ha'
    refine ⟨i1, i2, ?_⟩
    rintro w22 rfl
    have hblk : (a.add (n.toNat - 1)).block = a.block := block_add _ _
    have z11 := f11.size
    have f22 : Fr Non w (w18.setCell (a.add (n.toNat - 1)) (.slice y.base y.len y.cap)) := (f11.trans' f18).set (a := a.add (n.toNat - 1)) (fun h => by rw [hblk] at h; omega) _
    refine hk out _ ?_ f22
    have hS2 : Sls (RdLD (fun b => D b ∨ w.heap.size ≤ b) 1 (RRD (fun b => D b ∨ w.heap.size ≤ b))) (w18.setCell (a.add (n.toNat - 1)) (.slice y.base y.len y.cap)) (xs.set (n.toNat - 1) (.slice y.base y.len y.cap)) ((l ++ List.replicate j []).set (n.toNat - 1) (g (l ++ List.replicate j [])[n.toNat - 1])) := by
      refine Sls.set hS ?_ ?_
      · refine (hy.kp RRD.kp fun b hb => heap_ne ?_).imp (fun b hb => ?_) (fun _ _ h => RRD.mono h (fun b hb => hb.imp id (fun h => by omega)))
        · rw [hblk]; rintro rfl
          rcases hb with hb | hb
          · have := hD _ hb; omega
          · omega
        · exact hb.imp id (fun h => by omega)
      · intro z m _ hz
        refine (hz.kp RRD.kp fun b hb => ?_).imp (fun b hb => .inl hb) (fun _ _ h => RRD.mono h (fun b hb => .inl hb))
        exact f22.blk b (hD b hb) (fun h => h)
    have := Sls.rd hok2 hS2 (fun b hb => .inr hb.1)
    rw [show wthN n.toNat g l = (l ++ List.replicate j []).set (n.toNat - 1) (g (l ++ List.replicate j [])[n.toNat - 1]) from by
      unfold wthN; rw [← hj, List.getD_eq_getElem?_getD, List.getElem?_eq_getElem hi]; rfl]
    exact this
theorem clone2_spec (x : Sl) (l : List (List Cmp)) (hx : RdLD D 1 (RdSlD D 1 (RCD D)) w x l) (hl : l.length ≤ BB) (hk : ∀ s xs w', Sls (RdLD D 1 (RCD D)) w xs l → (∀ v ∈ xs, v.oneCell' = true) → SlOk w' 37 1 s xs (fun b => w.heap.size ≤ b ∧ b < w'.heap.size) → Fr Non w w' → k (.slice s.base s.len s.cap) w') : Cl Tryz.prog 185 [.slice x.base x.len x.cap] w k := by
  refine f185_ok ?_
  unfold f185
  unfold BB at hl
  have hL := hx.1
  obtain ⟨xs, h1, h2, h3, h4⟩ := hx.sls
  refine ⟨fun h => ?_, fun h b2 w3 hb2 hw3 => ?_⟩
  · have hn : x.base = none := by cases hb : x.base with
      | none => rfl
      | some a => rw [hb] at h; cases h
    have : xs = [] := by
      cases hxs : xs with
      | nil => rfl
      | cons v r =>
        obtain ⟨a, ha, _⟩ := h4 0 v (by rw [hxs]; rfl)
        rw [hn] at ha; cases ha
    subst this
    exact hk ⟨none, 0, 0⟩ [] w h1 h2 (SlOk.nil _ _ _ _) (Fr.refl _ _)
  · obtain ⟨s', w', hr, hs, hlen, hf⟩ := clone_cells (P := Tryz.prog) (sz := 1) kU64 kS65 kZ65 kB65 rfl (by omega) (x := x) (xs := xs) (by omega) h4 h2 h (by omega) (by omega) hb2 hw3 38
    exact ⟨s', w', hr, hk s' xs w' h1 h2 hs hf⟩
set_option maxHeartbeats 1000000 in
theorem with2_spec (x : Sl) (n : Int) (g : List Cmp → List Cmp) (change : Value) (l : List (List Cmp)) (hx : RdLD D 1 (RdSlD D 1 (RCD D)) w x l) (hD : ∀ b, D b → b < w.heap.size) (hn1 : 1 ≤ n) (hn2 : n ≤ 1000) (hl : l.length ≤ BB)
    (hch : ∀ (z : Sl) (le : List Cmp) (w1 : World) (k1 : Value → World → Prop), RdLD D 1 (RCD D) w1 z le → Fr Non w w1 → (le ∈ l ∨ le = []) → (∀ (y : Sl) (w2 : World), RdLD (fun b => D b ∨ w1.heap.size ≤ b) 1 (RCD (fun b => D b ∨ w1.heap.size ≤ b)) w2 y (g le) → Fr Non w1 w2 → k1 (.slice y.base y.len y.cap) w2) → Cv Tryz.prog change [.slice z.base z.len z.cap] w1 k1)
    (hk : ∀ (y : Sl) (w' : World), RdLD (fun b => D b ∨ w.heap.size ≤ b) 1 (RdSlD (fun b => D b ∨ w.heap.size ≤ b) 1 (RCD (fun b => D b ∨ w.heap.size ≤ b))) w' y (wthN n.toNat g l) → Fr Non w w' → k (.slice y.base y.len y.cap) w') : Cl Tryz.prog 152 [.slice x.base x.len x.cap, .int .i64 n, change] w k := by
  refine f152_ok ?_
  unfold f152
  refine clone2_spec x l hx hl fun s0 xs0 w4 hS0 one0 ok0 f4 => ⟨s0, rfl, ?_⟩
  unfold BB at hl
  have hl0 := ok0.len
  have hsl0 := hS0.1
  have e1 : IntKind.i64.wrap (n - 1) = n - 1 := w64_id (by omega) (by omega)
  rw [e1]
  refine ⟨fun t out w' => ∃ (j : Nat) (xs : List Value), t = n.toNat - out.len ∧ out.len = l.length + j ∧ j ≤ n.toNat - l.length ∧ SlOk w' 37 1 out xs (fun b => w.heap.size ≤ b ∧ b < w'.heap.size) ∧ Sls (RdLD D 1 (RCD D)) w xs (l ++ List.replicate j []) ∧ Fr Non w w',
    ⟨n.toNat - s0.len, 0, xs0, rfl, by omega, by omega, ok0, by simpa using hS0, f4⟩, ?_⟩
  rintro t out w11 ⟨j, xs, rfl, hlen, hj, hok, hS, f11⟩
  refine ⟨fun h b12 w13 hb12 hw13 => ?_, fun h => ?_⟩
  · have h := of_decide_eq_true h
    obtain ⟨s', w', hr, hs, hlen', hf⟩ := push_cell (P := Tryz.prog) (sz := 1) kU64 kS65 kZ65 kB65 rfl (by omega) hok (cx := [.slice none 0 0]) rfl (by intro v hv; simp at hv; subst hv; rfl) (by omega) (by omega) hb12 hw13 (fun g hg => hg.2) 1 38
    have z11 := f11.size
    have zf := hf.size
    refine ⟨s', w', hr, n.toNat - s'.len, by omega, j + 1, _, rfl, by omega, by omega, hs.mono (fun b hb => by omega), ?_, upN f11 hf (fun g hg => hg.1)⟩
    rw [List.replicate_succ', ← List.append_assoc]
    exact Sls.snoc hS (z := ⟨none, 0, 0⟩) RdLD.nil
  · have h := of_decide_eq_false h
    have hj : j = n.toNat - l.length := by omega
    have hL : (l ++ List.replicate j []).length = l.length + j := by simp
    have hi : n.toNat - 1 < (l ++ List.replicate j []).length := by omega
    obtain ⟨z, hz, hZ⟩ := hS.2 _ hi
    obtain ⟨a, ha, hc⟩ := hok.at hz
    have e2 : (n - 1).toNat = n.toNat - 1 := by omega
    have hmem : (l ++ List.replicate j [])[n.toNat - 1] ∈ l ∨ (l ++ List.replicate j [])[n.toNat - 1] = [] := by
      rcases List.mem_append.1 (List.getElem_mem hi) with h | h
      · exact .inl h
      · exact .inr (List.eq_of_mem_replicate h)
    have B : (0 : Int) ≤ n - 1 ∧ n - 1 < (out.len : Int) := by omega
    rw [e2, Nat.mul_one]
    refine ⟨a, ha, B, z, hc, hch z _ w11 _ (hZ.kp RCD.kp fun b hb => f11.blk b (hD b hb) (fun h => h)) f11 hmem fun y w18 hy f18 => ⟨y, rfl, a, ha, B, ?_⟩⟩
    obtain ⟨a', ha', hFa, i1, i2, hok2⟩ := (hok.fr f18 (fun _ _ h => h)).setv (j := n.toNat - 1) (by have := hS.1; omega) (.slice y.base y.len y.cap)
    rw [ha] at ha'; cases ha'
    refine ⟨i1, i2, ?_⟩
    rintro w22 rfl
    have hblk : (a.add (n.toNat - 1)).block = a.block := block_add _ _
    have z11 := f11.size
    have f22 : Fr Non w (w18.setCell (a.add (n.toNat - 1)) (.slice y.base y.len y.cap)) := (f11.trans' f18).set (a := a.add (n.toNat - 1)) (fun h => by rw [hblk] at h; omega) _
    refine hk out _ ?_ f22
    have hS2 : Sls (RdLD (fun b => D b ∨ w.heap.size ≤ b) 1 (RCD (fun b => D b ∨ w.heap.size ≤ b))) (w18.setCell (a.add (n.toNat - 1)) (.slice y.base y.len y.cap)) (xs.set (n.toNat - 1) (.slice y.base y.len y.cap)) ((l ++ List.replicate j []).set (n.toNat - 1) (g (l ++ List.replicate j [])[n.toNat - 1])) := by
      refine Sls.set hS ?_ ?_
      · refine (hy.kp RCD.kp fun b hb => heap_ne ?_).imp (fun b hb => ?_) (fun _ _ h => RCD.mono h (fun b hb => hb.imp id (fun h => by omega)))
        · rw [hblk]; rintro rfl
          rcases hb with hb | hb
          · have := hD _ hb; omega
          · omega
        · exact hb.imp id (fun h => by omega)
      · intro z m _ hz
        refine (hz.kp RCD.kp fun b hb => ?_).imp (fun b hb => .inl hb) (fun _ _ h => RCD.mono h (fun b hb => .inl hb))
        exact f22.blk b (hD b hb) (fun h => h)
    have := Sls.rd hok2 hS2 (fun b hb => .inr hb.1)
    rw [show wthN n.toNat g l = (l ++ List.replicate j []).set (n.toNat - 1) (g (l ++ List.replicate j [])[n.toNat - 1]) from by
      unfold wthN; rw [← hj, List.getD_eq_getElem?_getD, List.getElem?_eq_getElem hi]; rfl]
    exact this
theorem clone1_spec (x : Sl) (l : List (List Str)) (hx : RdLD D 1 (RdSlD D 1 RdStr) w x l) (hl : l.length ≤ BB) (hk : ∀ s xs w', Sls (RdLD D 1 RdStr) w xs l → (∀ v ∈ xs, v.oneCell' = true) → SlOk w' 36 1 s xs (fun b => w.heap.size ≤ b ∧ b < w'.heap.size) → Fr Non w w' → k (.slice s.base s.len s.cap) w') : Cl Tryz.prog 186 [.slice x.base x.len x.cap] w k := by
  refine f186_ok ?_
  unfold f186
  unfold BB at hl
  have hL := hx.1
  obtain ⟨xs, h1, h2, h3, h4⟩ := hx.sls
  refine ⟨fun h => ?_, fun h b2 w3 hb2 hw3 => ?_⟩
  · have hn : x.base = none := by cases hb : x.base with
      | none => rfl
      | some a => rw [hb] at h; cases h
    have : xs = [] := by
      cases hxs : xs with
      | nil => rfl
      | cons v r =>
        obtain ⟨a, ha, _⟩ := h4 0 v (by rw [hxs]; rfl)
        rw [hn] at ha; cases ha
    subst this
    exact hk ⟨none, 0, 0⟩ [] w h1 h2 (SlOk.nil _ _ _ _) (Fr.refl _ _)
  · obtain ⟨s', w', hr, hs, hlen, hf⟩ := clone_cells (P := Tryz.prog) (sz := 1) kU65 kS66 kZ66 kB66 rfl (by omega) (x := x) (xs := xs) (by omega) h4 h2 h (by omega) (by omega) hb2 hw3 37
    exact ⟨s', w', hr, hk s' xs w' h1 h2 hs hf⟩
set_option maxHeartbeats 1000000 in
theorem with1_spec (x : Sl) (n : Int) (g : List Str → List Str) (change : Value) (l : List (List Str)) (hx : RdLD D 1 (RdSlD D 1 RdStr) w x l) (hD : ∀ b, D b → b < w.heap.size) (hn1 : 1 ≤ n) (hn2 : n ≤ 1000) (hl : l.length ≤ BB)
    (hch : ∀ (z : Sl) (le : List Str) (w1 : World) (k1 : Value → World → Prop), RdLD D 1 RdStr w1 z le → Fr Non w w1 → (le ∈ l ∨ le = []) → (∀ (y : Sl) (w2 : World), RdLD (fun b => D b ∨ w1.heap.size ≤ b) 1 RdStr w2 y (g le) → Fr Non w1 w2 → k1 (.slice y.base y.len y.cap) w2) → Cv Tryz.prog change [.slice z.base z.len z.cap] w1 k1)
    (hk : ∀ (y : Sl) (w' : World), RdLD (fun b => D b ∨ w.heap.size ≤ b) 1 (RdSlD (fun b => D b ∨ w.heap.size ≤ b) 1 RdStr) w' y (wthN n.toNat g l) → Fr Non w w' → k (.slice y.base y.len y.cap) w') : Cl Tryz.prog 154 [.slice x.base x.len x.cap, .int .i64 n, change] w k := by
  refine f154_ok ?_
  unfold f154
  refine clone1_spec x l hx hl fun s0 xs0 w4 hS0 one0 ok0 f4 => ⟨s0, rfl, ?_⟩
  unfold BB at hl
  have hl0 := ok0.len
  have hsl0 := hS0.1
  have e1 : IntKind.i64.wrap (n - 1) = n - 1 := w64_id (by omega) (by omega)
  rw [e1]
  refine ⟨fun t out w' => ∃ (j : Nat) (xs : List Value), t = n.toNat - out.len ∧ out.len = l.length + j ∧ j ≤ n.toNat - l.length ∧ SlOk w' 36 1 out xs (fun b => w.heap.size ≤ b ∧ b < w'.heap.size) ∧ Sls (RdLD D 1 RdStr) w xs (l ++ List.replicate j []) ∧ Fr Non w w',
    ⟨n.toNat - s0.len, 0, xs0, rfl, by omega, by omega, ok0, by simpa using hS0, f4⟩, ?_⟩
  rintro t out w11 ⟨j, xs, rfl, hlen, hj, hok, hS, f11⟩
  refine ⟨fun h b12 w13 hb12 hw13 => ?_, fun h => ?_⟩
  · have h := of_decide_eq_true h
    obtain ⟨s', w', hr, hs, hlen', hf⟩ := push_cell (P := Tryz.prog) (sz := 1) kU65 kS66 kZ66 kB66 rfl (by omega) hok (cx := [.slice none 0 0]) rfl (by intro v hv; simp at hv; subst hv; rfl) (by omega) (by omega) hb12 hw13 (fun g hg => hg.2) 1 37
    have z11 := f11.size
    have zf := hf.size
    refine ⟨s', w', hr, n.toNat - s'.len, by omega, j + 1, _, rfl, by omega, by omega, hs.mono (fun b hb => by omega), ?_, upN f11 hf (fun g hg => hg.1)⟩
    rw [List.replicate_succ', ← List.append_assoc]
    exact Sls.snoc hS (z := ⟨none, 0, 0⟩) RdLD.nil
  · have h := of_decide_eq_false h
    have hj : j = n.toNat - l.length := by omega
    have hL : (l ++ List.replicate j []).length = l.length + j := by simp
    have hi : n.toNat - 1 < (l ++ List.replicate j []).length := by omega
    obtain ⟨z, hz, hZ⟩ := hS.2 _ hi
    obtain ⟨a, ha, hc⟩ := hok.at hz
    have e2 : (n - 1).toNat = n.toNat - 1 := by omega
    have hmem : (l ++ List.replicate j [])[n.toNat - 1] ∈ l ∨ (l ++ List.replicate j [])[n.toNat - 1] = [] := by
      rcases List.mem_append.1 (List.getElem_mem hi) with h | h
      · exact .inl h
      · exact .inr (List.eq_of_mem_replicate h)
    have B : (0 : Int) ≤ n - 1 ∧ n - 1 < (out.len : Int) := by omega
    rw [e2, Nat.mul_one]
    refine ⟨a, ha, B, z, hc, hch z _ w11 _ (hZ.kp RdStr.kp fun b hb => f11.blk b (hD b hb) (fun h => h)) f11 hmem fun y w18 hy f18 => ⟨y, rfl, a, ha, B, ?_⟩⟩
    obtain ⟨a', ha', hFa, i1, i2, hok2⟩ := (hok.fr f18 (fun _ _ h => h)).setv (j := n.toNat - 1) (by have := hS.1; omega) (.slice y.base y.len y.cap)
    rw [ha] at ha'; cases ha'
    refine ⟨i1, i2, ?_⟩
    rintro w22 rfl
    have hblk : (a.add (n.toNat - 1)).block = a.block := block_add _ _
    have z11 := f11.size
    have f22 : Fr Non w (w18.setCell (a.add (n.toNat - 1)) (.slice y.base y.len y.cap)) := (f11.trans' f18).set (a := a.add (n.toNat - 1)) (fun h => by rw [hblk] at h; omega) _
    refine hk out _ ?_ f22
    have hS2 : Sls (RdLD (fun b => D b ∨ w.heap.size ≤ b) 1 RdStr) (w18.setCell (a.add (n.toNat - 1)) (.slice y.base y.len y.cap)) (xs.set (n.toNat - 1) (.slice y.base y.len y.cap)) ((l ++ List.replicate j []).set (n.toNat - 1) (g (l ++ List.replicate j [])[n.toNat - 1])) := by
      refine Sls.set hS ?_ ?_
      · refine (hy.kp RdStr.kp fun b hb => heap_ne ?_).imp (fun b hb => ?_) (fun _ _ h => h)
        · rw [hblk]; rintro rfl
          rcases hb with hb | hb
          · have := hD _ hb; omega
          · omega
        · exact hb.imp id (fun h => by omega)
      · intro z m _ hz
        refine (hz.kp RdStr.kp fun b hb => ?_).imp (fun b hb => .inl hb) (fun _ _ h => h)
        exact f22.blk b (hD b hb) (fun h => h)
    have := Sls.rd hok2 hS2 (fun b hb => .inr hb.1)
    rw [show wthN n.toNat g l = (l ++ List.replicate j []).set (n.toNat - 1) (g (l ++ List.replicate j [])[n.toNat - 1]) from by
      unfold wthN; rw [← hj, List.getD_eq_getElem?_getD, List.getElem?_eq_getElem hi]; rfl]
    exact this
set_option maxHeartbeats 1000000 in
theorem with0_spec (x : Sl) (n : Int) (v : Str) (change : Value) (l : Cmp) (hx : RdLD D 1 RdStr w x l) (hD : ∀ b, D b → b < w.heap.size) (hn1 : 1 ≤ n) (hn2 : n ≤ 1000) (hl : l.length ≤ BB)
    (hch : ∀ (z : Str) (w1 : World) (k1 : Value → World → Prop), Fr Non w w1 → (∀ (w2 : World), Fr Non w1 w2 → k1 (.string (mkS v)) w2) → Cv Tryz.prog change [.string (mkS z)] w1 k1)
    (hk : ∀ (y : Sl) (w' : World), RdLD (fun b => D b ∨ w.heap.size ≤ b) 1 RdStr w' y (wthN n.toNat (fun _ => v) l) → Fr Non w w' → k (.slice y.base y.len y.cap) w') : Cl Tryz.prog 156 [.slice x.base x.len x.cap, .int .i64 n, change] w k := by
  refine f156_ok ?_
  unfold f156
  refine clone0_spec x l hx hl fun s0 w4 ok0 f4 => ⟨s0, rfl, ?_⟩
  unfold BB at hl
  have hl0 := ok0.len
  simp only [List.length_map] at hl0
  have e1 : IntKind.i64.wrap (n - 1) = n - 1 := w64_id (by omega) (by omega)
  rw [e1]
  refine ⟨fun t out w' => ∃ (j : Nat), t = n.toNat - out.len ∧ out.len = l.length + j ∧ j ≤ n.toNat - l.length ∧ SlOk w' 9 1 out ((l ++ List.replicate j []).map fun s => .string (mkS s)) (fun b => w.heap.size ≤ b ∧ b < w'.heap.size) ∧ Fr Non w w',
    ⟨n.toNat - s0.len, 0, rfl, by omega, by omega, by simpa using ok0, f4⟩, ?_⟩
  rintro t out w11 ⟨j, rfl, hlen, hj, hok, f11⟩
  refine ⟨fun h b12 w13 hb12 hw13 => ?_, fun h => ?_⟩
  · have h := of_decide_eq_true h
    obtain ⟨s', w', hr, hs, hlen', hf⟩ := push_cell (P := Tryz.prog) (sz := 1) kU66 kS9 kZ9 kB9 rfl (by omega) hok (cx := [.string (mkS [])]) rfl (by intro v hv; simp at hv; subst hv; rfl) (by omega) (by omega) hb12 hw13 (fun g hg => hg.2) 1 36
    have z11 := f11.size
    have zf := hf.size
    refine ⟨s', w', hr, n.toNat - s'.len, by omega, j + 1, rfl, by omega, by omega, ?_, upN f11 hf (fun g hg => hg.1)⟩
    rw [List.replicate_succ', ← List.append_assoc, List.map_append]
    exact hs.mono (fun b hb => by omega)
  · have h := of_decide_eq_false h
    have hj : j = n.toNat - l.length := by omega
    have hL : (l ++ List.replicate j []).length = l.length + j := by simp
    have hi : n.toNat - 1 < (l ++ List.replicate j []).length := by omega
    have hz : ((l ++ List.replicate j []).map fun s => Value.string (mkS s))[n.toNat - 1]? = some (.string (mkS (l ++ List.replicate j [])[n.toNat - 1])) := by
      rw [List.getElem?_map, List.getElem?_eq_getElem hi]; rfl
    obtain ⟨a, ha, hc⟩ := hok.at hz
    have e2 : (n - 1).toNat = n.toNat - 1 := by omega
    have B : (0 : Int) ≤ n - 1 ∧ n - 1 < (out.len : Int) := by omega
    rw [e2, Nat.mul_one]
    refine ⟨a, ha, B, _, hc, hch _ w11 _ f11 fun w18 f18 => ⟨v, rfl, a, ha, B, ?_⟩⟩
    obtain ⟨a', ha', hFa, i1, i2, hok2⟩ := (hok.fr f18 (fun _ _ h => h)).setv (j := n.toNat - 1) (by rw [List.length_map]; omega) (.string (mkS v))
    rw [ha] at ha'; cases ha'
    refine ⟨i1, i2, ?_⟩
    rintro w22 rfl
    have hblk : (a.add (n.toNat - 1)).block = a.block := block_add _ _
    have z11 := f11.size
    have f22 : Fr Non w (w18.setCell (a.add (n.toNat - 1)) (.string (mkS v))) := (f11.trans' f18).set (a := a.add (n.toNat - 1)) (fun h => by rw [hblk] at h; omega) _
    refine hk out _ ?_ f22
    rw [show wthN n.toNat (fun _ => v) l = (l ++ List.replicate j []).set (n.toNat - 1) v from by unfold wthN; rw [← hj]]
    have em : ((l ++ List.replicate j []).map fun s => Value.string (mkS s)).set (n.toNat - 1) (Value.string (mkS v)) = ((l ++ List.replicate j []).set (n.toNat - 1) v).map (fun s => Value.string (mkS s)) := by rw [List.map_set]
    rw [em] at hok2
    refine ⟨by simp only [List.length_set]; omega, fun i hi => ?_⟩
    have hz : (((l ++ List.replicate j []).set (n.toNat - 1) v).map fun s => Value.string (mkS s))[i]? = some (.string (mkS ((l ++ List.replicate j []).set (n.toNat - 1) v)[i])) := by
      rw [List.getElem?_map, List.getElem?_eq_getElem hi]; rfl
    obtain ⟨a2, ha2, hc2⟩ := hok2.at hz
    rw [ha] at ha2; cases ha2
    exact ⟨a, ha, .inr (by omega), by rw [Nat.mul_one]; exact hc2⟩
end
section
variable {w : World} {k : Value → World → Prop} {D : Nat → Prop}
set_option maxHeartbeats 1000000 in
theorem set_spec (x : Sl) (p : Pa) (v : Str) (l : List Fldt) (hx : RdLD D 1 (RFD D) w x l) (hD : ∀ b, D b → b < w.heap.size) (hS0 : l.length ≤ BB) (hSF : ∀ f ∈ l, SmF f) (hv : v.length ≤ 281474976710656)
    (h1 : 1 ≤ p.fld ∧ p.fld ≤ 1000) (h2 : 1 ≤ p.rep ∧ p.rep ≤ 1000) (h3 : 1 ≤ p.cmp ∧ p.cmp ≤ 1000) (h4 : 1 ≤ p.sub ∧ p.sub ≤ 1000)
    (hk : ∀ (y : Sl) (w' : World), RdLD (fun b => D b ∨ w.heap.size ≤ b) 1 (RFD (fun b => D b ∨ w.heap.size ≤ b)) w' y (setFs p v l) → Fr Non w w' → k (.slice y.base y.len y.cap) w') :
    Cl Tryz.prog 103 [.slice x.base x.len x.cap, .agg (List.toArray (pc p)), .string (mkS v)] w k := by
  refine f103_ok ?_
  unfold f103
  intro b9 w10 hb9 hw10 b11 w12 hb11 hw12
  have f10 : Fr Non w w10 := hw10 ▸ (Fr.refl Non w).alloc _
  have f12 : Fr Non w w12 := hw12 ▸ f10.alloc _
  have hP10 : Blk w10 b9 59 (pc p) := hb9 ▸ hw10 ▸ Blk.new w (pc p) 59
  have hP : Blk w12 b9 59 (pc p) := hw12 ▸ hP10.alloc _
  have hV : Blk w12 b11 9 [.string (mkS v)] := hb11 ▸ hw12 ▸ Blk.new w10 _ 9
  have hpc : ∀ {w' : World} {i : Nat} {u : Value}, Fr Non w12 w' → (pc p)[i]? = some u → w'.cell? ((⟨b9, 0, none⟩ : Addr).add i) = some u := fun f h => by rw [add_mk, Nat.zero_add]; exact (hP.fr f (fun h => h)).cell h
  have z12 := f12.size
  refine ⟨p.fld, hpc (Fr.refl _ _) rfl, ?_⟩
  have hD12 : ∀ b, D b → b < w12.heap.size := fun b hb => by have := hD b hb; omega
  refine with3_spec x p.fld (setFd p v) _ l (hx.kp RFD.kp fun b hb => f12.blk b (hD b hb) (fun h => h)) hD12 h1.1 h1.2 hS0 ?_ fun y w14 hy f14 => ⟨y, rfl, hk y w14 ?_ (f12.trans' f14)⟩
  · intro z f w1 k1 hz g1 hm hk1
    have hSf : SmF f := by rcases hm with hm | rfl; exact hSF f hm; exact SmF0
    refine Cv.of (caps := [.pointer (some ⟨b9, 0, none⟩), .pointer (some ⟨b11, 0, none⟩)]) (.mk (by kernel_rfl)) ?_
    refine f151_ok ?_
    unfold f151
    refine ⟨p.rep, hpc g1 rfl, ?_⟩
    refine with2_spec z p.rep (setR p v) _ f hz (fun b hb => by have := hD12 b hb; have := g1.size; omega) h2.1 h2.2 hSf.1 ?_ fun y w2 hy f2 => ⟨y, rfl, hk1 y w2 hy f2⟩
    intro z2 r w2 k2 hz2 g2 hm2 hk2
    have hSr : SmR r := by rcases hm2 with hm | rfl; exact hSf.2 r hm; exact SmR0
    refine Cv.of (caps := [.pointer (some ⟨b9, 0, none⟩), .pointer (some ⟨b11, 0, none⟩)]) (.mk (by kernel_rfl)) ?_
    refine f153_ok ?_
    unfold f153
    refine ⟨p.cmp, hpc (g1.trans' g2) rfl, ?_⟩
    refine with1_spec z2 p.cmp (setC p v) _ r hz2 (fun b hb => by have := hD12 b hb; have := g1.size; have := g2.size; omega) h3.1 h3.2 hSr.1 ?_ fun y w3 hy f3 => ⟨y, rfl, hk2 y w3 hy f3⟩
    intro z3 c w3 k3 hz3 g3 hm3 hk3
    have hSc : SmC c := by rcases hm3 with hm | rfl; exact hSr.2 c hm; exact SmC0
    refine Cv.of (caps := [.pointer (some ⟨b9, 0, none⟩), .pointer (some ⟨b11, 0, none⟩)]) (.mk (by kernel_rfl)) ?_
    refine f155_ok ?_
    unfold f155
    refine ⟨p.sub, hpc ((g1.trans' g2).trans' g3) rfl, ?_⟩
    refine with0_spec z3 p.sub v _ c hz3 (fun b hb => by have := hD12 b hb; have := g1.size; have := g2.size; have := g3.size; omega) h4.1 h4.2 hSc.1 ?_ fun y w4 hy f4 => ⟨y, rfl, hk3 y w4 hy f4⟩
    intro z4 w4 k4 g4 hk4
    refine Cv.of (caps := [.pointer (some ⟨b11, 0, none⟩)]) (.mk (by kernel_rfl)) ?_
    refine f157_ok ?_
    unfold f157
    have gg := ((g1.trans' g2).trans' g3).trans' g4
    exact ⟨v, (hV.fr gg (fun h => h)).cell rfl, clone_spec v hv fun w5 f5 => ⟨v, rfl, hk4 w5 f5⟩⟩
  · exact hy.imp (fun b hb => hb.imp id (fun h => by omega)) fun _ _ h => RFD.mono h (fun b hb => hb.imp id (fun h => by omega))
end
end Go.Proofs.YtoaoofobidhfjaaGreatDoor
