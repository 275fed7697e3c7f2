/- The document's answers on paths of messages. -/
import Derived.Test.YthpeengmcjpknaaGreatDoorPM6
import Derived.Test.YthpeengmcjpknaaGreatDoorPSS
set_option linter.unusedSimpArgs false
set_option linter.unusedVariables false
namespace Go.Proofs.YthpeengmcjpknaaGreatDoor
open Go.V Go.RowKit
section
variable {w : World} {k : Value → World → Prop}
theorem rat_spec (m : Mh) (p : Pa) (l : List Seg) (hR : RM w m.s l) (hS : l.length ≤ BB) (hk : ∀ w', Fr Non w w' → k (.int .i64 (atI (atF p.seg p.occ l))) w') : Cl Tryz.prog 63 [.agg (List.toArray (mc m)), .agg (List.toArray (pc p))] w k := by
  refine f63_ok ?_
  unfold f63
  intro b13 w14 hb13 hw14 b15 w16 hb15 hw16
  have f14 : Fr Non w w14 := hw14 ▸ (Fr.refl Non w).alloc _
  have f16 : Fr Non w w16 := hw16 ▸ f14.alloc _
  have hM14 : Blk w14 b13 26 (mc m) := hb13 ▸ hw14 ▸ Blk.new w (mc m) 26
  have hM : Blk w16 b13 26 (mc m) := hw16 ▸ hM14.alloc _
  have hP : Blk w16 b15 28 (pc p) := hb15 ▸ hw16 ▸ Blk.new w14 (pc p) 28
  have hc : ∀ {w' : World}, Fr Non w16 w' → w'.cell? ((⟨b13, 0, none⟩ : Addr).add 5) = some (.slice m.s.base m.s.len m.s.cap) := fun f => by rw [add_mk]; exact (hM.fr f (fun h => h)).cell rfl
  have hL := hR.1
  unfold BB at hS
  refine ⟨fun t n i w' => ∃ j : Nat, i = j ∧ j ≤ l.length ∧ t = l.length - j ∧ n = (cnt p.seg (l.take j) : Nat) ∧ Fr Non w16 w' ∧ ∀ i, i < j → atp p.seg p.occ l i = false, ⟨l.length, 0, rfl, by omega, rfl, rfl, Fr.refl _ _, fun i h => by omega⟩, ?_⟩
  rintro t n i w22 ⟨j, rfl, hj, rfl, rfl, f22, hno⟩
  refine ⟨m.s, hc f22, fun h => ?_, fun h => ?_⟩
  · have hj : j < l.length := by have := of_decide_eq_true h; omega
    have hle := cnt_le p.seg (l.take j)
    have hs := cnt_snoc p.seg hj
    have hp := atp_eq p.seg p.occ hj
    rw [hs] at hp
    simp only [List.length_take] at hle
    refine ⟨fun n w' => n = (cnt p.seg (l.take (j + 1)) : Nat) ∧ Fr Non w16 w' ∧ atp p.seg p.occ l j = false, ?_, ?_⟩
    · rintro n w26 ⟨rfl, f26, hn⟩
      refine ⟨l.length - (j + 1), by omega, j + 1, by rw [w64_id (by omega) (by omega)]; push_cast; rfl, by omega, rfl, rfl, f26, fun i hi => ?_⟩
      by_cases hij : i = j
      · subst hij; exact hn
      · exact hno i (by omega)
    rintro w27 rfl
    have f27 : Fr Non w16 w22.drew := f22.drew
    obtain ⟨a, ha, hn, _⟩ := (hR.fr (f16.trans' f27)).2 j hj
    refine ⟨m.s, hc f27, a, ha, ⟨by omega, by omega⟩, l[j].name, hn, p.seg, (hP.fr f27 (fun h => h)).cell rfl, fun he => ?_, fun he => ⟨?_, f27, ?_⟩⟩
    · rw [w64_id (by omega) (by omega)]
      refine ⟨p.occ, by rw [add_mk]; exact (hP.fr f27 (fun h => h)).cell rfl, fun hz => ?_, fun hz => ⟨?_, f27, ?_⟩⟩
      · have : atF p.seg p.occ l = some j := find_some hj hno (by
          show atp p.seg p.occ l j = true
          rw [hp, he]; simp only [if_true, beq_iff_eq, Bool.true_and, decide_eq_true_eq] at hz ⊢; omega)
        rw [this] at hk; exact hk _ (f16.trans' f27)
      · rw [hs, he]; simp
      · rw [hp, he]; simp only [if_true, beq_eq_false_iff_ne, Bool.true_and, decide_eq_false_iff_not, ne_eq] at hz ⊢; omega
    · rw [hs, he]; simp
    · rw [hp, he]; rfl
  · have : j = l.length := by have := of_decide_eq_false h; omega
    subst this
    have : atF p.seg p.occ l = none := find_none hno
    rw [this] at hk; exact hk _ (f16.trans' f22)
set_option maxHeartbeats 2000000 in
theorem rget_spec (m : Mh) (p : Pa) (l : List Seg) (hR : RM w m.s l) (hS : SmM l) (hp : p.seg.length ≤ 1000000000000000) (hk : ∀ w', Fr Non w w' → k (.string (mkS (getP l p))) w') : Cl Tryz.prog 66 [.agg (List.toArray (mc m)), .agg (List.toArray (pc p))] w k := by
  refine f66_ok ?_
  unfold f66
  intro b13 w14 hb13 hw14 b15 w16 hb15 hw16
  have f14 : Fr Non w w14 := hw14 ▸ (Fr.refl Non w).alloc _
  have f16 : Fr Non w w16 := hw16 ▸ f14.alloc _
  have hM14 : Blk w14 b13 26 (mc m) := hb13 ▸ hw14 ▸ Blk.new w (mc m) 26
  have hM : Blk w16 b13 26 (mc m) := hw16 ▸ hM14.alloc _
  have hP : Blk w16 b15 28 (pc p) := hb15 ▸ hw16 ▸ Blk.new w14 (pc p) 28
  have hc : ∀ {w' : World}, Fr Non w16 w' → w'.cell? ((⟨b13, 0, none⟩ : Addr).add 5) = some (.slice m.s.base m.s.len m.s.cap) := fun f => by rw [add_mk]; exact (hM.fr f (fun h => h)).cell rfl
  have hpc : ∀ {w' : World} {i : Nat} {v : Value}, Fr Non w16 w' → (pc p)[i]? = some v → w'.cell? ((⟨b15, 0, none⟩ : Addr).add i) = some v := fun f h => by rw [add_mk, Nat.zero_add]; exact (hP.fr f (fun h => h)).cell h
  have hL := hR.1
  refine ⟨m.d1, m.d2, m.d3, m.d4, m.d5, m.s, hM.ats (mc m) 0 0 (fun q v hq => by simpa using hq), p.seg, p.occ, p.fld, p.rep, p.cmp, p.sub, patat hP, ?_⟩
  refine rat_spec m p l (hR.fr f16) hS.1 fun w29 g29 => ⟨_, rfl, ?_⟩
  refine ⟨fun v w' => (v = true → getP l p = []) ∧ (v = false → validP p = true ∧ p.fld ≠ 0 ∧ ∃ i, ∃ h : i < l.length, atF p.seg p.occ l = some i ∧ p.fld ≤ (l[i].flds.length : Int)) ∧ Fr Non w16 w', ?_, ?_⟩
  · rintro v w34 ⟨h1, h2, g34⟩
    refine ⟨fun hv => by have := hk _ (f16.trans' g34); rw [h1 hv] at this; exact this, fun hv => ?_⟩
    rintro w50 rfl
    have g50 : Fr Non w16 w34.drew := g34.drew
    obtain ⟨hval, hf0, i, hlt, hi, hfl⟩ := h2 hv
    obtain ⟨⟨p1, p2⟩, ⟨r1, r2⟩, ⟨c1, c2⟩, ⟨u1, u2⟩⟩ := valid_in hval hf0
    obtain ⟨a, ha, _, x, hx, hX⟩ := (hR.fr (f16.trans' g50)).2 i hlt
    obtain ⟨_, hS1, hSF⟩ := hS.2 _ (List.getElem_mem hlt)
    have hg : getP l p = nthD (nthD (nthD (nthD l[i].flds p.fld) p.rep) p.cmp) p.sub := by
      unfold getP; rw [if_pos hval, if_neg hf0, hi]; simp [hlt]
    rw [hi]
    generalize l[i].flds = fl at hX hS1 hSF hg hfl
    have hXL := hX.1
    obtain ⟨h3, he3⟩ := nthD_in p1 hfl
    obtain ⟨a2, ha2, y, hy, hY⟩ := hX.2 _ h3
    rw [he3] at hg
    generalize fl[(p.fld - 1).toNat] = fd at hY hg
    have hYL := hY.1
    have B0 : (0 : Int) ≤ atI (some i) ∧ atI (some i) < (m.s.len : Int) := ⟨by simp [atI], by simp [atI]; omega⟩
    refine ⟨m.s, hc g50, a, ha, B0, x, hx, p.fld, hpc g50 rfl, a2, ha2, ?_, y, ?_, ?_⟩
    · rw [w64_id (by omega) (by omega)]; omega
    · rw [w64_id (by omega) (by omega)]; exact hy
    refine ⟨fun v w' => (v = true → getP l p = []) ∧ (v = false → ∃ h1 : (p.rep - 1).toNat < fd.length, ∃ h2 : (p.cmp - 1).toNat < fd[(p.rep - 1).toNat].length, ∃ h3 : (p.sub - 1).toNat < fd[(p.rep - 1).toNat][(p.cmp - 1).toNat].length, True) ∧ Fr Non w34.drew w', ?_, ?_⟩
    · rintro v w59 ⟨h1, h2, g59⟩
      have k59 := g50.trans' g59
      refine ⟨fun hv => by have := hk _ (f16.trans' k59); rw [h1 hv] at this; exact this, fun hv => ?_⟩
      obtain ⟨t1, t2, t3, _⟩ := h2 hv
      rintro w73 rfl
      have k73 : Fr Non w34.drew w59.drew := g59.drew
      obtain ⟨a3, ha3, z, hz, hZ⟩ := (hY.fr RR.stay k73).2 _ t1
      obtain ⟨a4, ha4, u, hu, hU⟩ := hZ.2 _ t2
      obtain ⟨a5, ha5, hs⟩ := hU.2 _ t3
      have hZL := hZ.1
      have hUL := hU.1
      have := hk _ (f16.trans' (g50.trans' k73))
      rw [hg] at this
      rw [show nthD (nthD (nthD fd p.rep) p.cmp) p.sub = fd[(p.rep - 1).toNat][(p.cmp - 1).toNat][(p.sub - 1).toNat] from by
        obtain ⟨_, e1⟩ := nthD_in (l := fd) r1 (by omega)
        rw [e1]
        obtain ⟨_, e2⟩ := nthD_in (l := fd[(p.rep - 1).toNat]) c1 (by omega)
        rw [e2]
        obtain ⟨_, e3⟩ := nthD_in (l := fd[(p.rep - 1).toNat][(p.cmp - 1).toNat]) u1 (by omega)
        exact e3] at this
      have kk := g50.trans' k73
      refine ⟨p.rep, hpc kk rfl, a3, ha3, ?_, z, ?_, p.cmp, hpc kk rfl, a4, ha4, ?_, u, ?_, p.sub, hpc kk rfl, a5, ha5, ?_, _, ?_, this⟩
      · rw [w64_id (by omega) (by omega)]; omega
      · rw [w64_id (by omega) (by omega)]; exact hz
      · rw [w64_id (by omega) (by omega)]; omega
      · rw [w64_id (by omega) (by omega)]; exact hu
      · rw [w64_id (by omega) (by omega)]; omega
      · rw [w64_id (by omega) (by omega)]; exact hs
    · rintro w60 rfl
      have k60 : Fr Non w34.drew w34.drew.drew := (Fr.refl Non w34.drew).drew
      have kk := g50.trans' k60
      refine ⟨p.rep, hpc kk rfl, fun h => ⟨fun _ => ?_, fun h => (by cases h), k60⟩, fun h => ?_⟩
      · have h := of_decide_eq_true h
        rw [hg, nthD_gt (l := fd) (by omega), nthD_nil, nthD_nil]
      have h := of_decide_eq_false h
      have t1 : (p.rep - 1).toNat < fd.length := by omega
      obtain ⟨a3, ha3, z, hz, hZ⟩ := (hY.fr RR.stay k60).2 _ t1
      have hZL := hZ.1
      obtain ⟨_, q1⟩ := nthD_in (l := fd) r1 (by omega)
      have e1 : IntKind.i64.wrap (p.rep - 1) = p.rep - 1 := w64_id (by omega) (by omega)
      have B1 : (0 : Int) ≤ IntKind.i64.wrap (p.rep - 1) ∧ IntKind.i64.wrap (p.rep - 1) < (y.len : Int) := by rw [e1]; omega
      refine ⟨p.cmp, hpc kk rfl, p.rep, hpc kk rfl, a3, ha3, B1, z, by rw [e1]; exact hz, fun h => ⟨fun _ => ?_, fun h => (by cases h), k60⟩, fun h => ?_⟩
      · have h := of_decide_eq_true h
        rw [hg, q1, nthD_gt (l := fd[(p.rep - 1).toNat]) (by omega), nthD_nil]
      have h := of_decide_eq_false h
      have t2 : (p.cmp - 1).toNat < fd[(p.rep - 1).toNat].length := by omega
      obtain ⟨a4, ha4, u, hu, hU⟩ := hZ.2 _ t2
      have hUL := hU.1
      obtain ⟨_, q2⟩ := nthD_in (l := fd[(p.rep - 1).toNat]) c1 (by omega)
      have e2 : IntKind.i64.wrap (p.cmp - 1) = p.cmp - 1 := w64_id (by omega) (by omega)
      refine ⟨p.sub, hpc kk rfl, p.rep, hpc kk rfl, a3, ha3, B1, z, by rw [e1]; exact hz, p.cmp, hpc kk rfl, a4, ha4, by rw [e2]; omega, u, by rw [e2]; exact hu, fun h => ?_, fun h => ?_, k60⟩
      · have h := of_decide_eq_true h
        rw [hg, q1, q2, nthD_gt (by omega)]
      · have h := of_decide_eq_false h
        exact ⟨t1, t2, by omega, trivial⟩
  · rintro w35 rfl
    have g35 : Fr Non w16 w29.drew := g29.drew
    refine ⟨p.seg, p.occ, p.fld, p.rep, p.cmp, p.sub, patat (hP.fr g35 (fun h => h)), ?_⟩
    refine rvalid_spec p hp fun w42 g42 => ⟨_, rfl, fun hv => ⟨fun _ => ?_, fun h => (by cases h), g35.trans' g42⟩, fun hv => ?_⟩
    · have hv := (Bool.not_eq_true' _).mp hv
      unfold getP; rw [if_neg (by rw [hv]; simp)]
    have hv := (Bool.not_eq_false' _).mp hv
    have k42 := g35.trans' g42
    refine ⟨p.fld, hpc k42 rfl, fun h0 => ⟨fun _ => ?_, fun h => (by cases h), k42⟩, fun h0 => ⟨fun hh => ⟨fun _ => ?_, fun h => (by cases h), k42⟩, fun hh => ?_⟩⟩
    · unfold getP; rw [if_pos hv, if_pos (by simpa using h0)]
    · rw [atI_neg] at hh
      have : atF p.seg p.occ l = none := by simpa using hh
      unfold getP; rw [if_pos hv, if_neg (by simpa using h0), this]
    rw [atI_neg] at hh
    have hf0 : p.fld ≠ 0 := by simpa using h0
    obtain ⟨i, hi⟩ : ∃ i, atF p.seg p.occ l = some i := by
      cases ho : atF p.seg p.occ l with
      | none => rw [ho] at hh; cases hh
      | some i => exact ⟨i, rfl⟩
    have hlt := atF_lt hi
    obtain ⟨a, ha, _, x, hx, hX⟩ := (hR.fr (f16.trans' k42)).2 i hlt
    have hXL := hX.1
    rw [hi]
    have B0 : (0 : Int) ≤ atI (some i) ∧ atI (some i) < (m.s.len : Int) := ⟨by simp [atI], by simp [atI]; omega⟩
    refine ⟨p.fld, hpc k42 rfl, m.s, hc k42, a, ha, B0, x, hx, fun h => ?_, fun h => ⟨hv, hf0, i, hlt, rfl, ?_⟩, k42⟩
    · have h := of_decide_eq_true h
      unfold getP; rw [if_pos hv, if_neg hf0, hi]
      simp only [List.getElem?_eq_getElem hlt, Option.map_some, Option.getD_some]
      rw [nthD_gt (l := l[i].flds) (by omega), nthD_nil, nthD_nil, nthD_nil]
    · have h := of_decide_eq_false h; omega
end
end Go.Proofs.YthpeengmcjpknaaGreatDoor
