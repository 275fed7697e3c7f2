/- Path: texts of paths, walked. -/
import Derived.Test.YtoaoofobidhfjaaGreatDoorQSQ
import Derived.Test.YtoaoofobidhfjaaGreatDoorQSS
import Derived.Test.YtoaoofobidhfjaaGreatDoorQFJ
import Derived.Test.YtoaoofobidhfjaaGreatDoorQM1
set_option linter.unusedSimpArgs false
set_option linter.unusedVariables false
namespace Go.Proofs.YtoaoofobidhfjaaGreatDoor
open Go.V Go.RowKit
section
variable {w : World} {k : Value → World → Prop}
theorem number_spec (s : Str) (hs : s.length ≤ 1000000000000000) (hk : k (.tuple (List.toArray [.int .i64 (numOf s).1, .int .i64 (numOf s).2])) w) : Cl Tryz.prog 182 [.string (mkS s)] w k := by
  refine f182_ok ?_
  unfold f182
  refine ⟨fun v w' => w' = w ∧ v = decide (numBad s), ?_, fun h => ?_, fun h => ⟨fun h2 => ?_, fun h2 => ⟨fun h3 => ?_, fun h3 => ?_⟩⟩⟩
  case refine_2 => exact ⟨rfl, by have : s = [] := by simpa using h
                                  simp [numBad, this]⟩
  case refine_3 =>
    have h2 := of_decide_eq_true h2
    exact ⟨rfl, by have : 10 < s.length := by omega
                   simp [numBad, this]⟩
  case refine_4 =>
    have h : ¬ s = [] := by simpa using h
    have h2 := of_decide_eq_false h2
    have h3 := of_decide_eq_true h3
    have e : (((s.getD ((0 : Int)).toNat 0).toNat : Int) == 48) = decide (s.getD 0 0 = 48) := u8_eq _ 48 (by decide)
    refine ⟨⟨by omega, by omega⟩, rfl, ?_⟩
    rw [e, decide_eq_decide]
    have h10 : ¬ 10 < s.length := by omega
    have h1 : 1 < s.length := by omega
    simp only [numBad, h, h10, h1, false_or, true_and]
  case refine_5 =>
    have h : ¬ s = [] := by simpa using h
    have h2 := of_decide_eq_false h2
    have h3 := of_decide_eq_false h3
    refine ⟨rfl, ?_⟩
    have h10 : ¬ 10 < s.length := by omega
    have h1 : ¬ 1 < s.length := by omega
    simp [numBad, h, h10, h1]
  rintro v w4 ⟨rfl, rfl⟩
  refine ⟨fun hv => ?_, fun hv => ?_⟩
  · have hv := of_decide_eq_true hv
    simp only [numOf, hv, if_true] at hk
    exact hk
  have hv := of_decide_eq_false hv
  have h10 : s.length ≤ 10 := by unfold numBad at hv; omega
  refine ⟨fun m v i w' => ∃ j : Nat, i = j ∧ j ≤ s.length ∧ m = s.length - j ∧ w' = w4 ∧ v = dval (s.take j) ∧ (s.take j).all isDig = true, ⟨s.length, 0, rfl, by omega, by omega, rfl, rfl, rfl⟩, ?_⟩
  rintro m v i w' ⟨j, rfl, hj, rfl, rfl, rfl, hd⟩
  obtain ⟨b1, b2⟩ := dval_bnd _ hd
  have hp0 : 10 ^ (s.take j).length ≤ 10 ^ 10 := Nat.pow_le_pow_right (by omega) (by simp; omega)
  have hp : (10 : Int) ^ (s.take j).length ≤ 10 ^ 10 := by have := Int.ofNat_le.2 hp0; rw [Int.natCast_pow] at this; exact this
  refine ⟨fun h => ?_, fun h => ?_⟩
  · have hjl : j < s.length := by have := of_decide_eq_true h; omega
    have e1 : s.getD ((j : Int)).toNat 0 = s[j] := by simp [hjl]
    rw [e1]
    refine ⟨fun v w'' => w'' = w' ∧ v = !isDig s[j], ?_, ⟨by omega, by omega⟩, fun h => ⟨rfl, ?_⟩, fun h => ⟨⟨by omega, by omega⟩, rfl, ?_⟩⟩
    · rintro v w'' ⟨rfl, rfl⟩
      refine ⟨fun hv2 => ?_, fun hv2 => ⟨⟨by omega, by omega⟩, ?_⟩⟩
      · have hv2 : isDig s[j] = false := by simpa using hv2
        have := all_take_false hjl hv2
        simp only [numOf, hv, if_false, this] at hk
        exact hk
      · have hv2 : isDig s[j] = true := by simpa using hv2
        have hc := hv2
        simp only [isDig, decide_eq_true_eq] at hc
        refine ⟨s.length - (j + 1), by omega, j + 1, by rw [w64_id (by omega) (by omega)]; push_cast; rfl, by omega, rfl, rfl, ?_, ?_⟩
        · rw [List.take_succ_eq_append_getElem hjl, dval_snoc, wu8_id (by omega) (by omega), w64_id (x := 10 * _) (by omega) (by omega), w64_id (x := (s[j].toNat : Int) - 48) (by omega) (by omega), w64_id (by omega) (by omega)]
        · rw [List.take_succ_eq_append_getElem hjl, List.all_append, hd]; simp [hv2]
    · have h := of_decide_eq_true h
      have : isDig s[j] = false := by simp only [isDig, decide_eq_false_iff_not]; omega
      simp [this]
    · have h := of_decide_eq_false h
      by_cases h57 : (57 : Int) < (s[j].toNat : Int)
      · have : isDig s[j] = false := by simp only [isDig, decide_eq_false_iff_not]; omega
        simp [this, h57]
      · have : isDig s[j] = true := by simp only [isDig, decide_eq_true_eq]; omega
        simp [this, h57]
  · obtain rfl : j = s.length := by have := of_decide_eq_false h; omega
    rw [List.take_length] at hd ⊢
    refine ⟨fun h => ?_, fun h => ?_⟩
    · have h := of_decide_eq_true h
      simp only [numOf, hv, if_false, hd, if_true, h] at hk; exact hk
    · have h := of_decide_eq_false h
      simp only [numOf, hv, if_false, hd, if_true, h] at hk; exact hk
end
section
variable {w : World} {k : Value → World → Prop}
theorem in_spec (n : Int) (hk : k (.bool (inR n)) w) : Cl Tryz.prog 146 [.int .i64 n] w k := by
  refine f146_ok ?_
  unfold f146
  unfold inR at hk
  refine ⟨fun h => ?_, fun h => ?_⟩
  · rw [h] at hk; exact hk
  · rw [h] at hk; exact hk
theorem valid_spec (p : Pa) (hs : p.seg.length ≤ 1000000000000000) (hk : ∀ w', Fr Non w w' → k (.bool (validP p)) w') : Cl Tryz.prog 98 [.agg (List.toArray (pc p))] w k := by
  refine f98_ok ?_
  unfold f98
  rintro b7 w8 rfl hw8
  have f8 : Fr Non w w8 := hw8 ▸ (Fr.refl Non w).alloc _
  have hB : Blk w8 w.heap.size 59 (pc p) := hw8 ▸ Blk.new w (pc p) 59
  refine ⟨fun v w' => v = !(isName p.seg && inR p.occ) ∧ Fr Non w8 w', ?_, p.seg, hB.cell rfl, ?_⟩
  · rintro v w1 ⟨rfl, f1⟩
    have g1 := upN f8 f1 (fun g hg => hg.elim)
    have hB1 := hB.fr f1 (fun h => h)
    refine ⟨fun h => ?_, fun h => ?_⟩
    · have h := (Bool.not_eq_true' _).mp h
      have e : validP p = false := by unfold validP; rw [h]; rfl
      have := hk w1 g1
      rw [e] at this; exact this
    have h := (Bool.not_eq_false' _).mp h
    have ev : validP p = (plain p || (inR p.fld && (inR p.rep && (inR p.cmp && inR p.sub)))) := by unfold validP; rw [h]; rfl
    have hk1 := hk w1 g1
    rw [ev] at hk1
    refine ⟨p.seg, p.occ, p.fld, p.rep, p.cmp, p.sub, hB1.ats (pc p) 0 0 (fun q v hq => by simpa using hq), p.seg, hB1.cell rfl, p.occ, by rw [add_mk]; exact hB1.cell rfl, fun hp => ?_, fun hp => ?_⟩
    · have hp : plain p = true := by simpa [plain] using hp
      rw [hp] at hk1; exact hk1
    · have hp : plain p = false := by
        cases hq : plain p
        · rfl
        · exfalso; unfold plain at hq; rw [hq] at hp; simp at hp
      rw [hp, Bool.false_or] at hk1
      refine ⟨p.fld, by rw [add_mk]; exact hB1.cell rfl, in_spec _ ⟨_, rfl, fun h1 => ?_, fun h1 => by rw [h1] at hk1; exact hk1⟩⟩
      rw [h1, Bool.true_and] at hk1
      refine ⟨p.rep, by rw [add_mk]; exact hB1.cell rfl, in_spec _ ⟨_, rfl, fun h1 => ?_, fun h1 => by rw [h1] at hk1; exact hk1⟩⟩
      rw [h1, Bool.true_and] at hk1
      refine ⟨p.cmp, by rw [add_mk]; exact hB1.cell rfl, in_spec _ ⟨_, rfl, fun h1 => ?_, fun h1 => by rw [h1] at hk1; exact hk1⟩⟩
      rw [h1, Bool.true_and] at hk1
      exact ⟨p.sub, by rw [add_mk]; exact hB1.cell rfl, in_spec _ ⟨_, rfl, hk1⟩⟩
  · refine isName_spec p.seg hs fun w1 f1 => ⟨_, rfl, fun h => ?_, fun h => ?_⟩
    · have h := (Bool.not_eq_true' _).mp h
      exact ⟨by rw [h]; rfl, f1⟩
    · have h := (Bool.not_eq_false' _).mp h
      refine ⟨p.occ, by rw [add_mk]; exact (hB.fr f1 (fun h => h)).cell rfl, in_spec _ ⟨_, rfl, ?_, f1⟩⟩
      rw [h]; rfl
end
section
variable {w : World} {k : Value → World → Prop}
theorem rnum_spec {b : Nat} {T : TypeId} (op en s : Str) (bad : Bool) (hs : s.length ≤ 1000000000000000) (hB : Blk w b T [.string (mkS s), .bool bad])
    (hk : ∀ w', Blk w' b T [.string (mkS (rnum op en s bad).2.1), .bool (rnum op en s bad).2.2] → Fr (fun g => g = b) w w' → k (.int .i64 (rnum op en s bad).1) w') :
    Cl Tryz.prog 143 [.pointer (some ⟨b, 0, none⟩), .string (mkS op), .string (mkS en)] w k := by
  refine f143_ok ?_
  unfold f143
  refine ⟨_, rfl, s, hB.cell rfl, cutPrefix_spec s op ⟨_, _, rfl, fun h => ?_, fun h => ?_⟩⟩
  · have h := (Bool.not_eq_true' _).mp h
    have e : rnum op en s bad = (1, s, bad) := by unfold rnum; rw [if_neg (by rw [h]; simp)]
    have := hk w (by rw [e]; exact hB) (Fr.refl _ _)
    rw [e] at this; exact this
  have h := (Bool.not_eq_false' _).mp h
  rw [if_pos h]
  generalize hx : s.drop op.length = x
  have hxl : x.length ≤ 1000000000000000 := by rw [← hx]; simp; omega
  refine ⟨fun m n w' => ∃ j : Nat, n = j ∧ j ≤ x.length ∧ m = x.length - j ∧ w' = w ∧ (x.take j).all isDig = true, ⟨x.length, 0, rfl, by omega, by omega, rfl, rfl⟩, ?_⟩
  rintro m n w1 ⟨j, rfl, hj, rfl, rfl, hall⟩
  refine ⟨fun v w' => w' = w1 ∧ (v = true → ∃ hh : j < x.length, isDig x[j] = true) ∧ (v = false → ∀ hh : j < x.length, isDig x[j] = false), ?_, fun hlt => ?_, fun hge => ⟨rfl, by simp, fun _ hh => by have := of_decide_eq_false hge; omega⟩⟩
  case refine_2 =>
    have hjl : j < x.length := by have := of_decide_eq_true hlt; omega
    have e1 : x.getD ((j : Int)).toNat 0 = x[j] := by simp [hjl]
    rw [e1]
    refine ⟨⟨by omega, by omega⟩, fun h1 => ⟨⟨by omega, by omega⟩, rfl, fun h2 => ⟨hjl, ?_⟩, fun h2 _ => ?_⟩, fun h1 => ⟨rfl, by simp, fun _ _ => ?_⟩⟩
    · rw [← dig_dec, h1, h2]; rfl
    · rw [← dig_dec, h1, h2]; rfl
    · rw [← dig_dec, h1]; rfl
  rintro v w2 ⟨rfl, hv1, hv2⟩
  refine ⟨fun hv => ?_, fun hv => ⟨⟨by omega, by omega, by omega⟩, ?_⟩⟩
  · obtain ⟨hh, hd⟩ := hv1 hv
    refine ⟨x.length - (j + 1), by omega, j + 1, by rw [w64_id (by omega) (by omega)]; push_cast; rfl, by omega, rfl, rfl, ?_⟩
    rw [List.take_succ_eq_append_getElem hh, List.all_append, hall]; simp [hd]
  obtain ⟨t1, t2⟩ := tw_split isDig x j hj hall (hv2 hv)
  have es : sub x 0 (j : Int) = x.takeWhile isDig := by rw [t1]; simp [sub]
  have ed : sub x (j : Int) (x.length : Int) = x.dropWhile isDig := by rw [sub_suf, t2]
  rw [es, ed]
  have hr : rnum op en s bad = ((numOf (x.takeWhile isDig)).1, (if en.isPrefixOf (x.dropWhile isDig) then (x.dropWhile isDig).drop en.length else x.dropWhile isDig),
     (bad || ((numOf (x.takeWhile isDig)).2 != 0 || (decide ((numOf (x.takeWhile isDig)).1 < 1) || (decide (200 < (numOf (x.takeWhile isDig)).1) || !(en.isPrefixOf (x.dropWhile isDig))))))) := by
    unfold rnum; rw [if_pos h, hx]
  refine number_spec _ (by rw [t1]; simp; omega) ⟨_, _, rfl, ⟨by omega, by omega, by omega⟩, cutPrefix_spec _ en ⟨_, _, rfl, ?_⟩⟩
  generalize hnv : numOf (x.takeWhile isDig) = nv at hr ⊢
  generalize hpe : en.isPrefixOf (x.dropWhile isDig) = pe at hr ⊢
  refine ⟨fun w' => Blk w' b T [.string (mkS s), .bool (rnum op en s bad).2.2] ∧ Fr (fun g => g = b) w2 w', ?_, ?_⟩
  · rintro w3 ⟨hB3, f3⟩
    refine ⟨_, rfl, hB3.isS (by simp), hB3.free 0, ?_⟩
    rintro w4 rfl
    have := hk _ (by have := hB3.set 0 (.string (mkS (rnum op en s bad).2.1)); rw [hr] at this ⊢; exact this) (f3.trans' (setB b 0 _))
    rw [hr] at this; exact this
  have fin : ∀ nb : Bool, nb = (rnum op en s bad).2.2 → ((w2.cell? ((⟨b, 0, none⟩ : Addr).add 1)).isSome = true ∧ w2.frozen? ((⟨b, 0, none⟩ : Addr).add 1) = false ∧ ∀ w4, w4 = w2.setCell ((⟨b, 0, none⟩ : Addr).add 1) (.bool nb) → Blk w4 b T [.string (mkS s), .bool (rnum op en s bad).2.2] ∧ Fr (fun g => g = b) w2 w4) := by
    rintro nb rfl
    rw [add_mk]
    refine ⟨hB.isS (by simp), hB.free _, ?_⟩
    rintro w4 rfl
    exact ⟨hB.set 1 _, setB b 1 _⟩
  refine ⟨_, rfl, bad, by rw [add_mk]; exact hB.cell rfl, fun h1 => ⟨_, rfl, fin true ?_⟩, fun h1 => ⟨fun h2 => ⟨_, rfl, fin true ?_⟩, fun h2 => ⟨fun h3 => ⟨_, rfl, fin true ?_⟩, fun h3 => ⟨fun h4 => ⟨_, rfl, fin true ?_⟩, fun h4 => ⟨_, rfl, fin _ ?_⟩⟩⟩⟩⟩ <;> rw [hr] <;> simp [*]
end
section
variable {w : World} {k : Value → World → Prop}
theorem digits_spec (N : Nat) (hN : N < 10000000000000000000) (hk : ∀ w', Fr Non w w' → k (.string (mkS (dec N))) w') : Cl Tryz.prog 145 [.int .i64 (N : Int)] w k := by
  refine f145_ok ?_
  unfold f145
  rintro b2 w3 rfl hw3
  have f3 : Fr Non w w3 := hw3 ▸ (Fr.refl Non w).alloc _
  have hB3 : Blk w3 w.heap.size 197 (List.replicate 20 (.int .u8 0)) := hw3 ▸ Blk.new w _ _
  have hneg : ¬ (N : Int) < 0 := by omega
  refine ⟨fun n w' => n = (N : Int) ∧ w' = w3, ?_, fun h => absurd (of_decide_eq_true h) hneg, fun _ => ⟨wu64_id (by omega) (by omega), rfl⟩⟩
  rintro n w6 ⟨rfl, rfl⟩
  -- what is left to be written, and what is written
  refine ⟨fun m n i w' => ∃ (f q : Nat) (suf : Str), m = f ∧ n = (q : Int) ∧ i = (f : Int) ∧ q < 10 ^ f ∧ 0 < f ∧ q < 10000000000000000000 ∧ dec N = decF f q ++ suf ∧ f + suf.length = 20 ∧ Fr Non w w' ∧ ∃ cs, Blk w' w.heap.size 197 cs ∧ cs.length = 20 ∧ cs.drop f = bys suf,
    ⟨20, 20, N, [], rfl, rfl, rfl, by omega, by omega, by omega, by simp [dec], rfl, f3, _, hB3, by simp, by simp [bys]⟩, ?_⟩
  rintro m n i w1 ⟨f, q, suf, rfl, rfl, rfl, hqf, hf0, hq, hdec, hfl, hfr, cs, hB, hcl, hcd⟩
  obtain ⟨g, rfl⟩ : ∃ g, m = g + 1 := ⟨m - 1, by omega⟩
  have ei : IntKind.i64.wrap (((g + 1 : Nat) : Int) - 1) = (g : Int) := by rw [w64_id (by omega) (by omega)]; push_cast; omega
  rw [ei]
  have em : ((q : Int)).tmod 10 = ((q % 10 : Nat) : Int) := by rw [Int.tmod_eq_emod_of_nonneg (by omega)]; push_cast; rfl
  have ed : ((q : Int)).tdiv 10 = ((q / 10 : Nat) : Int) := by rw [Int.tdiv_eq_ediv_of_nonneg (by omega)]; push_cast; rfl
  have ea : (⟨w.heap.size, 0, none⟩ : Addr).add (((g : Int)).toNat * 1) = ⟨w.heap.size, g, none⟩ := by rw [add_mk]; simp
  rw [em, ed, dig_byte _ (by omega), ea, wu64_id (by omega) (by omega)]
  refine ⟨by decide, ⟨by omega, by omega⟩, hB.isS (by omega), hB.free g, ?_⟩
  rintro w13 rfl
  have hB2 := hB.set g (.int .u8 ((UInt8.ofNat (48 + q % 10)).toNat : Int))
  have hfr2 : Fr Non w (w1.setCell ⟨w.heap.size, g, none⟩ (.int .u8 ((UInt8.ofNat (48 + q % 10)).toNat : Int))) := hfr.set (a := ⟨w.heap.size, g, none⟩) (fun h => absurd h (Nat.lt_irrefl _)) _
  have hcd2 : (cs.set g (.int .u8 ((UInt8.ofNat (48 + q % 10)).toNat : Int))).drop g = bys (UInt8.ofNat (48 + q % 10) :: suf) := by
    rw [List.drop_eq_getElem_cons (by simp; omega), List.getElem_set_self, List.drop_set_of_lt (by omega), hcd]; rfl
  refine ⟨by decide, fun h0 => ?_, fun h0 => ?_⟩
  · have h0 : q / 10 = 0 := by simp at h0; omega
    have hq10 : q < 10 := by omega
    have hfin : dec N = UInt8.ofNat (48 + q % 10) :: suf := by
      rw [hdec, decF, if_pos hq10, Nat.mod_eq_of_lt hq10]; rfl
    refine ⟨fun i w' => i = (g : Int) ∧ w' = w1.setCell ⟨w.heap.size, g, none⟩ (.int .u8 ((UInt8.ofNat (48 + q % 10)).toNat : Int)), ?_, fun h => absurd (of_decide_eq_true h) hneg, fun _ => ⟨rfl, rfl⟩⟩
    rintro i w16 ⟨rfl, rfl⟩
    refine ⟨⟨by omega, by omega, by omega⟩, dec N, ?_, hk _ hfr2⟩
    have hdl : (dec N).length = 20 - g := by rw [hfin]; simp; omega
    refine .inr ⟨⟨w.heap.size, g, none⟩, ?_, ?_, fun q2 hq2 => ?_⟩
    · simp only [slS]
      rw [if_neg (by omega)]
      simp [add_mk]
    · simp only [slS]; rw [hdl]; omega
    · rw [add_mk]
      refine hB2.cell ?_
      rw [hfin]
      have hh := congrArg (fun l => l[q2]?) hcd2
      simp only [List.getElem?_drop] at hh
      rw [hh]
      have hlt : q2 < (UInt8.ofNat (48 + q % 10) :: suf).length := by simp only [slS] at hq2; simp; omega
      generalize UInt8.ofNat (48 + q % 10) :: suf = L at hlt ⊢
      have e : L.getD q2 0 = L[q2] := by rw [List.getD_eq_getElem?_getD, List.getElem?_eq_getElem hlt]; rfl
      rw [e]
      simp only [bys, List.getElem?_map, List.getElem?_eq_getElem hlt, Option.map_some]
  · have h0 : ¬ q / 10 = 0 := by simp at h0; omega
    have hq10 : ¬ q < 10 := by omega
    have hg0 : 0 < g := by
      rcases Nat.eq_zero_or_pos g with rfl | h
      · simp at hqf; omega
      · exact h
    refine ⟨g, by omega, g, q / 10, UInt8.ofNat (48 + q % 10) :: suf, rfl, rfl, rfl, ?_, hg0, by omega, ?_, by simp; omega, hfr2, _, hB2, by simp [hcl], hcd2⟩
    · rw [Nat.div_lt_iff_lt_mul (by omega)]; rw [Nat.pow_succ] at hqf; exact hqf
    · rw [hdec, decF, if_neg hq10, List.append_assoc]; rfl
end
section
variable {w : World} {k : Value → World → Prop}
theorem dig (n : Int) (h0 : 0 ≤ n) (h1 : n ≤ 200) (hk : ∀ w', Fr Non w w' → k (.string (mkS (dec n.toNat))) w') : Cl Tryz.prog 145 [.int .i64 n] w k := by
  obtain ⟨q, rfl⟩ : ∃ q : Nat, n = q := ⟨n.toNat, by omega⟩
  exact digits_spec q (by omega) (by simpa using hk)
theorem square_spec {c : Nat} {T : TypeId} (s : Str) (n : Int) (hn : n ≤ 200) (hs : s.length ≤ 2000000000000000) (hB : Blk w c T [.string (mkS s)])
    (hk : ∀ w', Blk w' c T [.string (mkS (s ++ br n))] → Fr (fun g => g = c) w w' → k (.tuple #[]) w') : Cl Tryz.prog 144 [.int .i64 n, .pointer (some ⟨c, 0, none⟩)] w k := by
  refine f144_ok ?_
  unfold f144
  have b6 := dec_len n.toNat
  refine ⟨fun h => ?_, fun h => ?_⟩
  · have h' := of_decide_eq_true h
    rintro w3 rfl
    refine ⟨s, hB.drew.cell rfl, dig n (by omega) hn fun w5 f5 => ⟨f5.ext, dec n.toNat, rfl, by simp; omega, by simp; omega, by simp; omega, ?_⟩⟩
    have hB5 := hB.drew.fr f5 (fun h => h)
    refine ⟨hB5.isS (by simp), hB5.free 0, ?_⟩
    rintro w8 rfl
    have hf : Fr (fun g => g = c) w w5 := (Fr.refl (fun g => g = c) w).drew.trans f5 (fun _ _ h => h.elim)
    have := hk _ (by have := hB5.set 0 (.string (mkS (s ++ (([91] ++ dec n.toNat) ++ [93])))); unfold br; rw [if_pos h']; exact this) (hf.set (a := ⟨c, 0, none⟩) (fun _ => rfl) _)
    exact this
  · have h' := of_decide_eq_false h
    have e : s ++ br n = s := by unfold br; rw [if_neg h']; simp
    exact hk w (by rw [e]; exact hB) (Fr.refl _ _)
end
section
variable {w : World} {k : Value → World → Prop}
set_option maxHeartbeats 1000000 in
theorem print_spec (p : Pa) (hs : p.seg.length ≤ 1000000000000000) (hk : ∀ w', Fr Non w w' → k (.string (mkS (printP p))) w') : Cl Tryz.prog 97 [.agg (List.toArray (pc p))] w k := by
  refine f97_ok ?_
  unfold f97
  rintro b7 w8 rfl hw8
  have f8 : Fr Non w w8 := hw8 ▸ (Fr.refl Non w).alloc _
  have hB : Blk w8 w.heap.size 59 (pc p) := hw8 ▸ Blk.new w (pc p) 59
  refine ⟨p.seg, p.occ, p.fld, p.rep, p.cmp, p.sub, hB.ats (pc p) 0 0 (fun q v hq => by simpa using hq), valid_spec p hs fun w1 f1 => ⟨_, rfl, fun hv => ?_, fun hv => ?_⟩⟩
  · have hv := (Bool.not_eq_true' _).mp hv
    have e : printP p = [] := by unfold printP; rw [if_neg (by rw [hv]; simp)]
    have := hk w1 (upN f8 f1 (fun g hg => hg.elim))
    rw [e] at this; exact this
  have hv := (Bool.not_eq_false' _).mp hv
  have hB1 := hB.fr f1 (fun h => h)
  have g1 := upN f8 f1 (fun g hg => hg.elim)
  have hv2 := hv
  unfold validP at hv2
  simp only [Bool.and_eq_true, Bool.or_eq_true] at hv2
  obtain ⟨⟨_, hocc⟩, hrest⟩ := hv2
  have ho := inR_bnd hocc
  have b1 := br_len p.occ
  have b2 := br_len p.rep
  have b3 := dec_len p.fld.toNat
  have b4 := dec_len p.cmp.toNat
  have b5 := dec_len p.sub.toNat
  have b8 := dt_len (decide (1 < p.cmp) || decide (1 < p.sub)) p.cmp
  refine ⟨p.seg, hB1.cell rfl, ?_⟩
  rintro b19 w20 rfl hw20
  have hlt : w.heap.size < w1.heap.size := hB1.lt
  have f20 : Fr Non w1 w20 := hw20 ▸ (Fr.refl Non w1).alloc _
  have hC : Blk w20 w1.heap.size 9 [.string (mkS [])] := hw20 ▸ Blk.new w1 _ _
  refine ⟨hC.isS (by simp), hC.free 0, ?_⟩
  rintro w21 rfl
  -- the path's cells, the text so far
  let Q : Str → World → Prop := fun s w' => Blk w' w.heap.size 59 (pc p) ∧ Blk w' w1.heap.size 9 [.string (mkS s)] ∧ Fr Non w w'
  have Qs : ∀ {s s' : Str} {w' : World}, Q s w' → Q s' (w'.setCell ⟨w1.heap.size, 0, none⟩ (.string (mkS s'))) := by
    rintro s s' w' ⟨h1, h2, h3⟩
    exact ⟨h1.ne (a := ⟨w1.heap.size, 0, none⟩) (by simp only; omega) _, h2.set 0 _, h3.set (a := ⟨w1.heap.size, 0, none⟩) (fun h => by simp only at h; omega) _⟩
  have Qf : ∀ {s : Str} {w' w'' : World}, Q s w' → Fr Non w' w'' → Q s w'' := by
    rintro s w' w'' ⟨h1, h2, h3⟩ f
    exact ⟨h1.fr f (fun h => h), h2.fr f (fun h => h), h3.trans' f⟩
  have cl : ∀ {s : Str} {w' : World}, Q s w' → ∀ {i : Nat} {v : Value}, (pc p)[i]? = some v → w'.cell? ((⟨w.heap.size, 0, none⟩ : Addr).add i) = some v := by
    intro s w' h i v hi
    rw [add_mk, Nat.zero_add]; exact h.1.cell hi
  have add : ∀ (sg : UInt8) (i : Nat) (n : Int) (s : Str) (w41 : World) (M : World → Prop), Q s w41 → (pc p)[i]? = some (.int .i64 n) → 0 ≤ n → n ≤ 200 → s.length ≤ 2000000000000000 → (∀ w50, Q (s ++ ([sg] ++ dec n.toNat)) w50 → M w50) →
      ∀ w44, w44 = w41.drew → ∃ (x45 : Str), w44.cell? (⟨w1.heap.size, 0, none⟩) = some (.string (mkS x45)) ∧ ∃ (x46 : Int), w44.cell? ((⟨w.heap.size, 0, none⟩ : Addr).add i) = some (.int .i64 x46) ∧ Cl Tryz.prog 145 [.int .i64 x46] w44 (fun v48 w47 => Ext w44 w47 ∧ ∃ (x49 : Str), v48 = (.string (mkS x49)) ∧ ([sg] : Str).length + x49.length ≤ 9223372036854775807 ∧ x45.length + (([sg] : Str) ++ x49).length ≤ 9223372036854775807 ∧ (w47.cell? (⟨w1.heap.size, 0, none⟩)).isSome = true ∧ w47.frozen? (⟨w1.heap.size, 0, none⟩) = false ∧ ∀ w50, w50 = w47.setCell (⟨w1.heap.size, 0, none⟩) (.string (mkS (x45 ++ (([sg] : Str) ++ x49)))) → M w50) := by
    rintro sg i n s w41 M hq hi h0 h2 hsl hM w44 rfl
    have hq4 : Q s w41.drew := Qf hq ((Fr.refl Non w41).drew)
    have hd := dec_len n.toNat
    refine ⟨s, hq4.2.1.cell rfl, n, cl hq4 hi, dig n h0 h2 fun w5 f5 => ⟨f5.ext, _, rfl, by simp; omega, by simp; omega, ?_⟩⟩
    have hq5 := Qf hq4 f5
    refine ⟨hq5.2.1.isS (by simp), hq5.2.1.free 0, ?_⟩
    rintro w50 rfl
    exact hM _ (Qs hq5)
  have sq : ∀ (n : Int) (s : Str) (w' : World) (k' : Value → World → Prop), Q s w' → n ≤ 200 → s.length ≤ 2000000000000000 → (∀ w'', Q (s ++ br n) w'' → k' (.tuple #[]) w'') → Cl Tryz.prog 144 [.int .i64 n, .pointer (some ⟨w1.heap.size, 0, none⟩)] w' k' := by
    intro n s w' k' hq hn hsl hk'
    refine square_spec s n hn hsl hq.2.1 fun w'' hb hf => hk' w'' ⟨hq.1.fr hf (fun e => by omega), hb, hq.2.2.trans hf (fun g hg e => by omega)⟩
  have hq0 : Q p.seg (w20.setCell ⟨w1.heap.size, 0, none⟩ (.string (mkS p.seg))) := Qs (s := []) ⟨hB1.fr f20 (fun h => h), hC, upN g1 f20 (fun g hg => hg.elim)⟩
  refine ⟨p.occ, cl hq0 rfl, sq p.occ p.seg _ _ hq0 (by omega) (by omega) fun w2 hq2 => ?_⟩
  refine ⟨p.fld, cl hq2 rfl, fun h0 => ?_, fun h0 => ?_⟩
  · have h0 : p.fld = 0 := by simpa using h0
    have e : printP p = p.seg ++ br p.occ := by unfold printP; rw [if_pos hv, if_pos h0]
    refine ⟨_, hq2.2.1.cell rfl, ?_⟩
    have := hk w2 hq2.2.2
    rw [e] at this; exact this
  have h0 : ¬ p.fld = 0 := by simpa using h0
  have hin : inR p.fld = true ∧ inR p.rep = true ∧ inR p.cmp = true ∧ inR p.sub = true := by
    rcases hrest with h | h
    · simp [plain, h0] at h
    · exact h
  have i1 := inR_bnd hin.1
  have i2 := inR_bnd hin.2.1
  have i3 := inR_bnd hin.2.2.1
  have i4 := inR_bnd hin.2.2.2
  have e : printP p = (((p.seg ++ br p.occ) ++ [45] ++ dec p.fld.toNat) ++ br p.rep) ++ dt (decide (1 < p.cmp) || decide (1 < p.sub)) p.cmp ++ dt (decide (1 < p.sub)) p.sub := by unfold printP; rw [if_pos hv, if_neg h0]
  refine add 45 2 p.fld _ w2 _ hq2 rfl (by omega) (by omega) (by simp; omega) fun w3 hq3 => ?_
  refine ⟨p.rep, cl hq3 rfl, sq p.rep _ _ _ hq3 (by omega) (by simp; omega) fun w4 hq4 => ?_⟩
  refine ⟨fun w' => Q ((((p.seg ++ br p.occ) ++ [45] ++ dec p.fld.toNat) ++ br p.rep) ++ dt (decide (1 < p.cmp) || decide (1 < p.sub)) p.cmp) w', ?_, fun v w' => v = (decide (1 < p.cmp) || decide (1 < p.sub)) ∧ w' = w4, ?_, p.cmp, cl hq4 rfl, fun h => ⟨by rw [h]; rfl, rfl⟩, fun h => ⟨p.sub, cl hq4 rfl, by rw [h]; rfl, rfl⟩⟩
  · intro w5 hq5
    refine ⟨fun w' => Q (printP p) w', fun w6 hq6 => ⟨_, hq6.2.1.cell rfl, hk w6 hq6.2.2⟩, p.sub, cl hq5 rfl, fun h => ?_, fun h => ?_⟩
    · refine add 46 5 p.sub _ w5 _ hq5 rfl (by omega) (by omega) (by simp; omega) fun w6 hq6 => ?_
      rw [e]; unfold dt at hq6 ⊢; rw [h] at hq6 ⊢; simpa using hq6
    · rw [e]; unfold dt at hq5 ⊢; rw [h] at hq5 ⊢; simpa using hq5
  · rintro v w5 ⟨rfl, rfl⟩
    refine ⟨fun h => ?_, fun h => ?_⟩
    · refine add 46 4 p.cmp _ w5 _ hq4 rfl (by omega) (by omega) (by simp; omega) fun w6 hq6 => ?_
      unfold dt; rw [if_pos h]; simpa using hq6
    · unfold dt; rw [h]; simpa using hq4
end
section
variable {w : World} {k : Value → World → Prop}
set_option maxHeartbeats 1000000 in
theorem parse_spec (s : Str) (hs : s.length ≤ 1000000000000000) (hk : ∀ w', Fr Non w w' → k (po (parseP s)) w') : Cl Tryz.prog 96 [.string (mkS s)] w k := by
  refine f96_ok ?_
  unfold f96
  rintro b2 w3 rfl hw3
  have hlen : (if (s.length : Int) < 3 then (s.length : Int) else 3) = ((min 3 s.length : Nat) : Int) := by split <;> omega
  rw [hlen]
  have e1 : sub s 0 ((min 3 s.length : Nat) : Int) = s.take 3 := by
    unfold sub; simp [List.take_eq_take_iff]
  have e2 : sub s ((min 3 s.length : Nat) : Int) (s.length : Int) = s.drop 3 := by
    rw [sub_suf]
    by_cases h : 3 ≤ s.length
    · rw [Nat.min_eq_left h]
    · rw [Nat.min_eq_right (by omega), List.drop_of_length_le (Nat.le_refl _), List.drop_of_length_le (by omega)]
  rw [e1, e2]
  have f3 : Fr Non w w3 := hw3 ▸ (Fr.refl Non w).alloc _
  have hZ3 : Blk w3 w.heap.size 59 (pc zPa) := hw3 ▸ Blk.new w (pc zPa) 59
  refine ⟨⟨by omega, by omega, by omega⟩, clone_spec (s.take 3) (by simp; omega) fun w4 g4 => ⟨_, rfl, ?_⟩⟩
  have hZ4 := hZ3.fr g4 (fun h => h)
  have f4 := upN f3 g4 (fun g hg => hg.elim)
  rintro b7 w8 hb7 hw8
  have hP8 : Blk w8 b7 59 (pc zPa) := hb7 ▸ hw8 ▸ Blk.new w4 (pc zPa) 59
  have hZ8 : Blk w8 w.heap.size 59 (pc zPa) := hw8 ▸ hZ4.alloc _
  have f8 : Fr Non w w8 := hw8 ▸ f4.alloc _
  have hlt7 : w.heap.size < b7 := hb7 ▸ hZ4.lt
  refine ⟨mayCells_of hP8 0 6 (by simp [pc]), ?_⟩
  rintro w9 hw9
  generalize hseg : s.take 3 = seg
  rw [hseg] at hw9
  have hsl : seg.length ≤ 3 := by rw [← hseg]; simp; omega
  let p0 : Pa := ⟨seg, 0, 0, 0, 0, 0⟩
  have hP9 : Blk w9 b7 59 (pc p0) := hw9 ▸ hP8.setAll rfl
  have f9 : Fr Non w w9 := hw9 ▸ f8.setAll hP8 (vs := pc p0) rfl (fun h => absurd h (by omega))
  have hZ9 : Blk w9 w.heap.size 59 (pc zPa) := by
    have := (Fr.refl (fun g => g = b7) w8).setAll hP8 (vs := pc p0) rfl (fun _ => rfl)
    rw [hw9]; exact hZ8.fr this (by omega)
  refine ⟨⟨by omega, by omega, by omega⟩, ?_⟩
  rintro b10 w11 hb10 hw11
  generalize hT : s.drop 3 = t0 at hw11 ⊢
  have htl : t0.length ≤ 1000000000000000 := by rw [← hT]; simp; omega
  -- the result's cells, the path's, the reader's
  have hlt10 : b7 < b10 := hb10 ▸ hP9.lt
  let Q : Pa → Str → Bool → World → Prop := fun p t bd w' => Blk w' w.heap.size 59 (pc zPa) ∧ Blk w' b7 59 (pc p) ∧ Blk w' b10 166 [.string (mkS t), .bool bd] ∧ Fr Non w w' ∧ t.length ≤ 1000000000000000
  have hQ11 : Q p0 t0 false w11 := by
    refine ⟨hw11 ▸ hZ9.alloc _, hw11 ▸ hP9.alloc _, hb10 ▸ hw11 ▸ Blk.new w9 _ _, hw11 ▸ f9.alloc _, htl⟩
  have Qf : ∀ {p : Pa} {t : Str} {bd : Bool} {w' w'' : World}, Q p t bd w' → Fr Non w' w'' → Q p t bd w'' := by
    rintro p t bd w' w'' ⟨h1, h2, h3, h4, h5⟩ f
    exact ⟨h1.fr f (fun h => h), h2.fr f (fun h => h), h3.fr f (fun h => h), h4.trans' f, h5⟩
  have Qs : ∀ {p : Pa} {t : Str} {bd : Bool} {w' : World} (p' : Pa) (i : Nat) (v : Value), Q p t bd w' → (pc p).set i v = pc p' → i < 6 → (w'.cell? ((⟨b7, 0, none⟩ : Addr).add i)).isSome = true ∧ w'.frozen? ((⟨b7, 0, none⟩ : Addr).add i) = false ∧ Q p' t bd (w'.setCell ((⟨b7, 0, none⟩ : Addr).add i) v) := by
    rintro p t bd w' p' i v ⟨h1, h2, h3, h4, h5⟩ he hi
    rw [add_mk]
    have e0 : (0 : Nat) + i = i := by omega
    rw [e0]
    exact ⟨h2.isS (by simpa [pc] using hi), h2.free i, h1.ne (a := ⟨b7, i, none⟩) (by simp only; omega) _, he ▸ h2.set i v, h3.ne (a := ⟨b7, i, none⟩) (by simp only; omega) _, h4.set (a := ⟨b7, i, none⟩) (fun h => by simp only at h; omega) _, h5⟩
  have num : ∀ (op en : Str) {p : Pa} {t : Str} {bd : Bool} {w' : World} {k2 : Value → World → Prop}, Q p t bd w' → (∀ w'', Q p (rnum op en t bd).2.1 (rnum op en t bd).2.2 w'' → k2 (.int .i64 (rnum op en t bd).1) w'') →
      Cl Tryz.prog 143 [.pointer (some ⟨b10, 0, none⟩), .string (mkS op), .string (mkS en)] w' k2 := by
    rintro op en p t bd w' k2 ⟨h1, h2, h3, h4, h5⟩ hk2
    refine rnum_spec op en t bd h5 h3 fun w'' hB f => hk2 _ ?_
    refine ⟨h1.fr f (by omega), h2.fr f (by omega), hB, upN h4 f (fun g hg => by omega), ?_⟩
    unfold rnum; split
    · simp only; split
      · simp; have := (List.dropWhile_sublist isDig (l := t.drop op.length)).length_le; simp at this; omega
      · have := (List.dropWhile_sublist isDig (l := t.drop op.length)).length_le; simp at this; omega
    · exact h5
  have hps : parseP s = pA seg (rnum [91] [93] t0 false) := by unfold parseP; rw [hseg, hT]
  rw [hps] at hk
  refine num [91] [93] hQ11 fun w12 q12 => ⟨_, rfl, ?_⟩
  generalize hr1 : rnum [91] [93] t0 false = r1 at q12 hk ⊢
  obtain ⟨a1, a2, q15⟩ := Qs ⟨seg, r1.1, 0, 0, 0, 0⟩ 1 (.int .i64 r1.1) q12 rfl (by omega)
  refine ⟨a1, a2, ?_⟩
  rintro w15 rfl
  refine ⟨fun w' => ∃ p n t bd, p.seg = seg ∧ Q p t bd w' ∧ fin seg (n, t, bd) p = pA seg r1, ?_, ?_⟩
  · rintro w17 ⟨p, n, t, bd, hpseg, q17, hfin⟩
    refine ⟨fun v w' => ∃ w0, w' = w0 ∧ Q p t bd w' ∧ (v = true → pA seg r1 = none) ∧ (v = false → pA seg r1 = some p), ?_, bd, by rw [add_mk]; exact q17.2.2.1.cell rfl, fun hb => ⟨_, rfl, q17, fun _ => ?_, fun h => by cases h⟩, fun hb => ⟨t, q17.2.2.1.cell rfl, fun ht => ⟨_, rfl, q17, fun _ => ?_, fun h => by cases h⟩, fun ht => ⟨p.seg, q17.2.1.cell rfl, ?_⟩⟩⟩
    · rintro v w46 ⟨w0, rfl, ⟨h1, h2, h3, h4, h5⟩, hv1, hv2⟩
      refine ⟨fun hv => ⟨mayCells_of h1 0 6 (by simp [pc]), ?_⟩, fun hv => ⟨_, _, _, _, _, _, h2.ats (pc p) 0 0 (fun q v hq => by simpa using hq), mayCells_of h1 0 6 (by simp [pc]), ?_⟩⟩
      · rintro w53 rfl
        refine ⟨_, _, _, _, _, _, (h1.setAll (vs := pc zPa) rfl).ats (pc zPa) 0 0 (fun q v hq => by simpa using hq), ?_⟩
        have := hk _ (h4.setAll h1 (vs := pc zPa) rfl (fun h => absurd h (Nat.lt_irrefl _)))
        rw [hv1 hv] at this; exact this
      · rintro w53 rfl
        refine ⟨_, _, _, _, _, _, (h1.setAll (vs := pc p) rfl).ats (pc p) 0 0 (fun q v hq => by simpa using hq), ?_⟩
        have := hk _ (h4.setAll h1 (vs := pc p) rfl (fun h => absurd h (Nat.lt_irrefl _)))
        rw [hv2 hv] at this; exact this
    · rw [← hfin]; exact fin_bad hb
    · rw [← hfin]; unfold fin
      have ht : ¬ t = [] := by simpa using ht
      simp [ht]
    · have ht : t = [] := by simpa using ht
      refine isName_spec p.seg (by rw [hpseg]; omega) fun w50 f50 => ⟨_, rfl, _, rfl, Qf q17 f50, fun hn => ?_, fun hn => ?_⟩
      · have hn := (Bool.not_eq_true' _).mp hn
        rw [← hfin]; exact fin_name (hpseg ▸ hn)
      · have hn := (Bool.not_eq_false' _).mp hn
        rw [← hfin, hb, ht]; rw [fin_ok (hpseg ▸ hn)]; rfl
  refine ⟨r1.2.1, q15.2.2.1.cell rfl, strHasPrefix_spec _ _ ⟨_, rfl, fun hp => ?_, fun hp => ?_⟩⟩
  · have hA : pA seg r1 = pB seg r1.1 (rnum [45] [] r1.2.1 r1.2.2) := by unfold pA; rw [if_pos hp]
    rw [hA]
    refine num [45] [] q15 fun w22 q22 => ⟨_, rfl, ?_⟩
    generalize hr2 : rnum [45] [] r1.2.1 r1.2.2 = r2 at q22 ⊢
    obtain ⟨a1, a2, q25⟩ := Qs ⟨seg, r1.1, r2.1, 0, 0, 0⟩ 2 (.int .i64 r2.1) q22 rfl (by omega)
    refine ⟨a1, a2, ?_⟩
    rintro w25 rfl
    have hB : pB seg r1.1 r2 = pC seg r1.1 r2.1 (rnum [91] [93] r2.2.1 r2.2.2) := rfl
    rw [hB]
    refine num [91] [93] q25 fun w26 q26 => ⟨_, rfl, ?_⟩
    generalize hr3 : rnum [91] [93] r2.2.1 r2.2.2 = r3 at q26 ⊢
    obtain ⟨a1, a2, q29⟩ := Qs ⟨seg, r1.1, r2.1, r3.1, 0, 0⟩ 3 (.int .i64 r3.1) q26 rfl (by omega)
    refine ⟨a1, a2, ?_⟩
    rintro w29 rfl
    obtain ⟨a1, a2, q30⟩ := Qs ⟨seg, r1.1, r2.1, r3.1, 1, 0⟩ 4 (.int .i64 1) q29 rfl (by omega)
    refine ⟨a1, a2, ?_⟩
    rintro w30 rfl
    obtain ⟨a1, a2, q31⟩ := Qs ⟨seg, r1.1, r2.1, r3.1, 1, 1⟩ 5 (.int .i64 1) q30 rfl (by omega)
    refine ⟨a1, a2, ?_⟩
    rintro w31 rfl
    refine ⟨r3.2.1, q31.2.2.1.cell rfl, strHasPrefix_spec _ _ ⟨_, rfl, fun hp => ?_, fun hp => ?_⟩⟩
    · have hC : pC seg r1.1 r2.1 r3 = pD seg r1.1 r2.1 r3.1 (rnum [46] [] r3.2.1 r3.2.2) := by unfold pC; rw [if_pos hp]
      rw [hC]
      refine num [46] [] q31 fun w36 q36 => ⟨_, rfl, ?_⟩
      generalize hr4 : rnum [46] [] r3.2.1 r3.2.2 = r4 at q36 ⊢
      obtain ⟨a1, a2, q39⟩ := Qs ⟨seg, r1.1, r2.1, r3.1, r4.1, 1⟩ 4 (.int .i64 r4.1) q36 rfl (by omega)
      refine ⟨a1, a2, ?_⟩
      rintro w39 rfl
      refine num [46] [] q39 fun w40 q40 => ⟨_, rfl, ?_⟩
      obtain ⟨a1, a2, q43⟩ := Qs ⟨seg, r1.1, r2.1, r3.1, r4.1, (rnum [46] [] r4.2.1 r4.2.2).1⟩ 5 (.int .i64 (rnum [46] [] r4.2.1 r4.2.2).1) q40 rfl (by omega)
      refine ⟨a1, a2, ?_⟩
      rintro w43 rfl
      exact ⟨_, (rnum [46] [] r4.2.1 r4.2.2).1, _, _, rfl, q43, rfl⟩
    · have hp : ¬ ([46] : Str).isPrefixOf r3.2.1 = true := by rw [hp]; simp
      have hC : pC seg r1.1 r2.1 r3 = fin seg r3 ⟨seg, r1.1, r2.1, r3.1, 1, 1⟩ := by unfold pC; rw [if_neg hp]
      exact ⟨_, r3.1, _, _, rfl, q31, hC.symm⟩
  · have hp : ¬ ([45] : Str).isPrefixOf r1.2.1 = true := by rw [hp]; simp
    have hA : pA seg r1 = fin seg r1 ⟨seg, r1.1, 0, 0, 0, 0⟩ := by unfold pA; rw [if_neg hp]
    exact ⟨_, r1.1, _, _, rfl, q15, hA.symm⟩
end
section
variable {w : World} {k : Value → World → Prop}
theorem alive_spec (hk : ∀ w', Fr Non w w' → k (.bool true) w') : Cl Tryz.prog 35 [] w k := by
  refine f35_ok ?_
  unfold f35
  refine parse_spec _ (by decide) fun w1 g1 => ?_
  rw [al1]
  refine ⟨_, _, _, _, _, _, _, rfl, ?_⟩
  intro b10 w11 hb10 hw11
  obtain ⟨m1, n1⟩ := newPa g1 ⟨[80, 73, 68], 2, 5, 1, 1, 2⟩ hb10 hw11
  refine ⟨m1, fun w12 hw12 => ?_⟩
  obtain ⟨hP, _, f12⟩ := n1 w12 hw12
  refine parse_spec _ (by decide) fun w13 g13 => ?_
  rw [al2]
  refine ⟨_, _, _, _, _, _, _, rfl, ?_⟩
  intro b22 w23 hb22 hw23
  obtain ⟨m2, n2⟩ := newPa (f12.trans' g13) ⟨[80, 73, 68], 1, 2, 1, 2, 1⟩ hb22 hw23
  refine ⟨m2, fun w24 hw24 => ?_⟩
  obtain ⟨hQ, g24, f24⟩ := n2 w24 hw24
  have hP24 := (hP.fr g13 (fun h => h)).fr g24 (fun h => h)
  refine ⟨fun _ => ⟨fun _ => ⟨_, _, _, _, _, _, patat hP24, ?_⟩, fun h => absurd h (by decide)⟩, fun h => absurd h (by decide)⟩
  refine print_spec ⟨[80, 73, 68], 2, 5, 1, 1, 2⟩ (by decide) fun w31 g31 => ?_
  rw [al3]
  have hQ31 := hQ.fr g31 (fun h => h)
  refine ⟨_, rfl, fun _ => ⟨2, by rw [add_mk]; exact hQ31.cell rfl, fun _ => ⟨1, by rw [add_mk]; exact hQ31.cell rfl, fun _ => ⟨_, _, _, _, _, _, patat hQ31, ?_⟩, fun h => absurd h (by decide)⟩, fun h => absurd h (by decide)⟩, fun h => absurd h (by decide)⟩
  refine valid_spec ⟨[80, 73, 68], 1, 2, 1, 2, 1⟩ (by decide) fun w42 g42 => ?_
  rw [al4]
  exact ⟨_, rfl, hk _ ((f24.trans' g31).trans' g42)⟩
end
end Go.Proofs.YtoaoofobidhfjaaGreatDoor
