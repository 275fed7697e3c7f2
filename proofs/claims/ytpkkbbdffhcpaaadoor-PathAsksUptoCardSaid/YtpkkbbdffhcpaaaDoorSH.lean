/- path.Parse. -/
import Derived.Test.YtpkkbbdffhcpaaaDoorSG
set_option linter.unusedSimpArgs false
set_option linter.unusedVariables false
namespace Go.Proofs.YtpkkbbdffhcpaaaDoor
open Go.V Go.RowKit
def pp : Option Pa → Pa
  | none => zPa
  | some p => p
def pe : Option Pa → Int
  | none => 60
  | some _ => 0
/-- A path and its error. -/
def po (o : Option Pa) : Value := .tuple (List.toArray [.agg (List.toArray (pc (pp o))), .int .i64 (pe o)])
section
variable {w : World} {k : Value → World → Prop}
set_option maxHeartbeats 1000000 in
theorem parse_spec (s : Str) (hs : s.length ≤ 1000000000000000) (hk : ∀ w', Fr Non w w' → k (po (parseP s)) w') : Cl Tryd.prog 9 [.string (mkS s)] w k := by
  refine f9_ok ?_
  unfold f9
  rintro b2 w3 rfl hw3
  have hlen : (if (s.length : Int) < 3 then (s.length : Int) else 3) = ((min 3 s.length : Nat) : Int) := by split <;> omega
  rw [hlen]
  have e1 : sub s 0 ((min 3 s.length : Nat) : Int) = s.take 3 := by
    unfold sub; simp [List.take_eq_take_iff]
  have e2 : sub s ((min 3 s.length : Nat) : Int) (s.length : Int) = s.drop 3 := by
    rw [sub_suf]
    by_cases h : 3 ≤ s.length
    · rw [Nat.min_eq_left h]
    · rw [Nat.min_eq_right (by omega), List.drop_of_length_le (Nat.le_refl _), List.drop_of_length_le (by omega)]
  rw [e1, e2]
  have f3 : Fr Non w w3 := hw3 ▸ (Fr.refl Non w).alloc _
  have hZ3 : Blk w3 w.heap.size 23 (pc zPa) := hw3 ▸ Blk.new w (pc zPa) 23
  refine ⟨⟨by omega, by omega, by omega⟩, clone_spec (s.take 3) (by simp; omega) fun w4 g4 => ⟨_, rfl, ?_⟩⟩
  have hZ4 := hZ3.fr g4 (fun h => h)
  have f4 := upN f3 g4 (fun g hg => hg.elim)
  rintro b7 w8 hb7 hw8
  have hP8 : Blk w8 b7 23 (pc zPa) := hb7 ▸ hw8 ▸ Blk.new w4 (pc zPa) 23
  have hZ8 : Blk w8 w.heap.size 23 (pc zPa) := hw8 ▸ hZ4.alloc _
  have f8 : Fr Non w w8 := hw8 ▸ f4.alloc _
  have hlt7 : w.heap.size < b7 := hb7 ▸ hZ4.lt
  refine ⟨mayCells_of hP8 0 6 (by simp [pc]), ?_⟩
  rintro w9 hw9
  generalize hseg : s.take 3 = seg
  rw [hseg] at hw9
  have hsl : seg.length ≤ 3 := by rw [← hseg]; simp; omega
  let p0 : Pa := ⟨seg, 0, 0, 0, 0, 0⟩
  have hP9 : Blk w9 b7 23 (pc p0) := hw9 ▸ hP8.setAll rfl
  have f9 : Fr Non w w9 := hw9 ▸ f8.setAll hP8 (vs := pc p0) rfl (fun h => absurd h (by omega))
  have hZ9 : Blk w9 w.heap.size 23 (pc zPa) := by
    have := (Fr.refl (fun g => g = b7) w8).setAll hP8 (vs := pc p0) rfl (fun _ => rfl)
    rw [hw9]; exact hZ8.fr this (by omega)
  refine ⟨⟨by omega, by omega, by omega⟩, ?_⟩
  rintro b10 w11 hb10 hw11
  generalize hT : s.drop 3 = t0 at hw11 ⊢
  have htl : t0.length ≤ 1000000000000000 := by rw [← hT]; simp; omega
  -- the result's cells, the path's, the reader's
  have hlt10 : b7 < b10 := hb10 ▸ hP9.lt
  let Q : Pa → Str → Bool → World → Prop := fun p t bd w' => Blk w' w.heap.size 23 (pc zPa) ∧ Blk w' b7 23 (pc p) ∧ Blk w' b10 54 [.string (mkS t), .bool bd] ∧ Fr Non w w' ∧ t.length ≤ 1000000000000000
  have hQ11 : Q p0 t0 false w11 := by
    refine ⟨hw11 ▸ hZ9.alloc _, hw11 ▸ hP9.alloc _, hb10 ▸ hw11 ▸ Blk.new w9 _ _, hw11 ▸ f9.alloc _, htl⟩
  have Qf : ∀ {p : Pa} {t : Str} {bd : Bool} {w' w'' : World}, Q p t bd w' → Fr Non w' w'' → Q p t bd w'' := by
    rintro p t bd w' w'' ⟨h1, h2, h3, h4, h5⟩ f
    exact ⟨h1.fr f (fun h => h), h2.fr f (fun h => h), h3.fr f (fun h => h), h4.trans' f, h5⟩
  have Qs : ∀ {p : Pa} {t : Str} {bd : Bool} {w' : World} (p' : Pa) (i : Nat) (v : Value), Q p t bd w' → (pc p).set i v = pc p' → i < 6 → (w'.cell? ((⟨b7, 0, none⟩ : Addr).add i)).isSome = true ∧ w'.frozen? ((⟨b7, 0, none⟩ : Addr).add i) = false ∧ Q p' t bd (w'.setCell ((⟨b7, 0, none⟩ : Addr).add i) v) := by
    rintro p t bd w' p' i v ⟨h1, h2, h3, h4, h5⟩ he hi
    rw [add_mk]
    have e0 : (0 : Nat) + i = i := by omega
    rw [e0]
    exact ⟨h2.isS (by simpa [pc] using hi), h2.free i, h1.ne (a := ⟨b7, i, none⟩) (by simp only; omega) _, he ▸ h2.set i v, h3.ne (a := ⟨b7, i, none⟩) (by simp only; omega) _, h4.set (a := ⟨b7, i, none⟩) (fun h => by simp only at h; omega) _, h5⟩
  have num : ∀ (op en : Str) {p : Pa} {t : Str} {bd : Bool} {w' : World} {k2 : Value → World → Prop}, Q p t bd w' → (∀ w'', Q p (rnum op en t bd).2.1 (rnum op en t bd).2.2 w'' → k2 (.int .i64 (rnum op en t bd).1) w'') →
      Cl Tryd.prog 27 [.pointer (some ⟨b10, 0, none⟩), .string (mkS op), .string (mkS en)] w' k2 := by
    rintro op en p t bd w' k2 ⟨h1, h2, h3, h4, h5⟩ hk2
    refine rnum_spec op en t bd h5 h3 fun w'' hB f => hk2 _ ?_
    refine ⟨h1.fr f (by omega), h2.fr f (by omega), hB, upN h4 f (fun g hg => by omega), ?_⟩
    unfold rnum; split
    · simp only; split
      · simp; have := (List.dropWhile_sublist isDig (l := t.drop op.length)).length_le; simp at this; omega
      · have := (List.dropWhile_sublist isDig (l := t.drop op.length)).length_le; simp at this; omega
    · exact h5
  have hps : parseP s = pA seg (rnum [91] [93] t0 false) := by unfold parseP; rw [hseg, hT]
  rw [hps] at hk
  refine num [91] [93] hQ11 fun w12 q12 => ⟨_, rfl, ?_⟩
  generalize hr1 : rnum [91] [93] t0 false = r1 at q12 hk ⊢
  obtain ⟨a1, a2, q15⟩ := Qs ⟨seg, r1.1, 0, 0, 0, 0⟩ 1 (.int .i64 r1.1) q12 rfl (by omega)
  refine ⟨a1, a2, ?_⟩
  rintro w15 rfl
  refine ⟨fun w' => ∃ p n t bd, p.seg = seg ∧ Q p t bd w' ∧ fin seg (n, t, bd) p = pA seg r1, ?_, ?_⟩
  · rintro w17 ⟨p, n, t, bd, hpseg, q17, hfin⟩
    refine ⟨fun v w' => ∃ w0, w' = w0 ∧ Q p t bd w' ∧ (v = true → pA seg r1 = none) ∧ (v = false → pA seg r1 = some p), ?_, bd, by rw [add_mk]; exact q17.2.2.1.cell rfl, fun hb => ⟨_, rfl, q17, fun _ => ?_, fun h => by cases h⟩, fun hb => ⟨t, q17.2.2.1.cell rfl, fun ht => ⟨_, rfl, q17, fun _ => ?_, fun h => by cases h⟩, fun ht => ⟨p.seg, q17.2.1.cell rfl, ?_⟩⟩⟩
    · rintro v w46 ⟨w0, rfl, ⟨h1, h2, h3, h4, h5⟩, hv1, hv2⟩
      refine ⟨fun hv => ⟨mayCells_of h1 0 6 (by simp [pc]), ?_⟩, fun hv => ⟨_, _, _, _, _, _, h2.ats (pc p) 0 0 (fun q v hq => by simpa using hq), mayCells_of h1 0 6 (by simp [pc]), ?_⟩⟩
      · rintro w53 rfl
        refine ⟨_, _, _, _, _, _, (h1.setAll (vs := pc zPa) rfl).ats (pc zPa) 0 0 (fun q v hq => by simpa using hq), ?_⟩
        have := hk _ (h4.setAll h1 (vs := pc zPa) rfl (fun h => absurd h (Nat.lt_irrefl _)))
        rw [hv1 hv] at this; exact this
      · rintro w53 rfl
        refine ⟨_, _, _, _, _, _, (h1.setAll (vs := pc p) rfl).ats (pc p) 0 0 (fun q v hq => by simpa using hq), ?_⟩
        have := hk _ (h4.setAll h1 (vs := pc p) rfl (fun h => absurd h (Nat.lt_irrefl _)))
        rw [hv2 hv] at this; exact this
    · rw [← hfin]; exact fin_bad hb
    · rw [← hfin]; unfold fin
      have ht : ¬ t = [] := by simpa using ht
      simp [ht]
    · have ht : t = [] := by simpa using ht
      refine isName_spec p.seg (by rw [hpseg]; omega) fun w50 f50 => ⟨_, rfl, _, rfl, Qf q17 f50, fun hn => ?_, fun hn => ?_⟩
      · have hn := (Bool.not_eq_true' _).mp hn
        rw [← hfin]; exact fin_name (hpseg ▸ hn)
      · have hn := (Bool.not_eq_false' _).mp hn
        rw [← hfin, hb, ht]; rw [fin_ok (hpseg ▸ hn)]; rfl
  refine ⟨r1.2.1, q15.2.2.1.cell rfl, strHasPrefix_spec _ _ ⟨_, rfl, fun hp => ?_, fun hp => ?_⟩⟩
  · have hA : pA seg r1 = pB seg r1.1 (rnum [45] [] r1.2.1 r1.2.2) := by unfold pA; rw [if_pos hp]
    rw [hA]
    refine num [45] [] q15 fun w22 q22 => ⟨_, rfl, ?_⟩
    generalize hr2 : rnum [45] [] r1.2.1 r1.2.2 = r2 at q22 ⊢
    obtain ⟨a1, a2, q25⟩ := Qs ⟨seg, r1.1, r2.1, 0, 0, 0⟩ 2 (.int .i64 r2.1) q22 rfl (by omega)
    refine ⟨a1, a2, ?_⟩
    rintro w25 rfl
    have hB : pB seg r1.1 r2 = pC seg r1.1 r2.1 (rnum [91] [93] r2.2.1 r2.2.2) := rfl
    rw [hB]
    refine num [91] [93] q25 fun w26 q26 => ⟨_, rfl, ?_⟩
    generalize hr3 : rnum [91] [93] r2.2.1 r2.2.2 = r3 at q26 ⊢
    obtain ⟨a1, a2, q29⟩ := Qs ⟨seg, r1.1, r2.1, r3.1, 0, 0⟩ 3 (.int .i64 r3.1) q26 rfl (by omega)
    refine ⟨a1, a2, ?_⟩
    rintro w29 rfl
    obtain ⟨a1, a2, q30⟩ := Qs ⟨seg, r1.1, r2.1, r3.1, 1, 0⟩ 4 (.int .i64 1) q29 rfl (by omega)
    refine ⟨a1, a2, ?_⟩
    rintro w30 rfl
    obtain ⟨a1, a2, q31⟩ := Qs ⟨seg, r1.1, r2.1, r3.1, 1, 1⟩ 5 (.int .i64 1) q30 rfl (by omega)
    refine ⟨a1, a2, ?_⟩
    rintro w31 rfl
    refine ⟨r3.2.1, q31.2.2.1.cell rfl, strHasPrefix_spec _ _ ⟨_, rfl, fun hp => ?_, fun hp => ?_⟩⟩
    · have hC : pC seg r1.1 r2.1 r3 = pD seg r1.1 r2.1 r3.1 (rnum [46] [] r3.2.1 r3.2.2) := by unfold pC; rw [if_pos hp]
      rw [hC]
      refine num [46] [] q31 fun w36 q36 => ⟨_, rfl, ?_⟩
      generalize hr4 : rnum [46] [] r3.2.1 r3.2.2 = r4 at q36 ⊢
      obtain ⟨a1, a2, q39⟩ := Qs ⟨seg, r1.1, r2.1, r3.1, r4.1, 1⟩ 4 (.int .i64 r4.1) q36 rfl (by omega)
      refine ⟨a1, a2, ?_⟩
      rintro w39 rfl
      refine num [46] [] q39 fun w40 q40 => ⟨_, rfl, ?_⟩
      obtain ⟨a1, a2, q43⟩ := Qs ⟨seg, r1.1, r2.1, r3.1, r4.1, (rnum [46] [] r4.2.1 r4.2.2).1⟩ 5 (.int .i64 (rnum [46] [] r4.2.1 r4.2.2).1) q40 rfl (by omega)
      refine ⟨a1, a2, ?_⟩
      rintro w43 rfl
      exact ⟨_, (rnum [46] [] r4.2.1 r4.2.2).1, _, _, rfl, q43, rfl⟩
    · have hp : ¬ ([46] : Str).isPrefixOf r3.2.1 = true := by rw [hp]; simp
      have hC : pC seg r1.1 r2.1 r3 = fin seg r3 ⟨seg, r1.1, r2.1, r3.1, 1, 1⟩ := by unfold pC; rw [if_neg hp]
      exact ⟨_, r3.1, _, _, rfl, q31, hC.symm⟩
  · have hp : ¬ ([45] : Str).isPrefixOf r1.2.1 = true := by rw [hp]; simp
    have hA : pA seg r1 = fin seg r1 ⟨seg, r1.1, 0, 0, 0, 0⟩ := by unfold pA; rw [if_neg hp]
    exact ⟨_, r1.1, _, _, rfl, q15, hA.symm⟩
end
end Go.Proofs.YtpkkbbdffhcpaaaDoor
