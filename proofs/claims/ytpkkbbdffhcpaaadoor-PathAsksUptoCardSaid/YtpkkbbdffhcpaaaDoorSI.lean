/- The document's ParsePath. -/
import Derived.Test.YtpkkbbdffhcpaaaDoorSH
set_option linter.unusedSimpArgs false
set_option linter.unusedVariables false
namespace Go.Proofs.YtpkkbbdffhcpaaaDoor
open Go.V Go.RowKit
theorem rstep_len (s : Str) (g : UInt8) : (rstep s g).2.1.length ≤ s.length := by
  unfold rstep
  split
  · simp
  · rename_i c x
    have := (List.dropWhile_sublist isDig (l := x)).length_le
    split
    · split
      · simp
      · split
        · split
          · simp
          · simp; omega
        · simp; omega
    · simp
section
variable {w : World} {k : Value → World → Prop}
set_option maxHeartbeats 1000000 in
theorem rparse_spec (s : Str) (hs : s.length ≤ 1000000000000000) (hk : ∀ w', Fr Non w w' → k (po (parseR s)) w') : Cl Tryd.prog 10 [.string (mkS s)] w k := by
  refine f10_ok ?_
  unfold f10
  rintro b2 w3 rfl hw3
  have f3 : Fr Non w w3 := hw3 ▸ (Fr.refl Non w).alloc _
  have hZ3 : Blk w3 w.heap.size 23 (pc zPa) := hw3 ▸ Blk.new w (pc zPa) 23
  -- the two ways out
  have outE : ∀ w', Blk w' w.heap.size 23 (pc zPa) → Fr Non w w' → parseR s = none → mayCells w' (⟨w.heap.size, 0, none⟩) 0 6 ∧ ∀ w10, w10 = setCells w' (⟨w.heap.size, 0, none⟩) 0 [.string (mkS []), .int .i64 0, .int .i64 0, .int .i64 0, .int .i64 0, .int .i64 0] → ∃ (x11 : Str) (x12 : Int) (x13 : Int) (x14 : Int) (x15 : Int) (x16 : Int), cellsAt w10 (⟨w.heap.size, 0, none⟩) 0 [.string (mkS x11), .int .i64 x12, .int .i64 x13, .int .i64 x14, .int .i64 x15, .int .i64 x16] ∧ k (.tuple (List.toArray [.agg (List.toArray [.string (mkS x11), .int .i64 x12, .int .i64 x13, .int .i64 x14, .int .i64 x15, .int .i64 x16]), .int .i64 60])) w10 := by
    intro w' h1 h4 hn
    refine ⟨mayCells_of h1 0 6 (by simp [pc]), ?_⟩
    rintro w53 rfl
    refine ⟨_, _, _, _, _, _, (h1.setAll (vs := pc zPa) rfl).ats (pc zPa) 0 0 (fun q v hq => by simpa using hq), ?_⟩
    have := hk _ (h4.setAll h1 (vs := pc zPa) rfl (fun h => absurd h (Nat.lt_irrefl _)))
    rw [hn] at this; exact this
  have outO : ∀ (p : Pa) (b17 : Nat) w', Blk w' w.heap.size 23 (pc zPa) → Fr Non w w' → Blk w' b17 23 (pc p) → parseR s = some p → ∃ (x29 : Str) (x30 : Int) (x31 : Int) (x32 : Int) (x33 : Int) (x34 : Int), cellsAt w' (⟨b17, 0, none⟩) 0 [.string (mkS x29), .int .i64 x30, .int .i64 x31, .int .i64 x32, .int .i64 x33, .int .i64 x34] ∧ mayCells w' (⟨w.heap.size, 0, none⟩) 0 6 ∧ ∀ w35, w35 = setCells w' (⟨w.heap.size, 0, none⟩) 0 [.string (mkS x29), .int .i64 x30, .int .i64 x31, .int .i64 x32, .int .i64 x33, .int .i64 x34] → ∃ (x36 : Str) (x37 : Int) (x38 : Int) (x39 : Int) (x40 : Int) (x41 : Int), cellsAt w35 (⟨w.heap.size, 0, none⟩) 0 [.string (mkS x36), .int .i64 x37, .int .i64 x38, .int .i64 x39, .int .i64 x40, .int .i64 x41] ∧ k (.tuple (List.toArray [.agg (List.toArray [.string (mkS x36), .int .i64 x37, .int .i64 x38, .int .i64 x39, .int .i64 x40, .int .i64 x41]), .int .i64 0])) w35 := by
    intro p b17 w' h1 h4 h2 hn
    refine ⟨_, _, _, _, _, _, h2.ats (pc p) 0 0 (fun q v hq => by simpa using hq), mayCells_of h1 0 6 (by simp [pc]), ?_⟩
    rintro w53 rfl
    refine ⟨_, _, _, _, _, _, (h1.setAll (vs := pc p) rfl).ats (pc p) 0 0 (fun q v hq => by simpa using hq), ?_⟩
    have := hk _ (h4.setAll h1 (vs := pc p) rfl (fun h => absurd h (Nat.lt_irrefl _)))
    rw [hn] at this; exact this
  refine ⟨fun v w' => w' = w3 ∧ v = !(decide (3 ≤ s.length) && isName (s.take 3)), ?_, fun h => ⟨rfl, ?_⟩, fun h => ⟨⟨by omega, by omega, by simp at h; omega⟩, ?_⟩⟩
  case refine_2 =>
    have : ¬ 3 ≤ s.length := by simp at h; omega
    simp [this]
  case refine_3 =>
    have h3 : 3 ≤ s.length := by simp at h; omega
    rw [show sub s 0 (3 : Int) = s.take 3 from by simp [sub]]
    refine rname_spec _ (by simp; omega) ⟨_, rfl, rfl, ?_⟩
    simp [h3]
  rintro v w6 ⟨rfl, rfl⟩
  refine ⟨fun hv => ?_, fun hv => ?_⟩
  · refine outE _ hZ3 f3 ?_
    unfold parseR
    by_cases h3 : s.length < 3
    · rw [if_pos h3]
    · rw [if_neg h3, if_neg]
      intro hn
      simp [hn] at hv; omega
  have hv : (decide (3 ≤ s.length) && isName (s.take 3)) = true := (Bool.not_eq_false' _).mp hv
  simp only [Bool.and_eq_true, decide_eq_true_eq] at hv
  obtain ⟨h3, hname⟩ := hv
  have hpr : parseR s = qA (s.take 3) (rstep (s.drop 3) 91) := by unfold parseR; rw [if_neg (by omega), if_pos hname]
  rw [hpr] at outE outO
  have e1 : sub s 0 (3 : Int) = s.take 3 := by simp [sub]
  have e2 : sub s (3 : Int) (s.length : Int) = s.drop 3 := sub_suf s 3
  rw [e1, e2]
  generalize hT : s.drop 3 = t0 at outE outO ⊢
  have htl : t0.length ≤ 1000000000000000 := by rw [← hT]; simp; omega
  generalize hseg : s.take 3 = seg at outE outO ⊢
  refine ⟨⟨by omega, by omega, by omega⟩, ?_⟩
  rintro b17 w18 hb17 hw18
  have hP8 : Blk w18 b17 23 (pc zPa) := hb17 ▸ hw18 ▸ Blk.new w6 (pc zPa) 23
  have hZ8 : Blk w18 w.heap.size 23 (pc zPa) := hw18 ▸ hZ3.alloc _
  have f8 : Fr Non w w18 := hw18 ▸ f3.alloc _
  have hlt7 : w.heap.size < b17 := hb17 ▸ hZ3.lt
  refine ⟨mayCells_of hP8 0 6 (by simp [pc]), ?_⟩
  rintro w19 hw19
  let p0 : Pa := ⟨seg, 0, 0, 0, 0, 0⟩
  have hP9 : Blk w19 b17 23 (pc p0) := hw19 ▸ hP8.setAll rfl
  have f9 : Fr Non w w19 := hw19 ▸ f8.setAll hP8 (vs := pc p0) rfl (fun h => absurd h (by omega))
  have hZ9 : Blk w19 w.heap.size 23 (pc zPa) := by
    have := (Fr.refl (fun g => g = b17) w18).setAll hP8 (vs := pc p0) rfl (fun _ => rfl)
    rw [hw19]; exact hZ8.fr this (by omega)
  let Q : Pa → World → Prop := fun p w' => Blk w' w.heap.size 23 (pc zPa) ∧ Blk w' b17 23 (pc p) ∧ Fr Non w w'
  have Qf : ∀ {p : Pa} {w' w'' : World}, Q p w' → Fr Non w' w'' → Q p w'' := by
    rintro p w' w'' ⟨h1, h2, h4⟩ f
    exact ⟨h1.fr f (fun h => h), h2.fr f (fun h => h), h4.trans' f⟩
  have Qs : ∀ {p : Pa} {w' : World} (p' : Pa) (i : Nat) (v : Value), Q p w' → (pc p).set i v = pc p' → i < 6 → (w'.cell? ((⟨b17, 0, none⟩ : Addr).add i)).isSome = true ∧ w'.frozen? ((⟨b17, 0, none⟩ : Addr).add i) = false ∧ Q p' (w'.setCell ((⟨b17, 0, none⟩ : Addr).add i) v) := by
    rintro p w' p' i v ⟨h1, h2, h4⟩ he hi
    rw [add_mk]
    have e0 : (0 : Nat) + i = i := by omega
    rw [e0]
    exact ⟨h2.isS (by simpa [pc] using hi), h2.free i, h1.ne (a := ⟨b17, i, none⟩) (by simp only; omega) _, he ▸ h2.set i v, h4.set (a := ⟨b17, i, none⟩) (fun h => by simp only at h; omega) _⟩
  have q19 : Q p0 w19 := ⟨hZ9, hP9, f9⟩
  have e91 : (91 : UInt8).toNat = 91 := rfl
  refine ⟨⟨by omega, by omega, by omega⟩, rstep_spec t0 91 htl fun w20 g20 => ⟨_, _, _, rfl, ?_⟩⟩
  have l1 := rstep_len t0 91
  generalize hr1 : rstep t0 91 = a at l1 outE outO ⊢
  obtain ⟨a1, a2, q25⟩ := Qs ⟨seg, a.1, 0, 0, 0, 0⟩ 1 (.int .i64 a.1) (Qf q19 g20) rfl (by omega)
  refine ⟨a1, a2, ?_⟩
  rintro w25 rfl
  refine ⟨fun v w' => Q ⟨seg, a.1, 0, 0, 0, 0⟩ w' ∧ v = (a.2.2 && (a.2.1 == [])), ?_, fun h => ⟨q25, by rw [h]; simp⟩, fun h => ⟨q25, by rw [h]; rfl⟩⟩
  rintro v w28 ⟨q28, rfl⟩
  refine ⟨fun hv => ?_, fun hv => ?_⟩
  · simp only [Bool.and_eq_true] at hv
    refine outO _ _ _ q28.1 q28.2.2 q28.2.1 ?_
    unfold qA; rw [if_pos hv.1, if_pos (by simpa using hv.2)]
  refine ⟨fun v w' => Q ⟨seg, a.1, 0, 0, 0, 0⟩ w' ∧ v = !(a.2.2 && (a.2.1.getD 0 0 == 45)), ?_, fun h => ⟨q28, ?_⟩, fun h => ⟨⟨by omega, ?_⟩, q28, ?_⟩⟩
  case refine_2 =>
    have h := (Bool.not_eq_true' _).mp h
    rw [h]; rfl
  case refine_3 =>
    have h := (Bool.not_eq_false' _).mp h
    rw [h, Bool.true_and] at hv
    have : a.2.1 ≠ [] := by simpa using hv
    have := List.length_pos_iff.2 this
    omega
  case refine_4 =>
    have h := (Bool.not_eq_false' _).mp h
    rw [h, Bool.true_and]
    have e0 : a.2.1.getD ((0 : Int)).toNat 0 = a.2.1.getD 0 0 := rfl
    have e := u8_eq (a.2.1.getD 0 0) 45 (by decide)
    have e45 : UInt8.ofNat 45 = 45 := rfl
    rw [e0]; simp only [bne]; rw [show ((45 : Int)) = ((45 : Nat) : Int) from rfl, e, e45]
    generalize a.2.1.getD 0 0 = c
    by_cases hh : c = 45 <;> simp [hh]
  rintro v w44 ⟨q44, rfl⟩
  refine ⟨fun hb => ?_, fun hb => ?_⟩
  · have hb := (Bool.not_eq_true' _).mp hb
    refine outE _ q44.1 q44.2.2 ?_
    unfold qA
    split
    · rename_i h2
      rw [h2, Bool.true_and] at hv hb
      rw [if_neg (by simpa using hv), if_neg (by simpa using hb)]
    · rfl
  have hb := (Bool.not_eq_false' _).mp hb
  simp only [Bool.and_eq_true] at hb
  obtain ⟨ha1, ha2⟩ := hb
  rw [ha1, Bool.true_and] at hv
  have hqA : qA seg a = qB seg a.1 (rstep a.2.1 45) := by
    unfold qA; rw [if_pos ha1, if_neg (by simpa using hv), if_pos (by simpa using ha2)]
  rw [hqA] at outE outO
  refine rstep_spec a.2.1 45 (by omega) fun w52 g52 => ⟨_, _, _, rfl, ?_⟩
  have l2 := rstep_len a.2.1 45
  generalize hr2 : rstep a.2.1 45 = b at l2 outE outO ⊢
  obtain ⟨a1, a2, q57⟩ := Qs ⟨seg, a.1, b.1, 0, 0, 0⟩ 2 (.int .i64 b.1) (Qf q44 g52) rfl (by omega)
  refine ⟨a1, a2, ?_⟩
  rintro w57 rfl
  refine ⟨fun y o w' => ∃ n, Q ⟨seg, a.1, b.1, n, 0, 0⟩ w' ∧ qB seg a.1 b = qC seg a.1 b.1 (n, y, o) ∧ y.length ≤ 1000000000000000, ?_, fun h => ?_, fun h => ⟨0, q57, by unfold qB; rw [if_neg (by rw [h]; simp)], by omega⟩⟩
  case refine_2 =>
    have hq : qB seg a.1 b = qC seg a.1 b.1 (rstep b.2.1 91) := by unfold qB; rw [if_pos h]
    refine rstep_spec b.2.1 91 (by omega) fun w62 g62 => ⟨_, _, _, rfl, ?_⟩
    have l3 := rstep_len b.2.1 91
    obtain ⟨a1, a2, q67⟩ := Qs ⟨seg, a.1, b.1, (rstep b.2.1 91).1, 0, 0⟩ 3 (.int .i64 (rstep b.2.1 91).1) (Qf q57 g62) rfl (by omega)
    refine ⟨a1, a2, ?_⟩
    rintro w67 rfl
    exact ⟨_, q67, hq, by omega⟩
  rintro y3 o3 w61 ⟨n3, q61, hq3, hl3⟩
  refine ⟨fun y o w' => ∃ n, Q ⟨seg, a.1, b.1, n3, n, 0⟩ w' ∧ qB seg a.1 b = qD seg a.1 b.1 n3 (n, y, o) ∧ y.length ≤ 1000000000000000, ?_, fun h => ?_, fun h => ⟨0, q61, by rw [hq3]; unfold qC; rw [if_neg (by rw [h]; simp)], hl3⟩⟩
  case refine_2 =>
    have hq : qB seg a.1 b = qD seg a.1 b.1 n3 (rstep y3 46) := by rw [hq3]; unfold qC; rw [if_pos h]
    refine rstep_spec y3 46 hl3 fun w72 g72 => ⟨_, _, _, rfl, ?_⟩
    have l4 := rstep_len y3 46
    obtain ⟨a1, a2, q77⟩ := Qs ⟨seg, a.1, b.1, n3, (rstep y3 46).1, 0⟩ 4 (.int .i64 (rstep y3 46).1) (Qf q61 g72) rfl (by omega)
    refine ⟨a1, a2, ?_⟩
    rintro w77 rfl
    exact ⟨_, q77, hq, by omega⟩
  rintro y4 o4 w71 ⟨n4, q71, hq4, hl4⟩
  obtain ⟨a1, a2, q78⟩ := Qs ⟨seg, a.1, b.1, n3, n4, 1⟩ 5 (.int .i64 1) q71 rfl (by omega)
  refine ⟨a1, a2, ?_⟩
  rintro w78 rfl
  refine ⟨fun y o w' => ∃ n, Q ⟨seg, a.1, b.1, n3, n4, n⟩ w' ∧ qB seg a.1 b = qE seg a.1 b.1 n3 n4 (n, y, o), ?_, ?_⟩
  · rintro y5 o5 w82 ⟨n5, q82, hq5⟩
    refine ⟨fun v w' => w' = w82 ∧ v = !(o5 && (y5 == [])), ?_, fun h => ⟨rfl, ?_⟩, fun h => ⟨rfl, ?_⟩⟩
    · rintro v w94 ⟨rfl, rfl⟩
      refine ⟨fun hv5 => ?_, fun hv5 => ?_⟩
      · have hv5 := (Bool.not_eq_true' _).mp hv5
        refine outE _ q82.1 q82.2.2 ?_
        rw [hq5]; unfold qE
        split
        · rename_i h2
          simp only at h2
          rw [h2, Bool.true_and] at hv5
          rw [if_neg (by simpa using hv5)]
        · rfl
      · have hv5 := (Bool.not_eq_false' _).mp hv5
        simp only [Bool.and_eq_true] at hv5
        refine outO _ _ _ q82.1 q82.2.2 q82.2.1 ?_
        rw [hq5]; unfold qE; rw [if_pos hv5.1, if_pos (by simpa using hv5.2)]
    · have h := (Bool.not_eq_true' _).mp h
      rw [h]; rfl
    · have h := (Bool.not_eq_false' _).mp h
      rw [h]; simp
  refine ⟨fun v w' => Q ⟨seg, a.1, b.1, n3, n4, 1⟩ w' ∧ v = (o4 && !(y4 == [])), ?_, fun h => ⟨q78, by rw [h]; rfl⟩, fun h => ⟨q78, by rw [h]; rfl⟩⟩
  rintro v w85 ⟨q85, rfl⟩
  refine ⟨fun hv6 => ?_, fun hv6 => ⟨1, q85, ?_⟩⟩
  · simp only [Bool.and_eq_true, Bool.not_eq_true'] at hv6
    refine rstep_spec y4 46 hl4 fun w86 g86 => ⟨_, _, _, rfl, ?_⟩
    obtain ⟨a1, a2, q91⟩ := Qs ⟨seg, a.1, b.1, n3, n4, (rstep y4 46).1⟩ 5 (.int .i64 (rstep y4 46).1) (Qf q85 g86) rfl (by omega)
    refine ⟨a1, a2, ?_⟩
    rintro w91 rfl
    refine ⟨_, q91, ?_⟩
    rw [hq4]; unfold qD; simp only
    rw [if_pos hv6.1, if_neg (by simpa using hv6.2)]
  · rw [hq4]; unfold qD; simp only
    split
    · rename_i h2
      rw [h2, Bool.true_and] at hv6
      rw [if_pos (by simpa using hv6), h2]
    · rename_i h2
      rfl
end
end Go.Proofs.YtpkkbbdffhcpaaaDoor
