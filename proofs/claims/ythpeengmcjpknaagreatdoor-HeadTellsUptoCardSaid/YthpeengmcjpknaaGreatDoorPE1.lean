/- escape.Write: what is written of a value. -/
import Derived.Test.YthpeengmcjpknaaGreatDoorPMB
import Derived.Test.YthpeengmcjpknaaGreatDoorPVT
import Derived.Test.YthpeengmcjpknaaGreatDoorPB1
set_option linter.unusedSimpArgs false
set_option linter.unusedVariables false
namespace Go.Proofs.YthpeengmcjpknaaGreatDoor
open Go.V Go.RowKit
def dvD (d : Dm) : List Value := [.int .u8 (d.f.toNat : Int), .int .u8 (d.c.toNat : Int), .int .u8 (d.r.toNat : Int), .int .u8 (d.e.toNat : Int), .int .u8 (d.s.toNat : Int)]
def mD (d : Dm) (s : Sl) : Mh := ⟨(d.f.toNat : Int), (d.c.toNat : Int), (d.r.toNat : Int), (d.e.toNat : Int), (d.s.toNat : Int), s⟩
def dmM (m : Mh) : Dm := ⟨by1 m.d1, by1 m.d2, by1 m.d3, by1 m.d4, by1 m.d5⟩
theorem mD_dm {m : Mh} (h : Dg m) : mD (dmM m) m.s = m := by
  have e1 := by1_eq (h m.d1 (by simp [dl]))
  have e2 := by1_eq (h m.d2 (by simp [dl]))
  have e3 := by1_eq (h m.d3 (by simp [dl]))
  have e4 := by1_eq (h m.d4 (by simp [dl]))
  have e5 := by1_eq (h m.d5 (by simp [dl]))
  obtain ⟨d1, d2, d3, d4, d5, s⟩ := m
  simp only [mD, dmM]
  simp only at e1 e2 e3 e4 e5
  rw [e1, e2, e3, e4, e5]
theorem Dg_mD (d : Dm) (s : Sl) : Dg (mD d s) := by
  intro x hx
  simp [dl, mD] at hx
  have h1 := d.f.toNat_lt
  have h2 := d.c.toNat_lt
  have h3 := d.r.toNat_lt
  have h4 := d.e.toNat_lt
  have h5 := d.s.toNat_lt
  rcases hx with rfl | rfl | rfl | rfl | rfl <;> omega
theorem dm_mD (d : Dm) (s : Sl) : dmM (mD d s) = d := by
  simp [dmM, mD, by1]
theorem mayU_eq (b : UInt8) : mayB (b.toNat : Int) = mayU b := by
  revert b
  apply all_u8
  decide +kernel
theorem bne_int (a b : UInt8) : (((a.toNat : Int)) == (b.toNat : Int)) = (a == b) := by
  rw [u8_eqc]; rfl
theorem dvB_eq (d : Dm) (s : Sl) : dvB (mD d s) = validD d := by
  have hs : signsB (dl (mD d s)) = validD d := by
    unfold signsB validD
    have hr : List.range (dl (mD d s)).length = [0, 1, 2, 3, 4] := by simp [dl, List.range_succ_eq_map]
    rw [hr]
    simp only [List.all_cons, List.all_nil, dl, mD, List.getD_cons_zero, List.getD_cons_succ, List.take_zero, List.take_succ_cons, List.contains_nil, List.contains_cons, mayU_eq, bne_int, Bool.and_true, Bool.not_false, Bool.or_false]
    have c1 := @BEq.comm UInt8 _ _ d.c d.f
    have c2 := @BEq.comm UInt8 _ _ d.r d.f
    have c3 := @BEq.comm UInt8 _ _ d.r d.c
    have c4 := @BEq.comm UInt8 _ _ d.e d.f
    have c5 := @BEq.comm UInt8 _ _ d.e d.c
    have c6 := @BEq.comm UInt8 _ _ d.e d.r
    have c7 := @BEq.comm UInt8 _ _ d.s d.f
    have c8 := @BEq.comm UInt8 _ _ d.s d.c
    have c9 := @BEq.comm UInt8 _ _ d.s d.r
    have c10 := @BEq.comm UInt8 _ _ d.s d.e
    rw [c1, c2, c3, c4, c5, c6, c7, c8, c9, c10]
    unfold bne
    cases mayU d.f <;> cases mayU d.c <;> cases mayU d.r <;> cases mayU d.e <;> cases mayU d.s <;> cases (d.f == d.c) <;> cases (d.f == d.r) <;> cases (d.f == d.e) <;> cases (d.f == d.s) <;> simp
    all_goals (cases (d.c == d.r) <;> cases (d.c == d.e) <;> cases (d.c == d.s) <;> cases (d.r == d.e) <;> cases (d.r == d.s) <;> cases (d.e == d.s) <;> rfl)
  unfold dvB
  rw [hs]
  by_cases h : validD d = true
  · rw [h]; simp
  · have hf : validD d = false := by simpa using h
    rw [hf, Bool.or_false]
    cases hb : (mD d s).d1 == 124 && ((mD d s).d2 == 94 && ((mD d s).d3 == 126 && ((mD d s).d4 == 92 && ((mD d s).d5 == 38 && true)))) with
    | false => rfl
    | true =>
      exfalso
      simp [mD] at hb
      obtain ⟨h1, h2, h3, h4, h5⟩ := hb
      have e1 : d.f = 124 := UInt8.toNat_inj.1 (by rw [show (124 : UInt8).toNat = 124 from rfl]; omega)
      have e2 : d.c = 94 := UInt8.toNat_inj.1 (by rw [show (94 : UInt8).toNat = 94 from rfl]; omega)
      have e3 : d.r = 126 := UInt8.toNat_inj.1 (by rw [show (126 : UInt8).toNat = 126 from rfl]; omega)
      have e4 : d.e = 92 := UInt8.toNat_inj.1 (by rw [show (92 : UInt8).toNat = 92 from rfl]; omega)
      have e5 : d.s = 38 := UInt8.toNat_inj.1 (by rw [show (38 : UInt8).toNat = 38 from rfl]; omega)
      obtain ⟨f, c, r, e, s⟩ := d
      simp only at e1 e2 e3 e4 e5
      subst e1 e2 e3 e4 e5
      exact absurd hf (by decide)
theorem dv_ok {d : Dm} (h : OkD d) (s : Sl) : dvB (mD d s) = true := by rw [dvB_eq]; exact (validD_iff d).2 h
section
variable {w : World} {k : Value → World → Prop}
theorem letter_spec (d : Dm) (c : UInt8) (hk : ∀ w', Fr Non w w' → k (.int .u8 ((letterP d c).toNat : Int)) w') : Cl Tryz.prog 275 [.agg (List.toArray (dvD d)), .int .u8 (c.toNat : Int)] w k := by
  refine f275_ok ?_
  unfold f275
  intro b7 w8 hb7 hw8
  have f8 : Fr Non w w8 := hw8 ▸ (Fr.refl Non w).alloc _
  have hD : Blk w8 b7 23 (dvD d) := hb7 ▸ hw8 ▸ Blk.new w _ _
  have hc : ∀ {i : Nat} {v : Value}, (dvD d)[i]? = some v → w8.cell? ((⟨b7, 0, none⟩ : Addr).add i) = some v := fun h => by rw [add_mk, Nat.zero_add]; exact hD.cell h
  have hk' := hk w8 f8
  unfold letterP at hk'
  refine ⟨_, hD.cell rfl, fun h => ?_, fun h => ⟨_, hc (i := 1) rfl, fun h2 => ?_, fun h2 => ⟨_, hc (i := 4) rfl, fun h3 => ?_, fun h3 => ⟨_, hc (i := 2) rfl, fun h4 => ?_, fun h4 => ⟨_, hc (i := 3) rfl, fun h5 => ?_, fun h5 => ?_⟩⟩⟩⟩⟩
  all_goals simp only [u8_eqc, decide_eq_true_eq, decide_eq_false_iff_not] at *
  · rw [if_pos h] at hk'; exact hk'
  · rw [if_neg h, if_pos h2] at hk'; exact hk'
  · rw [if_neg h, if_neg h2, if_pos h3] at hk'; exact hk'
  · rw [if_neg h, if_neg h2, if_neg h3, if_pos h4] at hk'; exact hk'
  · rw [if_neg h, if_neg h2, if_neg h3, if_neg h4, if_pos h5] at hk'; exact hk'
  · rw [if_neg h, if_neg h2, if_neg h3, if_neg h4, if_neg h5] at hk'; exact hk'
theorem escB_len (d : Dm) (b : UInt8) : (escB d b).length ≤ 5 := by
  unfold escB
  split
  · simp
  · split <;> simp
theorem escW_len (d : Dm) : ∀ v : Str, (escW d v).length ≤ 5 * v.length
  | [] => by simp [escW]
  | b :: v => by
    have h1 := escB_len d b
    have h2 := escW_len d v
    have e : escW d (b :: v) = escB d b ++ escW d v := by simp [escW]
    rw [e, List.length_append, List.length_cons]; omega
theorem escW_snoc (d : Dm) (v : Str) (b : UInt8) : escW d (v ++ [b]) = escW d v ++ escB d b := by simp [escW]
theorem hexd_hi (b : UInt8) : (([48, 49, 50, 51, 52, 53, 54, 55, 56, 57, 65, 66, 67, 68, 69, 70] : Str).getD (((b.toNat : Int)).fdiv (2 ^ (min (4 : Int).toNat 8))).toNat 0) = hexU (b >>> 4) ∧ ((0 : Int) ≤ ((b.toNat : Int)).fdiv (2 ^ (min (4 : Int).toNat 8)) ∧ ((b.toNat : Int)).fdiv (2 ^ (min (4 : Int).toNat 8)) < 16) := by
  revert b
  apply all_u8
  decide +kernel
theorem hexd_lo (b : UInt8) : (([48, 49, 50, 51, 52, 53, 54, 55, 56, 57, 65, 66, 67, 68, 69, 70] : Str).getD (IntKind.u8.wrap (BitVec.ofInt 8 (b.toNat : Int) &&& BitVec.ofInt 8 15).toNat).toNat 0) = hexU (b &&& 15) ∧ ((0 : Int) ≤ IntKind.u8.wrap (BitVec.ofInt 8 (b.toNat : Int) &&& BitVec.ofInt 8 15).toNat ∧ IntKind.u8.wrap (BitVec.ofInt 8 (b.toNat : Int) &&& BitVec.ofInt 8 15).toNat < 16) := by
  revert b
  apply all_u8
  decide +kernel
theorem appB {w : World} {s : Sl} {l : Str} {F : Nat → Prop} (ho : SlOk w 5 1 s (bys l) F) {b : Nat} {m : Str} (hB : Blk w b 5 (bys m)) {c : Nat} (hlen : l.length + m.length ≤ 140737488355328) :
    ∃ s' w', (Builtin.append_ #[141, 141] 141 #[.slice s.base s.len s.cap, .slice (some ⟨b, 0, none⟩) m.length c]).run Tryz.prog w = .ok (.slice (Sl.base s') s'.len s'.cap) w' ∧
      SlOk w' 5 1 s' (bys (l ++ m)) (fun g => F g ∨ g = w.heap.size) ∧ Fr F w w' := by
  have hl : s.len = l.length := by have := ho.len; rw [bys_len] at this; omega
  obtain ⟨s', w', h1, h2, h3, h4⟩ := append_own (P := Tryz.prog) (t := 141) (e := 5) (z := .int .u8 0) (sz := 1) (by_ := 1) (by kernel_rfl) (Sz.mk (by kernel_rfl)) (Zr.mk (by kernel_rfl)) (Bts.mk (by kernel_rfl)) rfl (by omega) ho (news := bys m) (m := m.length) (c := c) (by rw [bys_len]; omega)
    (.inr ⟨⟨b, 0, none⟩, rfl, fun j u hj => by rw [add_mk, Nat.zero_add]; exact hB.cell hj⟩) (fun u hu => by simp [bys] at hu; obtain ⟨x, _, rfl⟩ := hu; rfl) (by omega) (by omega) 141
  rw [← bys_app] at h2
  exact ⟨s', w', h1, h2, h4⟩
set_option maxHeartbeats 2000000 in
theorem write_spec (d : Dm) (ok : OkD d) (v : Str) (hl : v.length ≤ 1099511627776) (hk : ∀ w', Fr Non w w' → k (.string (mkS (escW d v))) w') : Cl Tryz.prog 166 [.agg (List.toArray (dvD d)), .string (mkS v)] w k := by
  refine f166_ok ?_
  unfold f166
  intro b7 w8 hb7 hw8
  have f8 : Fr Non w w8 := hw8 ▸ (Fr.refl Non w).alloc _
  have hD : Blk w8 b7 23 (dvD d) := hb7 ▸ hw8 ▸ Blk.new w _ _
  have l7 := hD.lt
  refine ⟨_, _, _, _, _, hD.ats (dvD d) 0 0 (fun q v hq => by simpa using hq), dvalid_spec (mD d ⟨none, 0, 0⟩) fun w14 g14 => ⟨_, rfl, fun h => ?_, fun h => ?_⟩⟩
  · rw [dv_ok ok] at h; cases h
  have hmk := run_make (w := w14) (P := Tryz.prog) (t := 141) (e := 5) (z := .int .u8 0) (sz := 1) (by_ := 1) (by kernel_rfl) (Sz.mk (by kernel_rfl)) (Zr.mk (by kernel_rfl)) (Bts.mk (by kernel_rfl)) (0 : Int) (v.length : Int) (by omega) (by omega) (by omega) (by omega)
  obtain ⟨w18, hw18⟩ : ∃ w1, w1 = w14.alloc (.cells (madeCells (Value.int .u8 0).cells (((v.length : Int)).toNat * 1)) 5) := ⟨_, rfl⟩
  rw [← hw18] at hmk
  have f18 : Fr Non w8 w18 := hw18 ▸ g14.alloc _
  have hB18 : Blk w18 w14.heap.size 5 (madeCells (Value.int .u8 0).cells (((v.length : Int)).toNat * 1)).toList := by
    have := heap_alloc_new w14 (.cells (madeCells (Value.int .u8 0).cells (((v.length : Int)).toNat * 1)) 5)
    rw [← hw18] at this
    unfold Blk; rw [Array.toArray_toList]; exact this
  have hs18 : SlOk w18 5 1 ⟨some ⟨w14.heap.size, 0, none⟩, 0, v.length⟩ (bys (escW d (v.take 0))) (fun g => w8.heap.size ≤ g) := by
    refine .inr ⟨w14.heap.size, g14.size, rfl, Nat.zero_le _, 0, _, rfl, hB18, ?_, rfl⟩
    simp [size_madeCells, Value.cells]
  refine ⟨⟨some ⟨w14.heap.size, 0, none⟩, 0, v.length⟩, w18, hmk, fun t o i w' => ∃ j : Nat, i = j ∧ j ≤ v.length ∧ t = v.length - j ∧ SlOk w' 5 1 o (bys (escW d (v.take j))) (fun g => w8.heap.size ≤ g) ∧ Fr Non w8 w', ⟨v.length, 0, rfl, by omega, rfl, hs18, f18⟩, ?_⟩
  rintro t o i w24 ⟨j, rfl, hj, rfl, ho, f24⟩
  have hD24 := hD.fr f24 (fun h => h)
  have hc : ∀ {w' : World} {i : Nat} {v : Value}, Fr Non w8 w' → (dvD d)[i]? = some v → w'.cell? ((⟨b7, 0, none⟩ : Addr).add i) = some v := fun f h => by rw [add_mk, Nat.zero_add]; exact (hD.fr f (fun h => h)).cell h
  refine ⟨fun h => ?_, fun h => ?_⟩
  · have hj : j < v.length := by have := of_decide_eq_true h; omega
    have hg : v.getD ((j : Int)).toNat 0 = v[j] := by rw [Int.toNat_natCast, List.getD_eq_getElem?_getD, List.getElem?_eq_getElem hj]; rfl
    rw [hg]
    have hT : escW d (v.take (j + 1)) = escW d (v.take j) ++ escB d v[j] := by rw [take_snoc hj, escW_snoc]
    have hlen : (escW d (v.take j)).length + 5 ≤ 140737488355328 := by
      have := escW_len d (v.take j); rw [List.length_take] at this; omega
    refine ⟨fun o w' => SlOk w' 5 1 o (bys (escW d (v.take (j + 1)))) (fun g => w8.heap.size ≤ g) ∧ Fr Non w8 w', fun o w' ⟨h1, h2⟩ => ⟨v.length - (j + 1), by omega, j + 1, by rw [w64_id (by omega) (by omega)]; push_cast; rfl, by omega, rfl, h1, h2⟩, ⟨by omega, by omega⟩, ?_⟩
    refine ⟨_, _, _, _, _, hD24.ats (dvD d) 0 0 (fun q v hq => by simpa using hq), letter_spec d v[j] fun w33 g33 => ⟨_, rfl, fun hl => ?_, fun hl => ?_⟩⟩
    · have f33 := f24.trans' g33
      have hl : letterP d v[j] ≠ 0 := by
        intro e; rw [e] at hl; simp at hl
      refine ⟨_, hc (i := 3) f33 rfl, _, hc (i := 3) f33 rfl, ?_⟩
      intro b38 w39 hb38 hw39
      have g39 : Fr Non w33 w39 := hw39 ▸ (Fr.refl Non w33).alloc _
      have hB : Blk w39 b38 5 (bys [d.e, letterP d v[j], d.e]) := hb38 ▸ hw39 ▸ Blk.new w33 _ _
      obtain ⟨s', w41, h1, h2, h3⟩ := appB ((ho.fr g33 (fun g _ h => h)).fr g39 (fun g _ h => h)) hB (c := 3) (by simp; omega)
      have f39 := f33.trans' g39
      have hz := f39.size
      refine ⟨s', w41, h1, ?_, upN f39 h3 (fun g h => h)⟩
      have e : escB d v[j] = [d.e, letterP d v[j], d.e] := by unfold escB; rw [if_pos hl]
      rw [hT, e]
      exact h2.mono fun g hg => by rcases hg with hg | rfl <;> omega
    · have f33 := f24.trans' g33
      have hl : letterP d v[j] = 0 := by
        apply UInt8.toNat_inj.1
        have : ((letterP d v[j]).toNat : Int) = 0 := by simpa using hl
        rw [show (0 : UInt8).toNat = 0 from rfl]; omega
      have hfin : ∀ (m : Str) (c : Nat) (w' : World) (b : Nat) (w1 : World), Fr Non w33 w' → b = w'.heap.size → w1 = w'.alloc (.cells (List.toArray (bys m)) 5) → escB d v[j] = m → c = m.length → ∃ (s' : Sl) (w2 : World), (Builtin.append_ #[141, 141] 141 #[.slice o.base o.len o.cap, .slice (some ⟨b, 0, none⟩) c c]).run Tryz.prog w1 = .ok (.slice s'.base s'.len s'.cap) w2 ∧ SlOk w2 5 1 s' (bys (escW d (v.take (j + 1)))) (fun g => w8.heap.size ≤ g) ∧ Fr Non w8 w2 := by
        rintro m c w' b w1 fw rfl hw1 hm rfl
        have g1 : Fr Non w' w1 := hw1 ▸ (Fr.refl Non w').alloc _
        have hB : Blk w1 w'.heap.size 5 (bys m) := hw1 ▸ Blk.new w' _ _
        have hml : m.length ≤ 5 := by rw [← hm]; exact escB_len d _
        obtain ⟨s', w2, h1, h2, h3⟩ := appB (((ho.fr g33 (fun g _ h => h)).fr fw (fun g _ h => h)).fr g1 (fun g _ h => h)) hB (c := m.length) (by omega)
        have fz := (f33.trans' fw).trans' g1
        have hz := fz.size
        refine ⟨s', w2, h1, ?_, upN fz h3 (fun g h => h)⟩
        rw [hT, hm]
        exact h2.mono fun g hg => by rcases hg with hg | rfl <;> omega
      obtain ⟨x1, x2, x3⟩ := hexd_hi v[j]
      obtain ⟨y1, y2, y3⟩ := hexd_lo v[j]
      refine ⟨fun b w' => b = decide (v[j] < 32 ∨ 126 < v[j]) ∧ w' = w33, fun b w44 hbw => ⟨fun h => ?_, fun h => ?_⟩, fun h => ⟨?_, rfl⟩, fun h => ⟨?_, rfl⟩⟩
      · obtain ⟨hb, rfl⟩ := hbw
        have hh : v[j] < 32 ∨ 126 < v[j] := by rw [hb] at h; exact of_decide_eq_true h
        rintro w45 rfl
        have f45 : Fr Non w8 w44.drew := f33.drew
        refine ⟨_, hc (i := 3) f45 rfl, by omega, ⟨x2, x3⟩, ⟨y2, y3⟩, _, hc (i := 3) f45 rfl, ?_⟩
        rw [x1, y1]
        intro b48 w49 hb48 hw49
        obtain ⟨s', w2, h1, h2, h3⟩ := hfin [d.e, 88, hexU (v[j] >>> 4), hexU (v[j] &&& 15), d.e] 5 w44.drew b48 w49 (Fr.refl Non w44).drew hb48 hw49 (by unfold escB; rw [if_neg (by rw [hl]; simp), if_pos hh]) rfl
        exact ⟨s', w2, h1, h2, h3⟩
      · obtain ⟨hb, rfl⟩ := hbw
        have hh : ¬ (v[j] < 32 ∨ 126 < v[j]) := by rw [hb] at h; exact of_decide_eq_false h
        intro b52 w53 hb52 hw53
        obtain ⟨s', w2, h1, h2, h3⟩ := hfin [v[j]] 1 w44 b52 w53 (Fr.refl Non w44) hb52 hw53 (by unfold escB; rw [if_neg (by rw [hl]; simp), if_neg hh]) rfl
        exact ⟨s', w2, h1, h2, h3⟩
      · have h : v[j] < 32 := by
          rw [UInt8.lt_iff_toNat_lt]; have := of_decide_eq_true h; rw [show (32 : UInt8).toNat = 32 from rfl]; omega
        rw [decide_eq_true (.inl h)]
      · have h : ¬ v[j] < 32 := by
          rw [UInt8.lt_iff_toNat_lt]; have := of_decide_eq_false h; rw [show (32 : UInt8).toNat = 32 from rfl]; omega
        have e126 : ∀ x : UInt8, (126 < x) ↔ 126 < x.toNat := fun x => by rw [UInt8.lt_iff_toNat_lt]; exact Iff.rfl
        rw [decide_eq_decide]
        constructor
        · intro h'; exact .inr ((e126 _).2 (by omega))
        · rintro (h' | h')
          · exact absurd h' h
          · have := (e126 _).1 h'; omega
  · have hj : j = v.length := by have := of_decide_eq_false h; omega
    subst hj
    rw [List.take_length] at ho
    exact ⟨_, ho.bytes, hk _ (f8.trans' f24)⟩
end
end Go.Proofs.YthpeengmcjpknaaGreatDoor
