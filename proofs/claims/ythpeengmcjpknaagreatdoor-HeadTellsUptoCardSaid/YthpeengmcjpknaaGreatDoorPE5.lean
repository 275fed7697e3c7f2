/- escape.Read: what is read of a value. -/
import Derived.Test.YthpeengmcjpknaaGreatDoorPE1
import Derived.Test.YthpeengmcjpknaaGreatDoorPVR
import Derived.Test.YthpeengmcjpknaaGreatDoorPVT
set_option linter.unusedSimpArgs false
set_option linter.unusedVariables false
namespace Go.Proofs.YthpeengmcjpknaaGreatDoor
open Go.V Go.RowKit
def OB (B : Nat) (s : Sl) (l : Str) (w : World) : Prop := w.ownsRow B 5 1 (.slice s.base s.len s.cap) l.length (bys l)
theorem OB.nil (B : Nat) (w : World) : OB B ⟨none, 0, 0⟩ [] w := ⟨rfl, .inl ⟨rfl, rfl⟩⟩
theorem OB.bytes {B : Nat} {s : Sl} {l : Str} {w : World} (h : OB B s l w) : bytesAt w s l := by
  rcases h.2 with ⟨hv, h0⟩ | ⟨g, cap, cur, hv, _, hg, hn, _, hc, ht⟩
  · simp only [Value.slice.injEq] at hv
    exact .inl ⟨hv.1, List.eq_nil_of_length_eq_zero h0⟩
  · simp only [Value.slice.injEq] at hv
    refine .inr ⟨⟨g, 0, none⟩, hv.1, hv.2.1.symm, fun i hi => ?_⟩
    rw [hv.2.1] at hi
    rw [add_mk, Nat.zero_add]
    have h1 : (bys l)[i]? = some (.int .u8 (l[i].toNat : Int)) := by simp [bys, hi]
    rw [← ht, List.getElem?_take, if_pos (by omega)] at h1
    unfold World.cell?
    simp only [hg]
    rw [← Array.getElem?_toList, h1, List.getD_eq_getElem?_getD, List.getElem?_eq_getElem hi]; rfl
theorem OB.fr {B : Nat} {s : Sl} {l : Str} {w w' : World} (h : OB B s l w) (f : Fr Non w w') : OB B s l w' := h.kept (row := none) ⟨f.os, f.tape, f.output, f.size, fun k hk _ => f.blk k hk (fun x => x)⟩ (by cases (Value.slice s.base s.len s.cap).ownBlock <;> simp)
theorem grownN {w0 w w' : World} {row : Option Nat} (f : Fr Non w0 w) (g : w.grownBy w' row) (hr : ∀ k, row = some k → w0.heap.size ≤ k) : Fr Non w0 w' := ⟨g.os.trans f.os, g.tape.trans f.tape, g.output.trans f.output, Nat.le_trans f.size g.size, fun b hb hF => by
  rw [g.block b (Nat.lt_of_lt_of_le hb f.size) (fun e => by have := hr b e.symm; omega)]; exact f.blk b hb hF⟩
theorem OB.own {B : Nat} {s : Sl} {l : Str} {w : World} (h : OB B s l w) : ∀ k, (Value.slice s.base s.len s.cap).ownBlock = some k → B ≤ k := fun k hk => (World.ownsRow.lt h k hk).1
theorem OB.push {w0 w : World} {s : Sl} {l : Str} (h : OB w0.heap.size s l w) (f : Fr Non w0 w) {b : Nat} {m : Str} (hB : Blk w b 5 (bys m)) {c : Nat} (hm : m ≠ []) (hlen : l.length + m.length ≤ 140737488355328) :
    ∃ s' w', (Builtin.append_ #[141, 141] 141 #[.slice s.base s.len s.cap, .slice (some ⟨b, 0, none⟩) m.length c]).run Tryz.prog w = .ok (.slice (Sl.base s') s'.len s'.cap) w' ∧ OB w0.heap.size s' (l ++ m) w' ∧ Fr Non w0 w' := by
  obtain ⟨i0, hi, hz0, hz1, hz2⟩ := info_u8
  have hml : 0 < m.length := List.length_pos_iff.2 hm
  obtain ⟨v', w', hr, h1, h2, _⟩ := append_fp (P := Tryz.prog) (t := 141) (ty := 141) (e := 5) (sz := 1) (by_ := 1) (by kernel_rfl) hi hz0 hz1 hz2 rfl (by omega) h ⟨b, 0, none⟩ m.length c (bys m) (by rw [bys_len]; omega)
    (fun j u hj => by rw [add_mk, Nat.zero_add]; exact hB.cell hj) (fun u hu => by simp [bys] at hu; obtain ⟨x, _, rfl⟩ := hu; rfl) hml (by omega) (by omega) f.size
  obtain ⟨s', rfl, _⟩ := own_sl h1
  refine ⟨s', w', hr, ?_, grownN f h2 h.own⟩
  unfold OB
  rw [bys_app, List.length_append]; exact h1
theorem OB.text {w0 w : World} {s : Sl} {l : Str} (h : OB w0.heap.size s l w) (f : Fr Non w0 w) (m : Str) (hlen : l.length + m.length ≤ 140737488355328) :
    ∃ s' w', (Builtin.append_ #[141, 9] 141 #[.slice s.base s.len s.cap, .string (mkS m)]).run Tryz.prog w = .ok (.slice (Sl.base s') s'.len s'.cap) w' ∧ OB w0.heap.size s' (l ++ m) w' ∧ Fr Non w0 w' := by
  obtain ⟨i0, hi, hz0, hz1, hz2⟩ := info_u8
  have hsz : (mkS m).size = m.length := by simp [mkS, ByteArray.size]
  obtain ⟨v', w', hr, h1, h2, _⟩ := append_str_fp (P := Tryz.prog) (t := 141) (u := 9) (ty := 141) (e := 5) (by kernel_rfl) (by kernel_rfl) hi hz0 hz1 hz2 h (mkS m) (by omega) f.size
  obtain ⟨s', rfl, _⟩ := own_sl h1
  have eb : bys l ++ Lib.strCells (mkS m) = bys (l ++ m) := by simp [bys, Lib.strCells, mkS]
  rw [eb, hsz] at h1
  refine ⟨s', w', hr, ?_, grownN f h2 h.own⟩
  unfold OB
  rw [List.length_append]; exact h1
def nibI (c : UInt8) : Int := match nibP c with
  | some x => (x.toNat : Int)
  | none => -1
theorem nib_all (c : UInt8) : nibI c = if decide ((48 : Int) ≤ (c.toNat : Int)) && decide ((c.toNat : Int) ≤ 57) then IntKind.i64.wrap (IntKind.u8.wrap ((c.toNat : Int) - 48)) else if decide ((97 : Int) ≤ (c.toNat : Int)) && decide ((c.toNat : Int) ≤ 102) then IntKind.i64.wrap ((IntKind.i64.wrap (IntKind.u8.wrap ((c.toNat : Int) - 97))) + 10) else if decide ((65 : Int) ≤ (c.toNat : Int)) && decide ((c.toNat : Int) ≤ 70) then IntKind.i64.wrap ((IntKind.i64.wrap (IntKind.u8.wrap ((c.toNat : Int) - 65))) + 10) else -1 := by
  revert c
  apply all_u8
  decide +kernel
theorem nib_lt {c x : UInt8} (h : nibP c = some x) : x.toNat < 16 := by
  revert h; revert x; revert c
  intro c
  have : ∀ c : UInt8, (match nibP c with | some x => decide (x.toNat < 16) | none => true) = true := by
    apply all_u8
    decide +kernel
  intro x h
  have := this c
  rw [h] at this
  exact of_decide_eq_true this
theorem nib_join : ∀ a, a < 16 → ∀ b, b < 16 → IntKind.u8.wrap (IntKind.i64.wrap (BitVec.ofInt 64 (IntKind.i64.wrap ((a : Nat) * 2 ^ (min (4 : Int).toNat 64))) ||| BitVec.ofInt 64 ((b : Nat) : Int)).toNat) = ((((UInt8.ofNat a) <<< 4 ||| UInt8.ofNat b).toNat : Nat) : Int) := by
  decide +kernel
section
variable {w : World} {k : Value → World → Prop}
theorem nibble_spec (c : UInt8) (hk : k (.int .i64 (nibI c)) w) : Cl Tryz.prog 336 [.int .u8 (c.toNat : Int)] w k := by
  refine f336_ok ?_
  unfold f336
  rw [nib_all] at hk
  refine ⟨fun b w' => b = (decide ((48 : Int) ≤ (c.toNat : Int)) && decide ((c.toNat : Int) ≤ 57)) ∧ w' = w, ?_, fun h => ⟨by rw [h]; rfl, rfl⟩, fun h => ⟨by rw [h]; rfl, rfl⟩⟩
  rintro b w4 ⟨hb, rfl⟩
  refine ⟨fun h => ?_, fun h => ?_⟩
  · rw [← hb, h] at hk; exact hk
  rw [← hb, h] at hk
  refine ⟨fun b w' => b = (decide ((97 : Int) ≤ (c.toNat : Int)) && decide ((c.toNat : Int) ≤ 102)) ∧ w' = w4, ?_, fun h => ⟨by rw [h]; rfl, rfl⟩, fun h => ⟨by rw [h]; rfl, rfl⟩⟩
  rintro b2 w7 ⟨hb2, rfl⟩
  refine ⟨fun h => ?_, fun h => ?_⟩
  · rw [← hb2, h] at hk; exact hk
  rw [← hb2, h] at hk
  refine ⟨fun b w' => b = (decide ((65 : Int) ≤ (c.toNat : Int)) && decide ((c.toNat : Int) ≤ 70)) ∧ w' = w7, ?_, fun h => ⟨by rw [h]; rfl, rfl⟩, fun h => ⟨by rw [h]; rfl, rfl⟩⟩
  rintro b3 w10 ⟨hb3, rfl⟩
  refine ⟨fun h => ?_, fun h => ?_⟩
  · rw [← hb3, h] at hk; exact hk
  · rw [← hb3, h] at hk; exact hk
theorem unhex_bad {s a r : Str} (hs : s = a ++ r) (ha : a.length % 2 = 0) (h : unhexP a = none) : unhexP s = none := by rw [hs, unhexP_app a r ha, h]; rfl
theorem unhex_odd : ∀ s : Str, s.length % 2 ≠ 0 → unhexP s = none
  | [], h => by simp at h
  | [_], _ => rfl
  | x :: y :: r, h => by
    have ih := unhex_odd r (by simp at h; omega)
    have step : unhexP (x :: y :: r) = match nibP x, nibP y with
        | some p, some q => (unhexP r).map ((p <<< 4 ||| q) :: ·)
        | _, _ => none := rfl
    rw [step, ih]
    cases nibP x <;> cases nibP y <;> rfl
set_option maxHeartbeats 2000000 in
theorem unhex_spec (s : Str) (hl : s.length ≤ 1099511627776) (hk : ∀ w', Fr Non w w' → k (.tuple (List.toArray [.string (mkS ((unhexP s).getD [])), .int .i64 (match unhexP s with
    | some _ => 0
    | none => 10)])) w') : Cl Tryz.prog 319 [.string (mkS s)] w k := by
  refine f319_ok ?_
  unfold f319
  have hm : (s.length : Int).tmod (2 : Int) = ((s.length % 2 : Nat) : Int) := by rw [Int.tmod_eq_emod_of_nonneg (by omega)]; omega
  have hbad : unhexP s = none → ∀ w', Fr Non w w' → k (.tuple (List.toArray [.string (mkS []), .int .i64 10])) w' := fun h w' f => by
    have := hk w' f
    rw [h] at this; exact this
  refine ⟨by decide, fun h => ?_, fun h => ?_⟩
  · rw [hm] at h
    exact hbad (unhex_odd s (by intro e; rw [e] at h; simp at h)) w (Fr.refl _ _)
  rw [hm] at h
  have h2 : s.length % 2 = 0 := by
    have : ((s.length % 2 : Nat) : Int) = 0 := by simpa using h
    omega
  have hdv : (s.length : Int).tdiv (2 : Int) = ((s.length / 2 : Nat) : Int) := by rw [Int.tdiv_eq_ediv_of_nonneg (by omega)]; omega
  rw [hdv, w64_id (by omega) (by omega)]
  refine ⟨by decide, ?_⟩
  have hmk := run_make (w := w) (P := Tryz.prog) (t := 141) (e := 5) (z := .int .u8 0) (sz := 1) (by_ := 1) (by kernel_rfl) (Sz.mk (by kernel_rfl)) (Zr.mk (by kernel_rfl)) (Bts.mk (by kernel_rfl)) (0 : Int) ((s.length / 2 : Nat) : Int) (by omega) (by omega) (by omega) (by omega)
  obtain ⟨w3, hw3⟩ : ∃ w1, w1 = w.alloc (.cells (madeCells (Value.int .u8 0).cells ((((s.length / 2 : Nat) : Int)).toNat * 1)) 5) := ⟨_, rfl⟩
  rw [← hw3] at hmk
  have f3 : Fr Non w w3 := hw3 ▸ (Fr.refl Non w).alloc _
  have hO3 : OB w.heap.size ⟨some ⟨w.heap.size, 0, none⟩, 0, s.length / 2⟩ [] w3 := by
    refine ⟨rfl, .inr ⟨w.heap.size, s.length / 2, _, rfl, Nat.le_refl _, by rw [hw3]; exact heap_alloc_new w _, Nat.zero_le _, by unfold maxLen; omega, ?_, rfl⟩⟩
    simp [size_madeCells, Value.cells]; omega
  refine ⟨⟨some ⟨w.heap.size, 0, none⟩, 0, s.length / 2⟩, w3, hmk, fun t o i w' => ∃ (j : Nat) (l : Str), i = ((2 * j : Nat) : Int) ∧ 2 * j ≤ s.length ∧ t = s.length - 2 * j ∧ unhexP (s.take (2 * j)) = some l ∧ OB w.heap.size o l w' ∧ Fr Non w w', ⟨s.length, 0, [], rfl, by omega, by omega, rfl, hO3, f3⟩, ?_⟩
  rintro t o i w9 ⟨j, l, rfl, hj, rfl, hu, hO, f9⟩
  refine ⟨fun h => ?_, fun h => ?_⟩
  · have hj : 2 * j + 1 < s.length := by have := of_decide_eq_true h; omega
    have ei : IntKind.i64.wrap (((2 * j : Nat) : Int) + 1) = ((2 * j + 1 : Nat) : Int) := by rw [w64_id (by omega) (by omega)]; push_cast; rfl
    rw [ei]
    have g0 : s.getD (((2 * j : Nat) : Int)).toNat 0 = s[2 * j] := by rw [Int.toNat_natCast, List.getD_eq_getElem?_getD, List.getElem?_eq_getElem (by omega)]; rfl
    have g1 : s.getD (((2 * j + 1 : Nat) : Int)).toNat 0 = s[2 * j + 1] := by rw [Int.toNat_natCast, List.getD_eq_getElem?_getD, List.getElem?_eq_getElem (by omega)]; rfl
    rw [g0, g1]
    have hT : s.take (2 * (j + 1)) = s.take (2 * j) ++ [s[2 * j], s[2 * j + 1]] := by
      rw [show 2 * (j + 1) = 2 * j + 1 + 1 by omega, take_snoc (show 2 * j + 1 < s.length by omega), take_snoc (show 2 * j < s.length by omega), List.append_assoc]; rfl
    have hsp : s = s.take (2 * (j + 1)) ++ s.drop (2 * (j + 1)) := (List.take_append_drop _ _).symm
    have hev : (s.take (2 * (j + 1))).length % 2 = 0 := by rw [List.length_take]; omega
    have hU : unhexP (s.take (2 * (j + 1))) = match nibP s[2 * j], nibP s[2 * j + 1] with
        | some p, some q => some (l ++ [p <<< 4 ||| q])
        | _, _ => none := by
      rw [hT, unhexP_app _ _ (by rw [List.length_take]; omega), hu]
      show ((match nibP s[2 * j], nibP s[2 * j + 1] with
        | some p, some q => (unhexP []).map ((p <<< 4 ||| q) :: ·)
        | _, _ => none).map fun y => l ++ y) = _
      cases nibP s[2 * j] <;> cases nibP s[2 * j + 1] <;> rfl
    have hll := unhexP_len hu
    rw [List.length_take] at hll
    rintro w10 rfl
    have f10 := f9.drew
    refine ⟨⟨by omega, by omega⟩, ⟨by omega, by omega⟩, nibble_spec _ ⟨_, rfl, nibble_spec _ ⟨_, rfl, ?_⟩⟩⟩
    refine ⟨fun b w' => b = (decide (nibI s[2 * j] < 0) || decide (nibI s[2 * j + 1] < 0)) ∧ w' = w9.drew, ?_, fun h => ⟨by rw [h]; rfl, rfl⟩, fun h => ⟨by rw [h]; rfl, rfl⟩⟩
    rintro b w19 ⟨hb, rfl⟩
    refine ⟨fun h => ?_, fun h => ?_⟩
    · refine hbad (unhex_bad hsp hev ?_) _ f10
      rw [hU]
      rw [h] at hb
      unfold nibI at hb
      cases h0 : nibP s[2 * j] with
      | none => rfl
      | some p =>
        cases h1 : nibP s[2 * j + 1] with
        | none => rfl
        | some q =>
          rw [h0, h1] at hb
          simp at hb
          omega
    · rw [h] at hb
      unfold nibI at hb ⊢
      cases h0 : nibP s[2 * j] with
      | none => rw [h0] at hb; simp at hb
      | some p =>
        cases h1 : nibP s[2 * j + 1] with
        | none => rw [h0, h1] at hb; simp at hb
        | some q =>
          simp only
          refine ⟨by decide, ?_⟩
          intro b20 w21 hb20 hw21
          have e := nib_join p.toNat (nib_lt h0) q.toNat (nib_lt h1)
          rw [UInt8.ofNat_toNat, UInt8.ofNat_toNat] at e
          have hw21 : w21 = w9.drew.alloc (.cells (List.toArray (bys [p <<< 4 ||| q])) 5) := by
            rw [hw21]
            show _ = w9.drew.alloc (.cells (List.toArray [.int .u8 (((p <<< 4 ||| q).toNat : Nat) : Int)]) 5)
            rw [← e]
          have g21 : Fr Non w9.drew w21 := hw21 ▸ (Fr.refl Non w9.drew).alloc _
          have hB : Blk w21 b20 5 (bys [p <<< 4 ||| q]) := hb20 ▸ hw21 ▸ Blk.new w9.drew _ _
          obtain ⟨s', w', r1, r2, r3⟩ := OB.push ((hO.fr (Fr.refl Non w9).drew).fr g21) (f10.trans' g21) hB (c := 1) (by simp) (by simp only [List.length_cons, List.length_nil]; omega)
          refine ⟨s', w', r1, s.length - 2 * (j + 1), by omega, j + 1, _, ?_, by omega, rfl, ?_, r2, r3⟩
          · rw [w64_id (by omega) (by omega)]; push_cast; omega
          · rw [hU, h0, h1]
  · have hj : 2 * j = s.length := by have := of_decide_eq_false h; omega
    rw [hj, List.take_length] at hu
    have := hk w9 f9
    rw [hu] at this
    exact ⟨_, hO.bytes, this⟩
end
end Go.Proofs.YthpeengmcjpknaaGreatDoor
