/- TokenLines: a line more is a segment more, behind all others. -/
import Derived.Test.YtoaoofobidhfjaaGreatDoorEC
import Derived.Test.YtoaoofobidhfjaaGreatDoorFD
set_option linter.unusedSimpArgs false
set_option linter.unusedVariables false
namespace Go.Proofs.YtoaoofobidhfjaaGreatDoor
open Go.V Go.RowKit
theorem eol_int2 (b : UInt8) : (((b.toNat : Int) == 13) || ((b.toNat : Int) == 10)) = eolP b := by
  revert b
  apply all_u8
  decide +kernel
theorem RM.take {w : World} {s : Sl} {l : List Seg} {n : Nat} {c : Nat} (h : RM w s l) (hn : n ≤ l.length) : RM w ⟨s.base, n, c⟩ (l.take n) := by
  refine ⟨by rw [List.length_take]; simp only; omega, fun i hi => ?_⟩
  rw [List.length_take] at hi
  obtain ⟨a, ha, hr⟩ := h.2 i (by omega)
  refine ⟨a, ha, ?_⟩
  rw [List.getElem_take]; exact hr
section
variable {w : World} {k : Value → World → Prop}
set_option maxHeartbeats 4000000 in
theorem tlines_spec (t l : Str) (h1 : t.length ≤ 140737488351232) (h2 : l.length ≤ 140737488351232) (hG : GMax w) (hk : ∀ w', Fr Non w w' → k (.bool true) w') : Cl Tryz.prog 4 [.string (mkS t), .string (mkS l)] w k := by
  refine f4_ok ?_
  unfold f4
  rw [w64_id (by omega) (by omega)]
  refine ⟨fun h => alive8_spec hG fun w' f => ⟨_, rfl, hk w' f⟩, fun h => ?_⟩
  have hl : t.length + l.length ≤ 9000 := by have := of_decide_eq_false h; omega
  refine ⟨fun m i w' => ∃ j : Nat, i = j ∧ j ≤ l.length ∧ m = l.length - j ∧ (∀ q (hq : q < l.length), q < j → eolP l[q] = false) ∧ w' = w, ⟨l.length, 0, rfl, by omega, rfl, fun q _ hq => by omega, rfl⟩, ?_⟩
  rintro m i w10 ⟨j, rfl, hj, rfl, hall, rfl⟩
  refine ⟨fun h => ?_, fun h => ?_⟩
  · have hj : j < l.length := by have := of_decide_eq_true h; omega
    have hg : l.getD ((j : Int)).toNat 0 = l[j] := by rw [Int.toNat_natCast, List.getD_eq_getElem?_getD, List.getElem?_eq_getElem hj]; rfl
    rw [hg]
    refine ⟨fun b w' => b = eolP l[j] ∧ w' = w10, ?_, ⟨by omega, by omega⟩, fun h => ⟨?_, rfl⟩, fun h => ⟨⟨by omega, by omega⟩, ?_, rfl⟩⟩
    · rintro b w13 ⟨hb, rfl⟩
      refine ⟨fun _ => alive8_spec hG fun w' f => ⟨_, rfl, hk w' f⟩, fun h => ?_⟩
      rw [h] at hb
      refine ⟨l.length - (j + 1), by omega, j + 1, by rw [w64_id (by omega) (by omega)]; push_cast; rfl, by omega, rfl, fun q hq hqj => ?_, rfl⟩
      by_cases e : q = j
      · subst e; exact hb.symm
      · exact hall q hq (by omega)
    · have := eol_int2 l[j]
      rw [h] at this; exact this
    · have := eol_int2 l[j]
      rw [h, Bool.false_or] at this; exact this
  have hj : j = l.length := by have := of_decide_eq_false h; omega
  have hline : ∀ b ∈ l, eolP b = false := by
    intro b hb
    obtain ⟨q, hq, rfl⟩ := List.getElem_of_mem hb
    exact hall q hq (by omega)
  have eT : (t ++ [13]) ++ l = t ++ 13 :: l := by simp
  obtain ⟨p1, p2, p3⟩ := parse_line nmOk hline hl
  obtain ⟨T, hT⟩ : ∃ T, T = t ++ 13 :: l := ⟨_, rfl⟩
  refine parse_u t hG fun y1 w17 hy1 f17 => ⟨_, _, _, _, _, y1, _, rfl, ?_⟩
  intro b26 w27 hb26 hw27
  obtain ⟨m1, n1⟩ := msgVar (mD (txD t) y1) hb26 hw27
  refine ⟨m1, fun w28 hw28 => ?_⟩
  obtain ⟨hM1, f28⟩ := n1 w28 hw28
  have g28 := f17.trans' f28
  refine ⟨by simp; omega, by simp; omega, ?_⟩
  rw [eT, ← hT]
  refine parse_u T (hG.fr g28 (fun h => h)) fun y2 w29 hy2 f29 => ⟨_, _, _, _, _, y2, _, rfl, ?_⟩
  intro b38 w39 hb38 hw39
  obtain ⟨m2, n2⟩ := msgVar (mD (txD T) y2) hb38 hw39
  refine ⟨m2, fun w40 hw40 => ?_⟩
  obtain ⟨hM2, f40⟩ := n2 w40 hw40
  have g40 := (g28.trans' f29).trans' f40
  have hG40 := hG.fr g40 (fun h => h)
  have al : ∀ {k' : Value → World → Prop}, (∀ w', Fr Non w40 w' → k' (.bool true) w') → Cl Tryz.prog 16 [] w40 k' := fun h => alive8_spec hG40 h
  have hM1' := hM1.fr (f29.trans' f40) (fun h => h)
  have hy1' := hy1.fr (fun _ => EG.st) ((f28.trans' f29).trans' f40) (fun _ _ h => h)
  have hy2' := hy2.fr (fun _ => EG.st) f40 (fun _ _ h => h)
  refine ⟨fun h => ?_, fun h => ?_⟩
  · have h0 : txE t ≠ 0 := by intro e; rw [e] at h; simp at h
    refine al fun w41 f41 => ⟨_, rfl, fun _ => ?_, fun h => by cases h⟩
    have h2 : txE T ≠ 0 := by rw [hT]; exact p1 h0
    have e : (txE T != 0) = true := by simpa using h2
    rw [e]; exact hk _ (g40.trans' f41)
  have h0 : txE t = 0 := by simpa using h
  have q2 := p2 h0
  refine ⟨fun h => ?_, fun h => ?_⟩
  · refine al fun w44 f44 => ⟨_, rfl, fun _ => ⟨fun _ => hk _ (g40.trans' f44), fun h51 => ?_⟩, fun h => by cases h⟩
    have hT0 : txE T ≠ 0 := by intro e; rw [e] at h; simp at h
    have h51 : txE T ≠ 51 := by simpa using h51
    have e : (txE T == 2) = true := by
      rw [hT] at hT0 h51 ⊢
      rcases q2 with q | q | q
      · exact absurd q hT0
      · exact absurd q h51
      · unfold txE; rw [q]; rfl
    rw [e]; exact hk _ (g40.trans' f44)
  have hT0 : txE T = 0 := by simpa using h
  have hT0' : parseE isName (t ++ 13 :: l) = 0 := by rw [← hT]; exact hT0
  obtain ⟨p4, p5⟩ := p3 hT0'
  have eD : txD T = txD t := by unfold txD; rw [h0, hT0, hT, ofP_more]
  have eL1 : txL t = parseL t := by unfold txL; rw [if_pos h0]
  have eL2 : txL T = parseL (t ++ 13 :: l) := by unfold txL; rw [if_pos hT0, hT]
  rw [← eL1, ← eL2] at p4 p5
  rw [eD] at hM2
  refine ⟨fun h => ?_, fun h => ?_⟩
  · have hl0 : l = [] := by simpa using h
    refine al fun w47 f47 => ⟨_, rfl, fun _ => ?_, fun h => by cases h⟩
    refine ⟨_, _, _, _, _, y1, msgAts (hM1'.fr f47 (fun h => h)), _, _, _, _, _, y2, msgAts (hM2.fr f47 (fun h => h)), same_spec (mD (txD t) y1) (mD (txD t) y2) (txL t) (txL T) (OwM.rd (hy1'.fr (fun _ => EG.st) f47 (fun _ _ h => h))) (OwM.rd (hy2'.fr (fun _ => EG.st) f47 (fun _ _ h => h))) (sm_txL t) fun w62 f62 => ⟨_, rfl, ?_⟩⟩
    have e : (dlB (mD (txD t) y1) (mD (txD t) y2) && decide (txL t = txL T)) = true := by
      rw [p4 hl0]
      unfold dlB mD; simp
    rw [e]; exact hk _ ((g40.trans' f47).trans' f62)
  have hl0 : l ≠ [] := by simpa using h
  obtain ⟨p6, g, p7, p8⟩ := p5 hl0
  have hn1 := Own.len hy1'
  have hn2 := Own.len hy2'
  have hsm := (sm_txL t).1
  unfold BB at hsm
  have hlT : (txL T).length = (txL t).length + 1 := by rw [p7]; simp
  refine ⟨y2, by rw [add_mk]; exact hM2.cell rfl, y1, by rw [add_mk]; exact hM1'.cell rfl, fun h => ?_, fun h => ?_⟩
  · rw [w64_id (by omega) (by omega)] at h
    exfalso
    have : ((y2.len : Int) != ((y1.len : Int) + 1)) = false := by simp; omega
    rw [this] at h; cases h
  obtain ⟨a, x, ha, hc0, hc1, _⟩ := OwM.seg hy2' (i := (txL t).length) (by omega)
  have hgl : (txL T)[(txL t).length]'(by omega) = g := by simp [p7]
  rw [hgl] at hc0
  refine ⟨y2, by rw [add_mk]; exact hM2.cell rfl, y1, by rw [add_mk]; exact hM1'.cell rfl, a, ha, ⟨by omega, by omega⟩, g.name, x, ?_, ?_⟩
  · rw [Int.toNat_natCast, hn1]
    exact ⟨hc0, hc1, trivial⟩
  intro b72 w73 hb72 hw73
  have g73 : Fr Non w40 w73 := hw73 ▸ (Fr.refl Non w40).alloc _
  have hs73 : Blk w73 b72 35 [.string (mkS []), .slice none 0 0] := hb72 ▸ hw73 ▸ Blk.new w40 _ _
  refine ⟨mayCells_of hs73 0 2 (by simp), ?_⟩
  intro w74 hw74
  have f74 : Fr Non w40 w74 := upN g73 (hw74 ▸ (Fr.refl (fun g => g = b72) w73).setAll hs73 (vs := [.string (mkS g.name), .slice x.base x.len x.cap]) rfl (fun _ => rfl)) (fun g hg => by omega)
  have hs74 : Blk w74 b72 35 [.string (mkS g.name), .slice x.base x.len x.cap] := hw74 ▸ hs73.setAll rfl
  have hM1'' := hM1'.fr f74 (fun h => h)
  have hM2'' := hM2.fr f74 (fun h => h)
  have hle := Own.le hy2'
  refine ⟨y2, by rw [add_mk]; exact hM2''.cell rfl, y1, by rw [add_mk]; exact hM1''.cell rfl, ⟨by omega, by omega, by omega⟩, by rw [add_mk]; exact hM2''.isS (by simp [mc]), by rw [add_mk]; exact hM2''.free _, ?_⟩
  intro w77 hw77
  rw [add_mk, slS0] at hw77
  have lb38 : b38 < w40.heap.size := hM2.lt
  have r77 : Fr (fun g => g = b38) w74 w77 := hw77 ▸ (Fr.refl (fun g => g = b38) w74).set (a := ⟨b38, 0 + 5, none⟩) (fun _ => rfl) _
  have hM3 : Blk w77 b38 26 (mc (mD (txD t) ⟨y2.base, y1.len, y2.cap⟩)) := hw77 ▸ hM2''.set 5 _
  have s29 : b38 = w29.heap.size := hb38
  have z28 := f29.size
  have l26 : b26 < w28.heap.size := hM1.lt
  have hy2'' := (hy2'.fr (fun _ => EG.st) f74 (fun _ _ h => h)).fr (fun _ => EG.st) r77 (fun b hb e => by omega)
  have hy1'' := (hy1'.fr (fun _ => EG.st) f74 (fun _ _ h => h)).fr (fun _ => EG.st) r77 (fun b hb e => by have := f28.size; omega)
  have hM1s := hM1''.fr r77 (by omega)
  have hs77 := hs74.fr r77 (by omega)
  have s17 := g28.size
  have f77 : Fr Non _ w77 := upN (g40.trans' f74) r77 (fun g hg => by omega)
  rintro w78 rfl
  have g78 := (Fr.refl Non w77).drew
  refine alive8_spec (hG.fr (f77.trans' g78) (fun h => h)) fun w79 f79 => ⟨_, rfl, fun _ => ?_, fun h => by cases h⟩
  have f79' := g78.trans' f79
  have hR2 := RM.take (n := (txL t).length) (c := y2.cap) (OwM.rd (hy2''.fr (fun _ => EG.st) f79' (fun _ _ h => h))) (by omega)
  have etk : (txL T).take (txL t).length = txL t := by rw [p7]; simp
  rw [etk, ← hn1] at hR2
  refine ⟨_, _, _, _, _, y1, msgAts (hM1s.fr f79' (fun h => h)), _, _, _, _, _, ⟨y2.base, y1.len, y2.cap⟩, msgAts (hM3.fr f79' (fun h => h)), same_spec (mD (txD t) y1) (mD (txD t) ⟨y2.base, y1.len, y2.cap⟩) (txL t) (txL t) (OwM.rd (hy1''.fr (fun _ => EG.st) f79' (fun _ _ h => h))) hR2 (sm_txL t) fun w94 f94 => ⟨_, rfl, fun _ => ?_, fun h => ?_⟩⟩
  · refine ⟨fun _ => ⟨g.name, ((hs77.fr f79' (fun h => h)).fr f94 (fun h => h)).cell rfl, ⟨by omega, by omega, by omega⟩, ?_⟩, fun h => ?_⟩
    · have e : (g.name == sub l (0 : Int) (3 : Int)) = true := by
        rw [show sub l (0 : Int) (3 : Int) = l.take 3 from sub_pre l msh, p8]; simp
      rw [e]; exact hk _ ((f77.trans' f79').trans' f94)
    · have := of_decide_eq_false h; omega
  · have e : (dlB (mD (txD t) y1) (mD (txD t) ⟨y2.base, y1.len, y2.cap⟩) && decide (txL t = txL t)) = true := by
      unfold dlB mD; simp
    rw [e] at h; cases h
end
end Go.Proofs.YtoaoofobidhfjaaGreatDoor
