/- token.Parse's closures. -/
import Derived.Test.YtoaoofobidhfjaaGreatDoorWE7
set_option linter.unusedSimpArgs false
set_option linter.unusedVariables false
namespace Go.Proofs.YtoaoofobidhfjaaGreatDoor
open Go.V Go.RowKit
theorem nott {b : Bool} (h : (!b) = true) : b = false := by cases b with
  | false => rfl
  | true => cases h
theorem notf {b : Bool} (h : (!b) = false) : b = true := by cases b with
  | true => rfl
  | false => cases h
def zD : List Value := [.int .u8 0, .int .u8 0, .int .u8 0, .int .u8 0, .int .u8 0]
section
variable {w : World} {k : Value → World → Prop}
theorem of_spec (t : Str) (hl : t.length ≤ 65536)
    (hk1 : ∀ w' d, Fr Non w w' → ofP t = some d → k (.tuple (List.toArray [.agg (List.toArray (dvD d)), .int .i64 0])) w') (hk2 : ∀ w', Fr Non w w' → ofP t = none → k (.tuple (List.toArray [.agg (List.toArray zD), .int .i64 50])) w') :
    Cl Tryz.prog 63 [.string (mkS t)] w k := by
  refine f63_ok ?_
  unfold f63
  intro b2 w3 hb2 hw3
  have f3 : Fr Non w w3 := hw3 ▸ (Fr.refl Non w).alloc _
  have hZ3 : Blk w3 b2 23 zD := hb2 ▸ hw3 ▸ Blk.new w _ _
  have hbad : ∀ w', Fr Non w3 w' → ofP t = none → mayCells w' (⟨b2, 0, none⟩) 0 5 ∧ ∀ w7, w7 = setCells w' (⟨b2, 0, none⟩) 0 zD → ∃ (x8 : Int) (x9 : Int) (x10 : Int) (x11 : Int) (x12 : Int), cellsAt w7 (⟨b2, 0, none⟩) 0 [.int .u8 x8, .int .u8 x9, .int .u8 x10, .int .u8 x11, .int .u8 x12] ∧ k (.tuple (List.toArray [.agg (List.toArray [.int .u8 x8, .int .u8 x9, .int .u8 x10, .int .u8 x11, .int .u8 x12]), .int .i64 50])) w7 := by
    intro w' f' h
    have hZ := hZ3.fr f' (fun h => h)
    refine ⟨mayCells_of hZ 0 5 (by simp [zD]), ?_⟩
    rintro w7 rfl
    have h7 := hZ.setAll (vs := zD) rfl
    exact ⟨_, _, _, _, _, h7.ats zD 0 0 (fun q v hq => by simpa using hq), hk2 _ ((f3.trans' f').setAll hZ (vs := zD) rfl (fun h => absurd h (by omega))) h⟩
  have e3 : sub t (0 : Int) (3 : Int) = t.take 3 := sub_pre t msh
  refine ⟨fun v w' => v = !(decide (8 ≤ t.length) && (t.take 3 == msh)) ∧ w' = w3, ?_, fun h => ?_, fun h => ?_⟩
  · rintro v w6 ⟨hv, rfl⟩
    refine ⟨fun h => ?_, fun h => ?_⟩
    · refine hbad w6 (Fr.refl _ _) ?_
      rw [h] at hv
      have hv : (decide (8 ≤ t.length) && (t.take 3 == msh)) = false := nott hv.symm
      unfold ofP
      rw [hv]; rfl
    rw [h] at hv
    have hv : (decide (8 ≤ t.length) && (t.take 3 == msh)) = true := notf hv.symm
    have h8 : 8 ≤ t.length := by
      simp only [Bool.and_eq_true, decide_eq_true_eq] at hv; exact hv.1
    rintro w13 rfl
    refine ⟨⟨by omega, by omega⟩, ⟨by omega, by omega⟩, ⟨by omega, by omega⟩, ⟨by omega, by omega⟩, ⟨by omega, by omega⟩, ?_⟩
    intro b14 w15 hb14 hw15
    have g15 : Fr Non w6 w15 := hw15 ▸ (Fr.refl Non w6).drew.alloc _
    have hD15 : Blk w15 b14 23 zD := hb14 ▸ hw15 ▸ Blk.new w6.drew _ _
    refine ⟨mayCells_of hD15 0 5 (by simp [zD]), ?_⟩
    intro w16 hw16
    have hD16 : Blk w16 b14 23 (dvD (dmOf t)) := hw16 ▸ hD15.setAll (vs := dvD (dmOf t)) rfl
    have g16 : Fr Non w6 w16 := upN g15 (hw16 ▸ (Fr.refl (fun g => g = b14) w15).setAll hD15 (vs := dvD (dmOf t)) rfl (fun _ => rfl)) (fun g hg => by rw [hg, hb14]; exact Nat.le_refl _)
    have hof : ofP t = if (validD (dmOf t) && (decide (t.length ≤ 8) || (t.getD 8 0 == (dmOf t).f || (t.getD 8 0 == 13 || t.getD 8 0 == 10)))) = true then some (dmOf t) else none := by
      unfold ofP; rw [if_pos hv]
    refine ⟨fun v w' => v = !(validD (dmOf t) && (decide (t.length ≤ 8) || (t.getD 8 0 == (dmOf t).f || (t.getD 8 0 == 13 || t.getD 8 0 == 10)))) ∧ Fr Non w16 w', ?_, ?_⟩
    · rintro v2 w19 ⟨hv2, g19⟩
      have f19 := g16.trans' g19
      refine ⟨fun h => ?_, fun h => ?_⟩
      · refine hbad w19 f19 ?_
        rw [h] at hv2
        rw [hof, if_neg (by rw [nott hv2.symm]; simp)]
      · rw [h] at hv2
        have ho : ofP t = some (dmOf t) := by rw [hof, if_pos (notf hv2.symm)]
        have hZ := hZ3.fr f19 (fun h => h)
        refine ⟨_, _, _, _, _, (hD16.fr g19 (fun h => h)).ats (dvD (dmOf t)) 0 0 (fun q v hq => by simpa using hq), mayCells_of hZ 0 5 (by simp [zD]), ?_⟩
        rintro w41 rfl
        have h41 := hZ.setAll (vs := dvD (dmOf t)) rfl
        exact ⟨_, _, _, _, _, h41.ats (dvD (dmOf t)) 0 0 (fun q v hq => by simpa using hq), hk1 _ _ ((f3.trans' f19).setAll hZ (vs := dvD (dmOf t)) rfl (fun h => absurd h (by omega))) ho⟩
    · rintro w20 rfl
      have hD20 : Blk w16.drew b14 23 (dvD (dmOf t)) := hD16
      refine ⟨_, _, _, _, _, hD20.ats (dvD (dmOf t)) 0 0 (fun q v hq => by simpa using hq), dvalid_spec (mD (dmOf t) ⟨none, 0, 0⟩) fun w26 g26 => ⟨_, rfl, fun h => ?_, fun h => ?_⟩⟩
      · have f26 := ((Fr.refl Non w16).drew).trans' g26
        rw [dvB_eq] at h
        refine ⟨?_, f26⟩
        rw [show validD (dmOf t) = false by simpa using h]; rfl
      have f26 := ((Fr.refl Non w16).drew).trans' g26
      rw [dvB_eq] at h
      have hvd : validD (dmOf t) = true := by simpa using h
      rw [hvd, Bool.true_and]
      have c13 : (((t.getD 8 0).toNat : Int) != 13) = !(t.getD 8 0 == 13) := by
        have := u8_eqc (t.getD 8 0) 13
        unfold bne
        rw [show (13 : Int) = ((13 : UInt8).toNat : Int) from rfl, this]; rfl
      have c10 : (((t.getD 8 0).toNat : Int) != 10) = !(t.getD 8 0 == 10) := by
        have := u8_eqc (t.getD 8 0) 10
        unfold bne
        rw [show (10 : Int) = ((10 : UInt8).toNat : Int) from rfl, this]; rfl
      have cf : (((t.getD 8 0).toNat : Int) != ((dmOf t).f.toNat : Int)) = !(t.getD 8 0 == (dmOf t).f) := by
        have := u8_eqc (t.getD 8 0) (dmOf t).f
        unfold bne
        rw [this]; rfl
      refine ⟨fun h9 => ⟨⟨by omega, by have := of_decide_eq_true h9; omega⟩, _, (hD20.fr g26 (fun h => h)).cell rfl, fun ha => ⟨⟨by omega, by have := of_decide_eq_true h9; omega⟩, fun hb => ⟨⟨by omega, by have := of_decide_eq_true h9; omega⟩, ?_, f26⟩, fun hb => ⟨?_, f26⟩⟩, fun ha => ⟨?_, f26⟩⟩, fun h9 => ⟨?_, f26⟩⟩
      · have h9 : ¬ t.length ≤ 8 := by have := of_decide_eq_true h9; omega
        have ha : (t.getD 8 0 == (dmOf t).f) = false := by have ha := (congrArg (fun z => z) cf).symm.trans ha; simpa using ha
        have hb : (t.getD 8 0 == 13) = false := by have hb := (congrArg (fun z => z) c13).symm.trans hb; simpa using hb
        rw [decide_eq_false h9, ha, hb]
        show (((t.getD 8 0).toNat : Int) != 10) = _
        rw [c10]; rfl
      · have hb : (t.getD 8 0 == 13) = true := by have hb := (congrArg (fun z => z) c13).symm.trans hb; simpa using hb
        rw [hb]; simp
      · have ha : (t.getD 8 0 == (dmOf t).f) = true := by have ha := (congrArg (fun z => z) cf).symm.trans ha; simpa using ha
        rw [ha]; simp
      · have h9 : t.length ≤ 8 := by have := of_decide_eq_false h9; omega
        rw [decide_eq_true h9]; rfl
  · have h : ¬ 8 ≤ t.length := by have := of_decide_eq_true h; omega
    exact ⟨by rw [decide_eq_false h]; rfl, rfl⟩
  · have h : 8 ≤ t.length := by have := of_decide_eq_false h; omega
    rw [e3]
    exact ⟨⟨by omega, by omega, by omega⟩, by rw [decide_eq_true h]; rfl, rfl⟩
theorem lines_spec (t : Str) (hl : t.length ≤ 65536) (hk : ∀ (A : Nat) w', w.heap.size ≤ A → Blk w' A 9 ((linesP t).map fun x => .string (mkS x)) → Fr Non w w' → k (.slice (some ⟨A, 0, none⟩) (linesP t).length (linesP t).length) w') :
    Cl Tryz.prog 64 [.string (mkS t), .func (.func 65) #[] (List.toArray [])] w k := by
  have hsz : (mkS t).size = t.length := by simp [mkS, ByteArray.size]
  have hp : PredAtRunes Tryz.prog 65 #[] pEol w := by
    intro W x hx hb
    have key : Cl Tryz.prog 65 [.int .i32 (x : Int)] W (fun v w' => v = .bool (pEol x) ∧ w' = W) := by
      refine f65_ok ?_
      unfold f65
      refine ⟨fun h => ⟨?_, rfl⟩, fun h => ⟨?_, rfl⟩⟩
      · have h : x = 13 := by have := beq_iff_eq.1 h; omega
        unfold pEol; rw [decide_eq_true h]; rfl
      · have h : ¬ x = 13 := by intro e; subst e; simp at h
        unfold pEol; rw [decide_eq_false h, Bool.false_or]
        congr 1
        by_cases h2 : x = 10
        · subst h2; rfl
        · rw [decide_eq_false h2]; simp; omega
    refine Calls.mono key ?_
    rintro e w' ⟨v, rfl, rfl, rfl⟩
    exact ⟨rfl, 0, rfl⟩
  refine cl_of (Tryz.strings_FieldsFunc_runes 65 #[] (enters_of Tryz.func65 (by kernel_rfl) rfl) pEol (mkS t) w (by omega) hp) ?_
  rintro e w' ⟨A, rfl, hA, hown, hb⟩
  rw [fields_len, fields_vals] at *
  refine ⟨_, rfl, hk A w' hA ?_ ⟨hb.os, hb.tape, hb.output, hb.size, fun b hb' _ => hb.block b hb'⟩⟩
  rcases hown.2 with ⟨hv, _⟩ | ⟨g, cap, cur, hv, _, hg, hn, _, hc, ht⟩
  · cases hv
  · simp only [Value.slice.injEq, Option.some.injEq, Addr.mk.injEq] at hv
    obtain ⟨⟨rfl, _⟩, _, rfl⟩ := hv
    unfold Blk
    rw [hg]
    have hcl : cur.toList.length = (linesP t).length := by simpa using hc
    rw [Nat.mul_one, List.take_of_length_le (by omega)] at ht
    rw [← ht]
end
end Go.Proofs.YtoaoofobidhfjaaGreatDoor
namespace Go.Proofs.YtoaoofobidhfjaaGreatDoor
open Go.V Go.RowKit
section
variable {w : World} {k : Value → World → Prop}
theorem one_spec (v : Str) (hk : ∀ (y : Sl) w', EF w' [.slice y.base y.len y.cap] (one1' v) (fun b => w.heap.size ≤ b ∧ b < w'.heap.size) → Fr Non w w' → k (.slice y.base y.len y.cap) w') : Cl Tryz.prog 75 [.string (mkS v)] w k := by
  refine f75_ok ?_
  unfold f75
  intro b2 w3 hb2 hw3 b4 w5 hb4 hw5 b6 w7 hb6 hw7
  have f3 : Fr Non w w3 := hw3 ▸ (Fr.refl Non w).alloc _
  have f5 : Fr Non w3 w5 := hw5 ▸ (Fr.refl Non w3).alloc _
  have f7 : Fr Non w5 w7 := hw7 ▸ (Fr.refl Non w5).alloc _
  have h2 : Blk w7 b2 9 [.string (mkS v)] := (((hb2 ▸ hw3 ▸ Blk.new w _ _ : Blk w3 b2 9 [.string (mkS v)])).fr f5 (fun h => h)).fr f7 (fun h => h)
  have h4 : Blk w7 b4 36 [.slice (some ⟨b2, 0, none⟩) 1 1] := ((hb4 ▸ hw5 ▸ Blk.new w3 _ _ : Blk w5 b4 36 [.slice (some ⟨b2, 0, none⟩) 1 1])).fr f7 (fun h => h)
  have h6 : Blk w7 b6 37 [.slice (some ⟨b4, 0, none⟩) 1 1] := hb6 ▸ hw7 ▸ Blk.new w5 _ _
  have s3 : w3.heap.size = w.heap.size + 1 := by rw [hw3]; simp
  have s5 : w5.heap.size = w3.heap.size + 1 := by rw [hw5]; simp
  have s7 : w7.heap.size = w5.heap.size + 1 := by rw [hw7]; simp
  have o2 : OwC w7 ⟨some ⟨b2, 0, none⟩, 1, 1⟩ [v] (fun c => c = b2 ∨ False) := Own.one h2 rfl (by intro v hv; simp at hv; subst hv; rfl) (show EStr w7 _ v (fun _ => False) from rfl) (fun c hc => hc.elim)
  have o4 : OwR w7 ⟨some ⟨b4, 0, none⟩, 1, 1⟩ [[v]] (fun c => c = b4 ∨ (c = b2 ∨ False)) := Own.one h4 rfl (by intro v hv; simp at hv; subst hv; rfl) (show EC w7 _ [v] _ from ⟨_, rfl, o2⟩) (fun c hc => by rcases hc with rfl | h; exact ⟨by omega, by omega⟩; exact h.elim)
  have o6 : OwF w7 ⟨some ⟨b6, 0, none⟩, 1, 1⟩ [[[v]]] (fun c => c = b6 ∨ (c = b4 ∨ (c = b2 ∨ False))) := Own.one h6 rfl (by intro v hv; simp at hv; subst hv; rfl) (show ER w7 _ [[v]] _ from ⟨_, rfl, o4⟩) (fun c hc => by rcases hc with rfl | rfl | h; exact ⟨by omega, by omega⟩; exact ⟨by omega, by omega⟩; exact h.elim)
  exact hk ⟨some ⟨b6, 0, none⟩, 1, 1⟩ w7 ⟨_, rfl, o6.mono fun c hc => by rcases hc with rfl | rfl | rfl | h; exact ⟨by omega, by omega⟩; exact ⟨by omega, by omega⟩; exact ⟨by omega, by omega⟩; exact h.elim⟩ ((f3.trans' f5).trans' f7)
theorem rdEsc_spec (d : Dm) (ok : OkD d) {b : Nat} {T : TypeId} (hD : Blk w b T (dvD d)) (v : Str) (hl : v.length ≤ 65536) (hk : ∀ w', Fr Non w w' → k (.string (mkS (readP d v))) w') :
    Cl Tryz.prog 69 [.string (mkS v), .pointer (some ⟨b, 0, none⟩)] w k := by
  refine f69_ok ?_
  unfold f69
  rintro w3 rfl
  have hD3 : Blk w.drew b T (dvD d) := hD
  exact ⟨_, _, _, _, _, hD3.ats (dvD d) 0 0 (fun q v hq => by simpa using hq), clone_spec v (by omega) fun w9 g9 => ⟨g9.ext, _, rfl, read_spec d ok v (by omega) fun w12 g12 => ⟨_, rfl, hk _ (((Fr.refl Non w).drew.trans' g9).trans' g12)⟩⟩⟩
theorem rdC_spec (d : Dm) (ok : OkD d) {b bl : Nat} {T T2 : TypeId} (x0 : Bool) (hD : Blk w b T (dvD d)) (hne : b ≠ bl) (hG : GMax w) (hGb : gMax ≠ bl) (hb : Blk w bl T2 [.bool x0]) (s : Str) (hl : s.length ≤ 65536)
    (hk : ∀ (y : Sl) w', EC w' [.slice y.base y.len y.cap] (rdC d s) (fun b => w.heap.size ≤ b ∧ b < w'.heap.size) → Fr (fun c => c = bl) w w' → Blk w' bl T2 [.bool (x0 || bdC d s)] → k (.slice y.base y.len y.cap) w') :
    Cl Tryz.prog 67 [.string (mkS s), .pointer (some ⟨b, 0, none⟩), .pointer (some ⟨bl, 0, none⟩)] w k := by
  refine f67_ok ?_
  unfold f67
  refine ⟨_, by rw [add_mk]; exact hD.cell rfl, cut0_spec s d.s _ (readP d) (fun _ => false) x0 hl hG hGb hb (fun v w1 x k1 f1 hb1 hvl hk1 => ?_) fun y w' hy f' hb' => ⟨y, rfl, hk y w' ⟨y, rfl, hy⟩ f' hb'⟩⟩
  refine Cv.of (caps := [.pointer (some ⟨b, 0, none⟩)]) (.mk (by kernel_rfl)) ?_
  refine rdEsc_spec d ok (hD.fr f1 hne) v (by omega) fun w2 f2 => hk1 w2 (f2.mono fun _ _ h => h.elim) ?_
  rw [Bool.or_false]
  exact hb1.fr f2 (fun h => h)
theorem rdR_spec (d : Dm) (ok : OkD d) {b bl bc : Nat} {T T2 T3 : TypeId} (x0 : Bool) (hD : Blk w b T (dvD d)) (hne : b ≠ bl) (hC : Blk w bc T3 [.func (.func 67) #[] (List.toArray [.pointer (some ⟨b, 0, none⟩), .pointer (some ⟨bl, 0, none⟩)])]) (hne2 : bc ≠ bl) (hG : GMax w) (hGb : gMax ≠ bl) (hb : Blk w bl T2 [.bool x0]) (s : Str) (hl : s.length ≤ 65536)
    (hk : ∀ (y : Sl) w', ER w' [.slice y.base y.len y.cap] (rdR d s) (fun b => w.heap.size ≤ b ∧ b < w'.heap.size) → Fr (fun c => c = bl) w w' → Blk w' bl T2 [.bool (x0 || bdR d s)] → k (.slice y.base y.len y.cap) w') :
    Cl Tryz.prog 72 [.string (mkS s), .pointer (some ⟨b, 0, none⟩), .pointer (some ⟨bl, 0, none⟩), .pointer (some ⟨bc, 0, none⟩)] w k := by
  refine f72_ok ?_
  unfold f72
  refine ⟨_, by rw [add_mk]; exact hD.cell rfl, _, hC.cell rfl, cut1_spec s d.c _ (rdC d) (bdC d) x0 hl hG hGb hb (fun v w1 x k1 f1 hb1 hvl hk1 => ?_) fun y w' hy f' hb' => ⟨y, rfl, hk y w' ⟨y, rfl, hy⟩ f' hb'⟩⟩
  refine Cv.of (caps := [.pointer (some ⟨b, 0, none⟩), .pointer (some ⟨bl, 0, none⟩)]) (.mk (by kernel_rfl)) ?_
  exact rdC_spec d ok x (hD.fr f1 hne) hne (hG.fr f1 hGb) hGb hb1 v (by omega) fun z w2 hz f2 hb2 => hk1 z w2 hz f2 hb2
theorem rdF_spec (d : Dm) (ok : OkD d) {b bl bc : Nat} {T T2 T3 : TypeId} (x0 : Bool) (hD : Blk w b T (dvD d)) (hne : b ≠ bl) (hC : Blk w bc T3 [.func (.func 67) #[] (List.toArray [.pointer (some ⟨b, 0, none⟩), .pointer (some ⟨bl, 0, none⟩)])]) (hne2 : bc ≠ bl) (hG : GMax w) (hGb : gMax ≠ bl) (hb : Blk w bl T2 [.bool x0]) (s : Str) (hl : s.length ≤ 65536)
    (hk : ∀ (y : Sl) w', EF w' [.slice y.base y.len y.cap] (rdF d s) (fun b => w.heap.size ≤ b ∧ b < w'.heap.size) → Fr (fun c => c = bl) w w' → Blk w' bl T2 [.bool (x0 || bdF d s)] → k (.slice y.base y.len y.cap) w') :
    Cl Tryz.prog 76 [.string (mkS s), .int .u8 (d.r.toNat : Int), .pointer (some ⟨bl, 0, none⟩), .func (.func 72) #[] (List.toArray [.pointer (some ⟨b, 0, none⟩), .pointer (some ⟨bl, 0, none⟩), .pointer (some ⟨bc, 0, none⟩)])] w k := by
  refine cut2_spec s d.r _ (rdR d) (bdR d) x0 hl hG hGb hb (fun v w1 x k1 f1 hb1 hvl hk1 => ?_) fun y w' hy f' hb' => hk y w' ⟨y, rfl, hy⟩ f' hb'
  refine Cv.of (caps := [.pointer (some ⟨b, 0, none⟩), .pointer (some ⟨bl, 0, none⟩), .pointer (some ⟨bc, 0, none⟩)]) (.mk (by kernel_rfl)) ?_
  exact rdR_spec d ok x (hD.fr f1 hne) hne (hC.fr f1 hne2) hne2 (hG.fr f1 hGb) hGb hb1 v (by omega) fun z w2 hz f2 hb2 => hk1 z w2 hz f2 hb2
theorem Own.two {α : Type} {P : Program} {t T : TypeId} {z : Value} {by_ : Nat} {E : EP α} (ht : P.underlying t = some (.slice T)) (hs : Sz P T 1) (hz : Zr P T z) (hb : Bts P T by_) (hzs : z.cells.size = 1) (hE : ESt E) (hby : 2 * by_ ≤ 140737488355328)
    {x y : α} {vx vy : Value} {ox oy : Nat → Prop} (hx : E w [vx] x ox) (hy : E w [vy] y oy) (h1 : vx.oneCell' = true) (h2 : vy.oneCell' = true) (hox : ∀ b, ox b → b < w.heap.size) (hoy : ∀ b, oy b → b < w.heap.size) (hd : ∀ b, ox b → ¬ oy b)
    {b : Nat} {T' : TypeId} (hB : Blk w b T' [vx, vy]) {c : Nat} (ty : TypeId) :
    ∃ s' w', (Builtin.append_ #[t, t] ty #[.slice none 0 0, .slice (some ⟨b, 0, none⟩) 2 c]).run P w = .ok (.slice (Sl.base s') s'.len s'.cap) w' ∧
      Own T 1 (fun _ => E) w' s' [x, y] (fun b => (ox b ∨ oy b ∨ w.heap.size ≤ b) ∧ b < w'.heap.size) ∧ Fr Non w w' := by
  obtain ⟨s', w', hr, ho, hl, hf⟩ := append_own (P := P) (t := t) (e := T) (z := z) (sz := 1) (by_ := by_) ht hs hz hb hzs (by omega) (SlOk.nil w T 1 Non) (news := [vx, vy]) (m := 2) (c := c) rfl (.inr ⟨⟨b, 0, none⟩, rfl, fun j u hj => by rw [add_mk, Nat.zero_add]; exact hB.cell hj⟩)
    (fun u hu => by simp at hu; rcases hu with rfl | rfl; exact h1; exact h2) (by simpa using hby) (by simp) ty
  refine ⟨s', w', hr, ?_, hf⟩
  have hz' := hf.size
  have hl2 : s'.len = 2 := hl
  have hlt : w.heap.size < w'.heap.size := by
    rcases ho with ⟨_, h, _⟩ | ⟨g, hg, hA⟩
    · omega
    · rcases hg with hg | rfl
      · exact hg.elim
      · exact hA.lt
  refine ⟨[vx, vy], fun g => g = w.heap.size, fun i => if i = 0 then ox else oy, ?_⟩
  refine ⟨ho.mono (fun g hg => by rcases hg with hg | hg; exact hg.elim; exact hg), by rw [hl2]; rfl, ?_, ?_, ?_, ?_, ?_⟩
  · rintro g rfl; exact ⟨hlt, .inr (.inr (Nat.le_refl _)), hlt⟩
  · intro i hi g hg
    simp only [List.length_cons, List.length_nil] at hi
    by_cases h0 : i = 0
    · rw [if_pos h0] at hg
      have := hox g hg
      exact ⟨by omega, ⟨.inl hg, by omega⟩, by omega⟩
    · rw [if_neg h0] at hg
      have := hoy g hg
      exact ⟨by omega, ⟨.inr (.inl hg), by omega⟩, by omega⟩
  · intro i j hi hj hij g hg hg2
    simp only [List.length_cons, List.length_nil] at hi hj
    by_cases h0 : i = 0
    · have hj0 : j ≠ 0 := by omega
      rw [if_pos h0] at hg; rw [if_neg hj0] at hg2
      exact hd g hg hg2
    · have hj0 : j = 0 := by omega
      rw [if_neg h0] at hg; rw [if_pos hj0] at hg2
      exact hd g hg2 hg
  · intro i hi
    have hi2 : i = 0 ∨ i = 1 := by simp only [List.length_cons, List.length_nil] at hi; omega
    rcases hi2 with rfl | rfl
    · exact hE _ _ _ _ _ (fun b hb => hf.blk b (hox b hb) (fun h => h)) hx
    · exact hE _ _ _ _ _ (fun b hb => hf.blk b (hoy b hb) (fun h => h)) hy
  · intro v hv
    simp at hv
    rcases hv with rfl | rfl
    · exact h1
    · exact h2
end
end Go.Proofs.YtoaoofobidhfjaaGreatDoor
