/- token.Print: a message's text. -/
import Derived.Test.YthpeengmcjpknaaGreatDoorPE2
import Derived.Test.YthpeengmcjpknaaGreatDoorPE3
import Derived.Test.YthpeengmcjpknaaGreatDoorPB2
set_option linter.unusedSimpArgs false
set_option linter.unusedVariables false
namespace Go.Proofs.YthpeengmcjpknaaGreatDoor
open Go.V Go.RowKit
section
variable {w : World} {k : Value → World → Prop}
theorem dhead_spec (d : Dm) (ok : OkD d) (hk : ∀ w', Fr Non w w' → k (.string (mkS [77, 83, 72, d.f, d.c, d.r, d.e, d.s])) w') : Cl Tryz.prog 172 [.agg (List.toArray (dvD d))] w k := by
  refine f172_ok ?_
  unfold f172
  intro b6 w7 hb6 hw7
  have f7 : Fr Non w w7 := hw7 ▸ (Fr.refl Non w).alloc _
  have hD : Blk w7 b6 23 (dvD d) := hb6 ▸ hw7 ▸ Blk.new w _ _
  refine ⟨_, _, _, _, _, hD.ats (dvD d) 0 0 (fun q v hq => by simpa using hq), dvalid_spec (mD d ⟨none, 0, 0⟩) fun w13 g13 => ⟨_, rfl, fun h => ?_, fun h => ?_⟩⟩
  · rw [dv_ok ok] at h; cases h
  have hD13 := hD.fr g13 (fun h => h)
  refine ⟨_, _, _, _, _, hD13.ats (dvD d) 0 0 (fun q v hq => by simpa using hq), dsigns_spec (mD d ⟨none, 0, 0⟩) fun w21 g21 => ⟨_, _, _, _, _, rfl, ?_⟩⟩
  intro b28 w29 hb28 hw29
  have f21 := (f7.trans' g13).trans' g21
  have f29 : Fr Non w w29 := hw29 ▸ f21.alloc _
  have hB : Blk w29 b28 286 [.int .u8 0, .int .u8 0, .int .u8 0, .int .u8 0, .int .u8 0] := hb28 ▸ hw29 ▸ Blk.new w21 _ _
  refine ⟨mayCells_of hB 0 5 (by simp), ?_⟩
  rintro w30 rfl
  have h30 : Blk _ b28 286 (bys [d.f, d.c, d.r, d.e, d.s]) := hB.setAll (vs := bys [d.f, d.c, d.r, d.e, d.s]) rfl
  have z := f21.size
  have e5 : slS ⟨some ⟨b28, 0, none⟩, 5, 5⟩ 1 (0 : Int) 5 = ⟨some ⟨b28, 0, none⟩, 5, 5⟩ := slS0 _ 1 5
  rw [e5]
  exact ⟨⟨by omega, by omega, by omega⟩, [d.f, d.c, d.r, d.e, d.s], h30.bytes rfl, by simp, hk _ (f29.setAll hB (vs := bys [d.f, d.c, d.r, d.e, d.s]) rfl (fun h => absurd h (by omega)))⟩
theorem pEsc_spec (d : Dm) (ok : OkD d) {b : Nat} {T : TypeId} (hD : Blk w b T (dvD d)) (v : Str) (hl : v.length ≤ 1099511627776) (hk : ∀ w', Fr Non w w' → k (.string (mkS (escW d v))) w') :
    Cl Tryz.prog 165 [.string (mkS v), .pointer (some ⟨b, 0, none⟩)] w k := by
  refine f165_ok ?_
  unfold f165
  exact ⟨_, _, _, _, _, hD.ats (dvD d) 0 0 (fun q v hq => by simpa using hq), write_spec d ok v hl fun w' f' => ⟨_, rfl, hk w' f'⟩⟩
theorem pC_spec (d : Dm) (ok : OkD d) {b : Nat} {T : TypeId} (hD : Blk w b T (dvD d)) (x : Sl) (c : Cmp) (hx : RdL 1 RdStr w x c) (hb : bkC c ≤ BB) (hk : ∀ w', Fr Non w w' → k (.string (mkS (prC d c))) w') :
    Cl Tryz.prog 163 [.slice x.base x.len x.cap, .pointer (some ⟨b, 0, none⟩)] w k := by
  refine f163_ok ?_
  unfold f163
  have hS := SmC_of hb
  have hn := prC_len d c
  unfold BB at hb
  refine ⟨_, by rw [add_mk]; exact hD.cell rfl, join0_spec x d.s _ (escW d) c hx hS.1 (by show (prC d c).length ≤ _; omega) (fun a w1 k1 f1 hm hk1 => ?_) fun w' f' => ⟨_, rfl, hk w' f'⟩⟩
  refine Cv.of (caps := [.pointer (some ⟨b, 0, none⟩)]) (.mk (by kernel_rfl)) ?_
  exact pEsc_spec d ok (hD.fr f1 (fun h => h)) a (hS.2 a hm) hk1
theorem pR_spec (d : Dm) (ok : OkD d) {b b2 : Nat} {T T2 : TypeId} (hD : Blk w b T (dvD d)) (hB : Blk w b2 T2 [.func (.func 163) #[] (List.toArray [.pointer (some ⟨b, 0, none⟩)])]) (x : Sl) (r : Rept) (hx : RdL 1 RC w x r) (hb : bkR r ≤ BB) (hk : ∀ w', Fr Non w w' → k (.string (mkS (prR d r))) w') :
    Cl Tryz.prog 167 [.slice x.base x.len x.cap, .pointer (some ⟨b, 0, none⟩), .pointer (some ⟨b2, 0, none⟩)] w k := by
  refine f167_ok ?_
  unfold f167
  have hS := SmR_of hb
  have hn := prR_len d r
  have hm0 := fun c (hc : c ∈ r) => bkL_mem (f := bkC) hc
  have hb' : bkL bkC r ≤ BB := hb
  unfold BB at hb hb'
  refine ⟨_, by rw [add_mk]; exact hD.cell rfl, _, hB.cell rfl, join1_spec x d.c _ (prC d) r hx hS.1 (by show (prR d r).length ≤ _; omega) (fun z a w1 k1 f1 hz hm hk1 => ?_) fun w' f' => ⟨_, rfl, hk w' f'⟩⟩
  refine Cv.of (caps := [.pointer (some ⟨b, 0, none⟩)]) (.mk (by kernel_rfl)) ?_
  exact pC_spec d ok (hD.fr f1 (fun h => h)) z a hz (by have := hm0 a hm; unfold BB; omega) hk1
theorem pF_spec (d : Dm) (ok : OkD d) {b b2 b3 : Nat} {T T2 T3 : TypeId} (hD : Blk w b T (dvD d)) (hB : Blk w b2 T2 [.func (.func 163) #[] (List.toArray [.pointer (some ⟨b, 0, none⟩)])]) (hB3 : Blk w b3 T3 [.func (.func 167) #[] (List.toArray [.pointer (some ⟨b, 0, none⟩), .pointer (some ⟨b2, 0, none⟩)])])
    (x : Sl) (f : Fldt) (hx : RdL 1 RR w x f) (hb : bkF f ≤ BB) (hk : ∀ w', Fr Non w w' → k (.string (mkS (prF d f))) w') :
    Cl Tryz.prog 169 [.slice x.base x.len x.cap, .pointer (some ⟨b, 0, none⟩), .pointer (some ⟨b3, 0, none⟩)] w k := by
  refine f169_ok ?_
  unfold f169
  have hS := SmF_of hb
  have hn := prF_len d f
  have hm0 := fun c (hc : c ∈ f) => bkL_mem (f := bkR) hc
  have hb' : bkL bkR f ≤ BB := hb
  unfold BB at hb hb'
  refine ⟨_, by rw [add_mk]; exact hD.cell rfl, _, hB3.cell rfl, join2_spec x d.r _ (prR d) f hx hS.1 (by show (prF d f).length ≤ _; omega) (fun z a w1 k1 f1 hz hm hk1 => ?_) fun w' f' => ⟨_, rfl, hk w' f'⟩⟩
  refine Cv.of (caps := [.pointer (some ⟨b, 0, none⟩), .pointer (some ⟨b2, 0, none⟩)]) (.mk (by kernel_rfl)) ?_
  exact pR_spec d ok (hD.fr f1 (fun h => h)) (hB.fr f1 (fun h => h)) z a hz (by have := hm0 a hm; unfold BB; omega) hk1
end
def prE (m : Mh) (l : List Seg) : Int := if validM m l = true then (if 65536 < (Go.V.printP (dmM m) l).length then 2 else 0) else 51
def prS (m : Mh) (l : List Seg) : Str := if prE m l = 0 then Go.V.printP (dmM m) l else []
theorem OwM.seg {w : World} {F : Nat → Prop} {s : Sl} {l : List Seg} (h : OwM w s l F) {i : Nat} (hi : i < l.length) : ∃ (a : Addr) (x : Sl), s.base = some a ∧ w.cell? (a.add (i * 2)) = some (.string (mkS l[i].name)) ∧ w.cell? ((a.add (i * 2)).add 1) = some (.slice x.base x.len x.cap) ∧ OwS w x l[i].flds F := by
  obtain ⟨xs, G, o, h⟩ := h
  obtain ⟨x, hc, hx⟩ := h.el i hi
  obtain ⟨a, ha, _, _⟩ := h.base (by omega) hi
  have c0 : (cut xs 2 i)[0]? = some (.string (mkS l[i].name)) := by rw [hc]; rfl
  have c1 : (cut xs 2 i)[1]? = some (.slice x.base x.len x.cap) := by rw [hc]; rfl
  exact ⟨a, x, ha, h.cell ha c0 (by omega), h.cell ha c1 (by omega), hx.mono fun b hb => (h.ol i hi b hb).2.1⟩
theorem flds_snoc (d : Dm) (l : List Fldt) (f : Fldt) : fldsP d (l ++ [f]) = fldsP d l ++ d.f :: prF d f := by
  unfold fldsP; rw [List.flatMap_append]; simp
theorem flds_take (d : Dm) (l : List Fldt) (q : Nat) : (fldsP d (l.take q)).length ≤ (fldsP d l).length := by
  have e : fldsP d l = fldsP d (l.take q) ++ fldsP d (l.drop q) := by
    conv => lhs; rw [← List.take_append_drop q l]
    unfold fldsP; rw [List.flatMap_append]
  rw [e, List.length_append]; omega
def PR (D : Nat → Prop) (w : World) (s : Sl) (fl : List Fldt) : Prop := s.len = fl.length ∧ ∀ q (hq : q < fl.length), ∃ (a : Addr) (z : Sl), s.base = some a ∧ ∀ u, Fr D w u → u.cell? (a.add (q * 1)) = some (.slice z.base z.len z.cap) ∧ RdL 1 RR u z fl[q]
theorem PR.fr {D : Nat → Prop} {w w' : World} {s : Sl} {fl : List Fldt} (h : PR D w s fl) (f : Fr D w w') : PR D w' s fl := ⟨h.1, fun q hq => by
  obtain ⟨a, z, h1, h2⟩ := h.2 q hq
  exact ⟨a, z, h1, fun u fu => h2 u (f.trans' fu)⟩⟩
theorem OwS.pr {D F : Nat → Prop} {w : World} {s : Sl} {l : List Fldt} (h : OwS w s l F) (hd : ∀ b, F b → ¬ D b) : PR D w s l := by
  refine ⟨Own.len h, fun q hq => ?_⟩
  obtain ⟨xs, G, o, h⟩ := h
  obtain ⟨z, hc, hx⟩ := h.el q hq
  obtain ⟨a, ha, hG, _⟩ := h.base (by omega) hq
  have c0 : (cut xs 1 q)[0]? = some (.slice z.base z.len z.cap) := by rw [hc]; rfl
  have hcell := h.cell ha c0 (by omega)
  refine ⟨a, z, ha, fun u fu => ⟨fu.cell hcell (by rw [block_add]; exact hd _ (by have := (h.gl _ hG).2; simpa [block_add] using this)), ?_⟩⟩
  exact OwF.rd (hx.fr (fun _ => ER.st) fu fun b hb => hd b (h.ol q hq b hb).2.1)
theorem add_add (c : Addr) (n i : Nat) : (c.add n).add i = c.add (n + i) := by
  unfold Addr.add
  by_cases h1 : n = 0
  · subst h1; simp
  · by_cases h2 : i = 0
    · subst h2; simp [h1]
    · rw [if_neg h2, if_neg h1, if_neg (by omega)]
      simp only [Addr.mk.injEq, true_and, and_true]; omega
theorem PR.dropN {D : Nat → Prop} {w : World} {s : Sl} {fl : List Fldt} (h : PR D w s fl) (n : Nat) (hc : s.len ≤ s.cap) (hn : n ≤ fl.length) : PR D w (slS s 1 (n : Int) (s.len : Int)) (fl.drop n) := by
  have hL := h.1
  refine ⟨by unfold slS; simp only [Int.toNat_natCast, List.length_drop]; omega, fun i hi => ?_⟩
  rw [List.length_drop] at hi
  obtain ⟨c, z, hb, hr⟩ := h.2 (n + i) (by omega)
  refine ⟨c.add n, z, ?_, fun u fu => ?_⟩
  · unfold slS
    simp only [Int.toNat_natCast, Nat.mul_one, hb]
    rw [if_neg (by omega)]; rfl
  · rw [add_add, Nat.mul_one, List.getElem_drop]
    have := hr u fu
    rw [Nat.mul_one] at this
    exact this
theorem belowFr' {B : Nat} {w0 w w' : World} (h : Below B w w') (hB : w0.heap.size ≤ B) (f : Fr Non w0 w) : Fr Non w0 w' := ⟨h.os.trans f.os, h.tape.trans f.tape, h.output.trans f.output, Nat.le_trans f.size h.size, fun b hb hF => by rw [h.block b (by omega)]; exact f.blk b hb hF⟩
section
variable {w : World} {k : Value → World → Prop}
set_option maxHeartbeats 4000000 in
theorem tprint_spec (m : Mh) (l : List Seg) (hR : RM w m.s l) (hb : bkM l ≤ BB) (hd : Dg m) (hk : ∀ w', Fr Non w w' → k (.tuple (List.toArray [.string (mkS (prS m l)), .int .i64 (prE m l)])) w') : Cl Tryz.prog 23 [.agg (List.toArray (mc m))] w k := by
  refine f23_ok ?_
  unfold f23
  intro b7 w8 hb7 hw8
  have f8 : Fr Non w w8 := hw8 ▸ (Fr.refl Non w).alloc _
  have hM8 : Blk w8 b7 26 (mc m) := hb7 ▸ hw8 ▸ Blk.new w (mc m) 26
  have hS : SmM l := SmM_of hb
  have atsM : ∀ {w' : World} {m' : Mh} {b : Nat}, Blk w' b 26 (mc m') → cellsAt w' ⟨b, 0, none⟩ 0 (mc m') := fun h => h.ats _ 0 0 (fun q v hq => by simpa using hq)
  refine ⟨_, _, _, _, _, m.s, atsM hM8, tvalid_spec m l (hR.fr f8) hS hd fun w15 g15 => ⟨_, rfl, fun hv => ?_, fun hv => ?_⟩⟩
  · have hv : validM m l = false := by simpa using hv
    have := hk w15 (f8.trans' g15)
    have e : prE m l = 51 := by unfold prE; rw [hv]; rfl
    unfold prS at this
    rw [e] at this
    exact this
  have hv : validM m l = true := by simpa using hv
  have hok := okM_of hd hv
  have hcn := hok.can
  obtain ⟨d, hdm⟩ : ∃ d, d = dmM m := ⟨_, rfl⟩
  have hmd : mD d m.s = m := by rw [hdm]; exact mD_dm hd
  have hdv : dvs m = dvD d := by rw [← hmd]; rfl
  have ok : OkD d := by rw [hdm]; exact hok.sg
  have e0 : prE m l = if 65536 < (Go.V.printP d l).length then 2 else 0 := by unfold prE; rw [if_pos hv, hdm]
  have hM15 := hM8.fr g15 (fun h => h)
  refine ⟨_, _, _, _, _, ats5 hM15, ?_⟩
  intro b23 w24 hb23 hw24
  have g24 : Fr Non w15 w24 := hw24 ▸ (Fr.refl Non w15).alloc _
  have hZ24 : Blk w24 b23 23 [.int .u8 0, .int .u8 0, .int .u8 0, .int .u8 0, .int .u8 0] := hb23 ▸ hw24 ▸ Blk.new w15 _ _
  refine ⟨mayCells_of hZ24 0 5 (by simp), ?_⟩
  intro w25 hw25
  have g25 : Fr Non w15 w25 := upN g24 (hw25 ▸ (Fr.refl (fun g => g = b23) w24).setAll hZ24 (vs := dvs m) rfl (fun _ => rfl)) (fun g hg => by omega)
  have hD25 : Blk w25 b23 23 (dvD d) := by
    have : Blk w25 b23 23 (dvs m) := hw25 ▸ hZ24.setAll rfl
    rwa [hdv] at this
  intro b26 w27 hb26 hw27
  have g27 : Fr Non w25 w27 := hw27 ▸ (Fr.refl Non w25).alloc _
  have hC27 : Blk w27 b26 157 [.nilFunc] := hb26 ▸ hw27 ▸ Blk.new w25 _ _
  refine ⟨hC27.isS (by simp), hC27.free _, ?_⟩
  intro w28 hw28
  have g28 : Fr Non w25 w28 := upN g27 (hw28 ▸ (Fr.refl (fun g => g = b26) w27).set (a := ⟨b26, 0, none⟩) (fun _ => rfl) _) (fun g hg => by omega)
  have hC28 : Blk w28 b26 157 [.func (.func 163) #[] (List.toArray [.pointer (some ⟨b23, 0, none⟩)])] := hw28 ▸ hC27.set 0 _
  intro b29 w30 hb29 hw30
  have g30 : Fr Non w28 w30 := hw30 ▸ (Fr.refl Non w28).alloc _
  have hE30 : Blk w30 b29 159 [.nilFunc] := hb29 ▸ hw30 ▸ Blk.new w28 _ _
  refine ⟨hE30.isS (by simp), hE30.free _, ?_⟩
  intro w31 hw31
  have g31 : Fr Non w28 w31 := upN g30 (hw31 ▸ (Fr.refl (fun g => g = b29) w30).set (a := ⟨b29, 0, none⟩) (fun _ => rfl) _) (fun g hg => by omega)
  have hE31 : Blk w31 b29 159 [.func (.func 167) #[] (List.toArray [.pointer (some ⟨b23, 0, none⟩), .pointer (some ⟨b26, 0, none⟩)])] := hw31 ▸ hE30.set 0 _
  intro b32 w33 hb32 hw33
  have g33 : Fr Non w31 w33 := hw33 ▸ (Fr.refl Non w31).alloc _
  have hB33 : BdF w31.heap.size b32 [] Non w33 := hb32 ▸ BdF.new hw33
  have k33 : Fr Non w15 w33 := ((g25.trans' g28).trans' g31).trans' g33
  have hM33 := hM15.fr k33 (fun h => h)
  have hD33 := (hD25.fr g28 (fun h => h)).fr (g31.trans' g33) (fun h => h)
  have hC33 := hC28.fr (g31.trans' g33) (fun h => h)
  have hE33 := hE31.fr g33 (fun h => h)
  have f33 : Fr Non w w33 := (f8.trans' g15).trans' k33
  refine ⟨_, _, _, _, _, m.s, atsM hM33, canon_spec m l (hR.fr f33) hS fun y w40 hy g40 => ⟨_, _, _, _, _, y, rfl, ?_⟩⟩
  have hcb : bkM (canM l) ≤ BB := Nat.le_trans (bkM_can l) hb
  have hL := Own.len hy
  generalize hcl : canM l = cl at *
  have hS2 := SmM_of hcb
  have hn0 : cl.length ≤ 1099511627776 := hS2.1
  have hmem := fun g (hg : g ∈ cl) => bkL_mem (f := bkG) hg
  have hcb' : bkL bkG cl ≤ BB := hcb
  unfold BB at hcb'
  have hpr : prU d cl cl.length = Go.V.printP d l := by rw [← hcl]; exact prU_all d l
  have f40 := f33.trans' g40
  have s33 := g33.size
  have s40 := g40.size
  have l23 : b23 < w31.heap.size := (((hD25.fr g28 (fun h => h)).fr g31 (fun h => h))).lt
  have l26 : b26 < w31.heap.size := (hC28.fr g31 (fun h => h)).lt
  have l29 : b29 < w31.heap.size := hE31.lt
  have l32 : b32 < w33.heap.size := by rw [hw33, hb32]; simp
  have l32' : w31.heap.size ≤ b32 := by omega
  have lw : w.heap.size ≤ w31.heap.size := by
    have := (((f8.trans' g15).trans' g25).trans' g28).trans' g31
    exact this.size
  have hD40 := hD33.fr g40 (fun h => h)
  have hC40 := hC33.fr g40 (fun h => h)
  have hE40 := hE33.fr g40 (fun h => h)
  -- what may turn from here on
  obtain ⟨D, hDd⟩ : ∃ D : Nat → Prop, D = fun g => g = b32 ∨ w40.heap.size ≤ g := ⟨_, rfl⟩
  have nonD : ∀ {u u' : World}, Fr Non u u' → Fr D u u' := fun f => f.mono fun _ _ h => h.elim
  have wr : ∀ {u u' : World}, Fr (fun g => g = b32 ∨ w40.heap.size ≤ g) u u' → Fr D u u' := fun f => by rw [hDd]; exact f
  have dn : ∀ g, g < w31.heap.size → ¬ D g := fun g hg => by rw [hDd]; rintro (h | h) <;> omega
  have fin : ∀ {u : World}, Fr D w40 u → Fr Non w u := fun f => upN f40 f fun g hg => by rw [hDd] at hg; rcases hg with h | h <;> omega
  have md : ∀ {u : World} {t : Str}, w40.heap.size ≤ u.heap.size → ∀ {u' : World}, BdF w31.heap.size b32 t (fun g => w40.heap.size ≤ g ∨ u.heap.size ≤ g) u' → BdF w31.heap.size b32 t (fun g => w40.heap.size ≤ g) u' := by
    intro u t hz u' h
    exact h.mono fun g hg => by rcases hg with h | h <;> omega
  refine ⟨fun t i w' => ∃ j : Nat, i = j ∧ j ≤ cl.length ∧ t = cl.length - j ∧ BdF w31.heap.size b32 (prU d cl j) (fun g => w40.heap.size ≤ g) w' ∧ Fr D w40 w' ∧ (prU d cl j).length ≤ 65536, ⟨cl.length, 0, rfl, by omega, rfl, (hB33.fr g40 (fun h => h) (fun _ _ h => h)).mono (fun _ h => h.elim), Fr.refl _ _, by simp [prU]⟩, ?_⟩
  rintro t i w52 ⟨j, rfl, hj, rfl, hB52, f52, hlen⟩
  have z52 := f52.size
  refine ⟨fun h => ?_, fun h => ?_⟩
  · have hj : j < cl.length := by have := of_decide_eq_true h; omega
    have hy52 : OwM w52 y cl (fun b => w33.heap.size ≤ b ∧ b < w40.heap.size) := hy.fr (fun _ => EG.st) f52 fun b hb => by rw [hDd]; rintro (h | h) <;> omega
    obtain ⟨a, x, ha, hn, hx, hX⟩ := hy52.seg hj
    have hgm := hmem cl[j] (List.getElem_mem hj)
    have hln := lnAt_len d j cl[j]
    have hprj : prU d cl (j + 1) = prU d cl j ++ (lnAt d j cl[j] ++ [13]) := by
      show prU d cl j ++ _ = _
      rw [List.getElem?_eq_getElem hj]
    have hhd : j = 0 → ∃ r, (cl[j]).flds = one1' [d.f] :: one1' [d.c, d.r, d.e, d.s] :: r := by
      intro h0
      obtain ⟨g, gs, hg, _, ⟨r, hr⟩, _⟩ := hcn.hd
      rw [← hdm] at hr
      refine ⟨r, ?_⟩
      subst h0
      have : cl[0] = g := by simp [hg]
      rw [this]; exact hr
    have hbF : ∀ f ∈ (cl[j]).flds, bkF f ≤ BB := fun f hf => by
      have h1 := bkL_mem (f := bkF) hf
      have h2 : bkG cl[j] = bkS (cl[j]).name + bkL bkF (cl[j]).flds + 1 := rfl
      unfold BB; omega
    generalize cl[j] = g at *
    refine ⟨a, ha, ⟨by omega, by omega⟩, g.name, x, ⟨hn, hx, trivial⟩, ?_⟩
    intro b56 w57 hb56 hw57
    have g57 : Fr Non w52 w57 := hw57 ▸ (Fr.refl Non w52).alloc _
    have hG57 : Blk w57 b56 79 [.string (mkS []), .slice none 0 0] := hb56 ▸ hw57 ▸ Blk.new w52 _ _
    refine ⟨mayCells_of hG57 0 2 (by simp), ?_⟩
    intro w58 hw58
    have g58 : Fr Non w52 w58 := upN g57 (hw58 ▸ (Fr.refl (fun g => g = b56) w57).setAll hG57 (vs := [.string (mkS g.name), .slice x.base x.len x.cap]) rfl (fun _ => rfl)) (fun g hg => by omega)
    have hG58 : Blk w58 b56 79 [.string (mkS g.name), .slice x.base x.len x.cap] := hw58 ▸ hG57.setAll rfl
    have hB58 := hB52.fr g58 (fun h => h) (fun _ _ h => h)
    have z58 := g58.size
    refine ⟨x, by rw [add_mk]; exact hG58.cell rfl, ?_⟩
    have bl : ∀ {u : World} {b : Nat} {T : TypeId} {cs : List Value}, Blk w40 b T cs → b < w31.heap.size → Fr D w52 u → Blk u b T cs := fun h hb f => h.fr (f52.trans' f) (dn _ hb)
    have hFD : ∀ b, (w33.heap.size ≤ b ∧ b < w40.heap.size) → ¬ D b := fun b hb => by rw [hDd]; rintro (h | h) <;> omega
    refine ⟨fun s w' => ∃ (fl : List Fldt) (hd' : Str), hd' ++ fldsP d fl = lnAt d j g ∧ (∀ f ∈ fl, bkF f ≤ BB) ∧ fl.length ≤ g.flds.length ∧ PR D w' s fl ∧ BdF w31.heap.size b32 (prU d cl j ++ hd') (fun g => w40.heap.size ≤ g) w' ∧ Fr D w52 w', ?_, fun h0 => ?_, fun h0 => ?_⟩
    · rintro l61 w62 ⟨fl, hd', hh, hbf, hfg, hR62, hB62, f62⟩
      have hL2 := hR62.1
      have hfn : fl.length ≤ 1099511627776 := by
        have h1 := bkL_len (f := bkF) (fun a => bkL_pos _ a) g.flds
        have h2 : bkG g = bkS g.name + bkL bkF g.flds + 1 := rfl
        omega
      have hfl := flds_take d fl
      have hhl := congrArg List.length hh
      rw [List.length_append] at hhl
      refine ⟨fun t i w' => ∃ q : Nat, i = q ∧ q ≤ fl.length ∧ t = fl.length - q ∧ BdF w31.heap.size b32 (prU d cl j ++ hd' ++ fldsP d (fl.take q)) (fun g => w40.heap.size ≤ g) w' ∧ Fr D w62 w', ⟨fl.length, 0, rfl, by omega, rfl, by simpa [fldsP] using hB62, Fr.refl _ _⟩, ?_⟩
      rintro t i w84 ⟨q, rfl, hq, rfl, hB84, f84⟩
      have fz := f62.trans' f84
      have z84 := (f52.trans' fz).size
      refine ⟨fun h => ?_, fun h => ?_⟩
      · have hq : q < fl.length := by have := of_decide_eq_true h; omega
        obtain ⟨a2, z, ha2, hzu⟩ := hR62.2 q hq
        have hq1 := hfl (q + 1)
        have hpf := prF_len d fl[q]
        have hT : fldsP d (fl.take (q + 1)) = fldsP d (fl.take q) ++ d.f :: prF d fl[q] := by rw [take_snoc hq]; exact flds_snoc d _ _
        rw [hT, List.length_append, List.length_cons] at hq1
        refine ⟨a2, ha2, ⟨by omega, by omega⟩, z, (hzu _ f84).1, _, (bl hD40 l23 fz).cell rfl, ?_⟩
        refine wbyteF_spec d.f hB84 (by simp only [List.length_append]; omega) (by omega) fun w88 hB88 g88 => ⟨_, rfl, ?_⟩
        have f88 := f84.trans' (wr g88)
        have fz88 := f62.trans' f88
        have hB88 := md z84 hB88
        refine pF_spec d ok (bl hD40 l23 fz88) (bl hC40 l26 fz88) (bl hE40 l29 fz88) z fl[q] (hzu _ f88).2 (hbf _ (List.getElem_mem hq)) fun w91 g91 => ⟨_, rfl, ?_⟩
        have f91 := f88.trans' (nonD g91)
        have z91 := (f52.trans' (f62.trans' f91)).size
        refine wstrF_spec (prF d fl[q]) (hB88.fr g91 (fun h => h) (fun _ _ h => h)) (by simp only [List.length_append, List.length_cons, List.length_nil]; omega) (by omega) fun w94 hB94 g94 => ⟨_, _, rfl, fl.length - (q + 1), by omega, q + 1, by rw [w64_id (by omega) (by omega)]; push_cast; rfl, by omega, rfl, ?_, f91.trans' (wr g94)⟩
        have := md z91 hB94
        rw [hT]
        simpa using this
      · have hq : q = fl.length := by have := of_decide_eq_false h; omega
        subst hq
        rw [List.take_length, List.append_assoc, hh] at hB84
        refine wbyteF_spec 13 hB84 (by simp only [List.length_append]; omega) (by omega) fun w98 hB98 g98 => ⟨_, rfl, ?_⟩
        have hB98 := md z84 hB98
        rw [List.append_assoc, ← hprj] at hB98
        have f98 := f52.trans' (fz.trans' (wr g98))
        refine blen_spec hB98.bd ⟨_, rfl, fun hbig => ?_, fun hbig => ?_⟩
        · have hbig : 65536 < (prU d cl (j + 1)).length := by have := of_decide_eq_true hbig; omega
          have hle := prU_le d cl (j + 1) (cl.length - (j + 1))
          rw [show j + 1 + (cl.length - (j + 1)) = cl.length by omega, hpr] at hle
          have he : prE m l = 2 := by rw [e0, if_pos (by omega)]
          have := hk w98 (fin f98)
          unfold prS at this
          rw [he] at this
          exact this
        · exact ⟨cl.length - (j + 1), by omega, j + 1, by rw [w64_id (by omega) (by omega)]; push_cast; rfl, by omega, rfl, hB98, f98, by have := of_decide_eq_false hbig; omega⟩
    · have h0 : j = 0 := by simp at h0; omega
      obtain ⟨r, hr⟩ := hhd h0
      have hD58 := bl hD40 l23 (nonD g58)
      refine ⟨_, _, _, _, _, hD58.ats (dvD d) 0 0 (fun q v hq => by simpa using hq), dhead_spec d ok fun w68 g68 => ⟨_, rfl, ?_⟩⟩
      have f68 := g58.trans' g68
      have z68 := (f52.trans' (nonD f68)).size
      refine wstrF_spec [77, 83, 72, d.f, d.c, d.r, d.e, d.s] (hB52.fr f68 (fun h => h) (fun _ _ h => h)) (by simp only [List.length_cons, List.length_nil]; omega) (by omega) fun w71 hB71 g71 => ⟨_, _, rfl, ⟨by omega, ?_, trivial⟩, ?_⟩
      · have := Own.len hX; rw [hr] at this; simp at this; omega
      have f71 := (nonD f68).trans' (wr g71)
      refine ⟨g.flds.drop 2, _, ?_, fun f hf => hbF f (List.mem_of_mem_drop hf), by simp, ?_, md z68 hB71, f71⟩
      · unfold lnAt line0; rw [if_pos h0]
      · exact (PR.dropN (OwS.pr hX hFD) 2 (Own.le hX) (by rw [hr]; simp)).fr f71
    · have h0 : ¬ j = 0 := by simp at h0; omega
      refine ⟨g.name, hG58.cell rfl, wstrF_spec g.name hB58 (by have h2 : bkG g = bkS g.name + bkL bkF g.flds + 1 := rfl; unfold bkS at h2; omega) (by omega) fun w76 hB76 g76 => ⟨_, _, rfl, ?_⟩⟩
      have f76 := (nonD g58).trans' (wr g76)
      refine ⟨g.flds, _, ?_, hbF, Nat.le_refl _, (OwS.pr hX hFD).fr f76, md (by omega) hB76, f76⟩
      unfold lnAt lineR; rw [if_neg h0]
  · have hj : j = cl.length := by have := of_decide_eq_false h; omega
    subst hj
    rw [hpr] at hB52 hlen
    refine bstr_spec hB52.bd (by omega) fun w104 b104 => ⟨_, rfl, ?_⟩
    have he : prE m l = 0 := by rw [e0, if_neg (by omega)]
    have := hk w104 (belowFr' b104 lw (fin f52))
    unfold prS at this
    rw [he, if_pos rfl, ← hdm] at this
    exact this
end
end Go.Proofs.YthpeengmcjpknaaGreatDoor
