/- An event is taken off the reader. -/
import Derived.Test.YtmgmffoillbfeaaX4
set_option linter.unusedSimpArgs false
set_option linter.unusedVariables false
namespace Go.Proofs.Ytmgmffoillbfeaa
open Go.V Go.RowKit

theorem Fr.put {F : Nat → Prop} {w w1 : World} (h : Fr F w w1) {l : Nat} (hl : l < w.heap.size → F l) (o : Obj) : Fr F w (w1.putObj l o) :=
  ⟨h.os, h.tape, h.output, by simp [World.putObj]; exact h.size, fun b hb hF => by
    have hne : b ≠ l := fun e => by subst e; exact hF (hl hb)
    rw [World.putObj_heap_other hne]; exact h.blk b hb hF⟩
theorem Fr.put1 (w : World) (l : Nat) (o : Obj) : Fr (fun g => g = l) w (w.putObj l o) := Fr.put (Fr.refl (fun g => g = l) w) (fun _ => rfl) o
theorem LpAt.fr {F : Nat → Prop} {w w1 : World} {l : Nat} {L : Loop} {st : LoopState} {pd : Option Code} (h : LpAt w l L st pd) (e : Fr F w w1) (hl : ¬ F l) : LpAt w1 l L st pd := Fr.heap e h hl
theorem LpAt.put {w : World} {l : Nat} {L : Loop} {st : LoopState} {pd : Option Code} (h : LpAt w l L st pd) (st' : LoopState) (pd' : Option Code) : LpAt (w.putObj l (.loop { L with state := st', pending := pd' })) l L st' pd' :=
  World.putObj_heap_same (Array.getElem?_eq_some_iff.1 h).1

theorem tN36 : IsFn Try.prog 36 := .mk (by kernel_rfl)
theorem all1_spec {yv : Value} {c b : Nat} {r : RS} {F : Nat → Prop} {w : World} {k : Value → World → Prop} (hc : Blk w c 26 [.pointer (some ⟨b, 0, none⟩)]) (h : Rep 45 67 w b r F) (hcF : ¬ F c)
    (h0 : r.evs = [] → k (.tuple #[]) w)
    (h1 : ∀ x l, r.evs = x :: l → ∀ w2, Rep 45 67 w2 b { r with evs := l } F → Fr F w w2 → Cv Try.prog yv [.agg (List.toArray (evc x))] w2 (fun v w3 => v = .bool false ∧ k (.tuple #[]) w3)) :
    Cl Try.prog 36 [yv, .pointer (some ⟨c, 0, none⟩)] w k := by
  refine f36_ok ?_
  unfold f36
  refine ⟨fun m w6 => w6 = w ∧ m = 1, ⟨1, rfl, rfl⟩, ?_⟩
  rintro m w6 ⟨hw, hm⟩
  subst hw hm
  obtain ⟨i, e, A, B, hx⟩ := h.x
  have hb := hx.blk
  have hel := hx.elen
  refine ⟨_, hc.cell rfl, _, rfl, e, by rw [add_mk]; exact hb.cell rfl, fun hlt => ?_, fun hge => ?_⟩
  case refine_2 =>
    have : r.evs.length = 0 := by have := of_decide_eq_false hge; omega
    exact h0 (List.eq_nil_of_length_eq_zero this)
  have hlt := of_decide_eq_true hlt
  obtain ⟨x, l, hev⟩ : ∃ x l, r.evs = x :: l := by
    cases hr : r.evs with
    | nil => rw [hr] at hel; simp at hel; omega
    | cons x l => exact ⟨x, l, rfl⟩
  refine ⟨_, hc.cell rfl, _, rfl, e, by rw [add_mk]; exact hb.cell rfl, ?_⟩
  obtain ⟨⟨a, ha, hcell⟩, _⟩ := hx.popEv hev
  refine ⟨a, ha, ⟨by omega, by omega⟩, x.1, x.2, hcell, ?_⟩
  rintro b16 w17 rfl rfl
  have hn := Blk.new w6 [.string (mkS []), .int .i64 0] 67
  refine ⟨mayCells_of hn 0 2 (by simp), ?_⟩
  rintro w18 rfl
  have hn2 := hn.setAll (vs := evc x) rfl
  have hf18 : Fr Non w6 (setCells (w6.alloc (.cells (List.toArray [.string (mkS []), .int .i64 0]) 67)) ⟨w6.heap.size, 0, none⟩ 0 (evc x)) := ((Fr.refl Non w6).alloc _).setAll hn rfl (fun h => absurd h (Nat.lt_irrefl _))
  rintro w19 rfl
  have hf19 := hf18.drew
  have hx19 := hx.fr hf19 (fun _ _ h => h)
  have hc19 := hc.fr hf19 (fun h => h)
  refine ⟨_, hc19.cell rfl, _, hc19.cell rfl, _, rfl, e, by rw [add_mk]; exact hx19.blk.cell rfl, ⟨by omega, by omega, trivial⟩, _, rfl, by rw [add_mk]; exact hx19.blk.isS (by simp), by rw [add_mk]; exact hx19.blk.free 3, ?_⟩
  rw [add_mk]
  rintro w25 rfl
  have hp := (hx19.popEv hev).2
  have hne : w6.heap.size ≠ b := by have := h.lt h.own; omega
  have hn3 := (hn2.drew.fr (setF b 3 (.slice (slS e 2 1 e.len).base (slS e 2 1 e.len).len (slS e 2 1 e.len).cap)) hne)
  refine ⟨x.1, x.2, hn3.ats (evc x) 0 0 (fun j v hj => by simpa using hj), ?_⟩
  refine (h1 x l hev _ hp ((hf19.mono (fun _ _ h => h.elim)).set (a := ⟨b, 0 + 3, none⟩) (fun _ => h.own) _)).mono ?_
  rintro v w3 ⟨rfl, hk⟩
  exact ⟨false, rfl, fun _ => hk, fun h => by simp at h⟩

/-- What Next hands back. -/
def nxt (l : List (Str × Int)) : Value := match l with
  | [] => .tuple (List.toArray [.string (mkS []), .int .i64 0, .bool false])
  | x :: _ => .tuple (List.toArray [.string (mkS x.1), .int .i64 x.2, .bool true])
set_option maxHeartbeats 1000000 in
theorem next_spec {w : World} {k : Value → World → Prop} {b : Nat} {r : RS} {F : Nat → Prop} (h : Rep 45 67 w b r F)
    (hk : ∀ w', Rep 45 67 w' b { r with evs := r.evs.tail } F → Fr F w w' → k (nxt r.evs) w') : Cl Try.prog 20 [.pointer (some ⟨b, 0, none⟩)] w k := by
  refine f20_ok ?_
  unfold f20
  rintro b2 w1 rfl hw1 b4 w2 rfl hw2 b6 w3 rfl hw3
  refine ⟨fun h => by simp at h, fun _ => ?_⟩
  refine f32_ok ?_
  unfold f32
  rintro c w4 rfl hw4
  -- the three results' cells, the captured pointer
  have z1 : w1.heap.size = w.heap.size + 1 := by rw [hw1]; simp
  have f1 : Fr Non w w1 := hw1 ▸ (Fr.refl Non w).alloc _
  have hA : Blk w1 w.heap.size 9 [.string (mkS [])] := hw1 ▸ Blk.new w [.string (mkS [])] 9
  have z2 : w2.heap.size = w.heap.size + 2 := by rw [hw2]; simp [z1]
  have f2 : Fr Non w w2 := hw2 ▸ f1.alloc _
  have hA2 : Blk w2 w.heap.size 9 [.string (mkS [])] := hw2 ▸ hA.alloc _
  have hB : Blk w2 w1.heap.size 3 [.int .i64 0] := hw2 ▸ Blk.new w1 [.int .i64 0] 3
  have z3 : w3.heap.size = w.heap.size + 3 := by rw [hw3]; simp [z2]
  have f3 : Fr Non w w3 := hw3 ▸ f2.alloc _
  have hA3 : Blk w3 w.heap.size 9 [.string (mkS [])] := hw3 ▸ hA2.alloc _
  have hB3 : Blk w3 w1.heap.size 3 [.int .i64 0] := hw3 ▸ hB.alloc _
  have hC : Blk w3 w2.heap.size 4 [.bool false] := hw3 ▸ Blk.new w2 [.bool false] 4
  have z4 : w4.heap.size = w.heap.size + 4 := by rw [hw4]; simp [z3]
  have f4 : Fr Non w w4 := hw4 ▸ f3.alloc _
  have hA4 : Blk w4 w.heap.size 9 [.string (mkS [])] := hw4 ▸ hA3.alloc _
  have hB4 : Blk w4 w1.heap.size 3 [.int .i64 0] := hw4 ▸ hB3.alloc _
  have hC4 : Blk w4 w2.heap.size 4 [.bool false] := hw4 ▸ hC.alloc _
  have hD : Blk w4 w3.heap.size 26 [.pointer (some ⟨b, 0, none⟩)] := hw4 ▸ Blk.new w3 [.pointer (some ⟨b, 0, none⟩)] 26
  refine ⟨_, rfl, ?_⟩
  rintro l L rr w5 rfl rfl hw5 hL hY
  have g5 : Fr Non w4 w5 := hw5 ▸ ((Fr.refl Non w4).alloc _).alloc _
  have z5 : w5.heap.size = w.heap.size + 6 := by rw [hw5]; simp [z4]
  have hdf : w5.heap[w4.heap.size]? = some (.deferred (some [])) := by
    rw [hw5]; exact (Below.heap_alloc _ _ _ (by simp)).trans (World.alloc_heap_new w4 _)
  have f5 : Fr Non w w5 := f4.trans g5 (fun _ _ h => h)
  have hA5 := hA4.fr g5 (fun h => h)
  have hB5 := hB4.fr g5 (fun h => h)
  have hC5 := hC4.fr g5 (fun h => h)
  have hD5 := hD.fr g5 (fun h => h)
  have hR5 := h.fr f5 (fun _ _ h => h)
  have hlt : ∀ g, F g → g < w.heap.size := fun g hg => h.lt hg
  refine ⟨36, [.pointer (some ⟨w3.heap.size, 0, none⟩)], rfl, tN36, ?_⟩
  refine all1_spec hD5 hR5 (fun hF => by have := hlt _ hF; omega) ?_ ?_
  · -- no event
    intro hev
    refine ⟨_, _, hL, by simp, ?_⟩
    rintro w6 hw6
    refine .inl ⟨rfl, ?_⟩
    have p1 := Fr.put1 w5 (w4.heap.size + 1) (.loop { L with state := .exhausted, pending := none })
    rw [← hw6] at p1
    have f6 : Fr Non w w6 := f5.trans p1 (fun b hb e => by omega)
    have hA6 := hA5.fr p1 (by omega)
    have hB6 := hB5.fr p1 (by omega)
    have hC6 := hC5.fr p1 (by omega)
    have hd6 := Fr.heap p1 hdf (by omega)
    refine ⟨hA6.isS (by simp), hA6.free 0, ?_⟩
    rintro w40 rfl
    have q1 := setF (w := w6) w.heap.size 0 (.string (mkS []))
    have hB7 := hB6.fr q1 (by omega)
    refine ⟨hB7.isS (by simp), hB7.free 0, ?_⟩
    rintro w41 rfl
    have q2 := setF (w := w6.setCell ⟨w.heap.size, 0, none⟩ (.string (mkS []))) w1.heap.size 0 (.int .i64 0)
    have hC8 := (hC6.fr q1 (by omega)).fr q2 (by omega)
    refine ⟨hC8.isS (by simp), hC8.free 0, ?_⟩
    rintro w42 rfl
    have q3 := setF (w := (w6.setCell ⟨w.heap.size, 0, none⟩ (.string (mkS []))).setCell ⟨w1.heap.size, 0, none⟩ (.int .i64 0)) w2.heap.size 0 (.bool false)
    have hd9 := Fr.heap q3 (Fr.heap q2 (Fr.heap q1 hd6 (by omega)) (by omega)) (by omega)
    have hA9 := ((hA6.set 0 (.string (mkS []))).fr q2 (by omega)).fr q3 (by omega)
    have hB9 := (hB7.set 0 (.int .i64 0)).fr q3 (by omega)
    have hC9 := hC8.set 0 (.bool false)
    refine ⟨[], 0, false, hd9, ?_⟩
    rintro w46 rfl
    have q4 := Fr.put1 (((w6.setCell ⟨w.heap.size, 0, none⟩ (.string (mkS []))).setCell ⟨w1.heap.size, 0, none⟩ (.int .i64 0)).setCell ⟨w2.heap.size, 0, none⟩ (.bool false)) w4.heap.size (.deferred none)
    refine ⟨(hA9.fr q4 (by omega)).cell rfl, (hB9.fr q4 (by omega)).cell rfl, (hC9.fr q4 (by omega)).cell rfl, ?_⟩
    have hfin := (((f6.trans q1 (G := fun g => g = w.heap.size) (fun b hb e => by omega)).trans q2 (fun b hb e => by omega)).trans q3 (fun b hb e => by omega)).trans q4 (fun b hb e => by omega)
    have er : ({ r with evs := r.evs.tail } : RS) = r := by cases r; simp at hev; simp [hev]
    have := hk _ (by rw [er]; exact h.fr hfin (fun _ _ h => h)) (hfin.mono (fun _ _ h => h.elim))
    rw [hev] at this; exact this
  · -- the first event
    intro x l hev w21 hR21 hf21
    have hL21 := LpAt.fr hL hf21 (fun hF => by have := hlt _ hF; omega)
    have hd21 := Fr.heap hf21 hdf (fun hF => by have := hlt _ hF; omega)
    have hA21 := hA5.fr hf21 (fun hF => by have := hlt _ hF; omega)
    have hB21 := hB5.fr hf21 (fun hF => by have := hlt _ hF; omega)
    have hC21 := hC5.fr hf21 (fun hF => by have := hlt _ hF; omega)
    have fF : Fr F w w21 := (f5.mono (fun _ _ h => h.elim)).trans' hf21
    have z21 : w.heap.size + 6 ≤ w21.heap.size := z5 ▸ hf21.size
    refine hY x.1 x.2 w21 _ ⟨⟨_, hL21⟩, ?_⟩
    rintro b27 w28 rfl hw28
    have hn : Blk w28 w21.heap.size 67 [.string (mkS []), .int .i64 0] := hw28 ▸ Blk.new w21 [.string (mkS []), .int .i64 0] 67
    refine ⟨mayCells_of hn 0 2 (by simp), ?_⟩
    rintro w29 hw29
    have g28 : Fr Non w21 w28 := hw28 ▸ (Fr.refl Non w21).alloc _
    have hn2 : Blk w29 w21.heap.size 67 (evc x) := hw29 ▸ hn.setAll (vs := evc x) rfl
    have g29 : Fr Non w21 w29 := hw29 ▸ g28.setAll hn (vs := evc x) rfl (fun h => absurd h (Nat.lt_irrefl _))
    have hL29 := LpAt.fr hL21 g29 (fun h => h)
    refine ⟨_, hL29, ?_⟩
    rintro w24 rfl
    rintro w30 hw30
    have g30 := (Fr.put1 w29 (w4.heap.size + 1) (.loop { L with state := .busy, pending := none })).drew
    have hL30 := LpAt.put hL29 .busy none
    have hL30 : LpAt w30 (w4.heap.size + 1) L .busy none := by rw [hw30]; exact hL30
    rw [← hw30] at g30
    have hn30 := hn2.fr g30 (by omega)
    have hA30 := (hA21.fr g29 (fun h => h)).fr g30 (by omega)
    have hB30 := (hB21.fr g29 (fun h => h)).fr g30 (by omega)
    have hC30 := (hC21.fr g29 (fun h => h)).fr g30 (by omega)
    have hd30 := Fr.heap g30 (Fr.heap g29 hd21 (fun h => h)) (by omega)
    have hR30 := (hR21.fr g29 (fun _ _ h => h)).fr g30 (fun g hg e => by have := hlt g hg; omega)
    have fF30 : Fr F w w30 := (fF.trans g29 (fun _ _ h => h.elim)).trans g30 (fun g hg e => by omega)
    refine ⟨x.1, by simp; omega, hn30.cell rfl, x.2, by rw [add_mk]; simp; omega, by rw [add_mk]; exact hn30.cell rfl, hA30.isS (by simp), hA30.free 0, ?_⟩
    rintro w33 rfl
    have q1 := setF (w := w30) w.heap.size 0 (.string (mkS x.1))
    have hB7 := hB30.fr q1 (by omega)
    refine ⟨hB7.isS (by simp), hB7.free 0, ?_⟩
    rintro w34 rfl
    have q2 := setF (w := w30.setCell ⟨w.heap.size, 0, none⟩ (.string (mkS x.1))) w1.heap.size 0 (.int .i64 x.2)
    have hC8 := (hC30.fr q1 (by omega)).fr q2 (by omega)
    refine ⟨hC8.isS (by simp), hC8.free 0, ?_⟩
    rintro w35 rfl
    have q3 := setF (w := (w30.setCell ⟨w.heap.size, 0, none⟩ (.string (mkS x.1))).setCell ⟨w1.heap.size, 0, none⟩ (.int .i64 x.2)) w2.heap.size 0 (.bool true)
    have hd9 := Fr.heap q3 (Fr.heap q2 (Fr.heap q1 hd30 (by omega)) (by omega)) (by omega)
    have hL9 := LpAt.fr (LpAt.fr (LpAt.fr hL30 q1 (by omega)) q2 (by omega)) q3 (by omega)
    have hA9 := ((hA30.set 0 (.string (mkS x.1))).fr q2 (by omega)).fr q3 (by omega)
    have hB9 := (hB7.set 0 (.int .i64 x.2)).fr q3 (by omega)
    have hC9 := hC8.set 0 (.bool true)
    have hR9 := ((hR30.fr q1 (fun g hg e => by have := hlt g hg; omega)).fr q2 (fun g hg e => by have := hlt g hg; omega)).fr q3 (fun g hg e => by have := hlt g hg; omega)
    have f9 : Fr F w _ := ((fF30.trans q1 (fun g hg e => by omega)).trans q2 (fun g hg e => by omega)).trans q3 (fun g hg e => by omega)
    obtain ⟨w9, hw9⟩ : ∃ w9, w9 = ((w30.setCell ⟨w.heap.size, 0, none⟩ (.string (mkS x.1))).setCell ⟨w1.heap.size, 0, none⟩ (.int .i64 x.2)).setCell ⟨w2.heap.size, 0, none⟩ (.bool true) := ⟨_, rfl⟩
    rw [← hw9] at hd9 hL9 hA9 hB9 hC9 hR9 f9 ⊢
    refine ⟨_, _, hL9, ?_⟩
    rintro w36 rfl
    refine ⟨rfl, ?_⟩
    have hL10 := LpAt.put hL9 .done (some .ret)
    have q5 := Fr.put1 w9 (w4.heap.size + 1) (.loop { L with state := .done, pending := some .ret })
    refine ⟨_, _, hL10, by simp, ?_⟩
    rintro w37 rfl
    refine .inr ⟨rfl, ?_⟩
    have q6 := Fr.put1 (w9.putObj (w4.heap.size + 1) (.loop { L with state := .done, pending := some .ret })) (w4.heap.size + 1) (.loop { L with state := .exhausted, pending := some .ret })
    have hd11 := Fr.heap q6 (Fr.heap q5 hd9 (by omega)) (by omega)
    refine ⟨x.1, x.2, true, hd11, ?_⟩
    rintro w50 rfl
    have q7 := Fr.put1 ((w9.putObj (w4.heap.size + 1) (.loop { L with state := .done, pending := some .ret })).putObj (w4.heap.size + 1) (.loop { L with state := .exhausted, pending := some .ret })) w4.heap.size (.deferred none)
    refine ⟨(((hA9.fr q5 (by omega)).fr q6 (by omega)).fr q7 (by omega)).cell rfl, (((hB9.fr q5 (by omega)).fr q6 (by omega)).fr q7 (by omega)).cell rfl, (((hC9.fr q5 (by omega)).fr q6 (by omega)).fr q7 (by omega)).cell rfl, ?_⟩
    have hR12 := ((hR9.fr q5 (fun g hg e => by have := hlt g hg; omega)).fr q6 (fun g hg e => by have := hlt g hg; omega)).fr q7 (fun g hg e => by have := hlt g hg; omega)
    have f12 := ((f9.trans q5 (fun g hg e => by omega)).trans q6 (fun g hg e => by omega)).trans q7 (fun g hg e => by omega)
    have := hk _ (by rw [hev]; exact hR12) f12
    rw [hev] at this; exact this
end Go.Proofs.Ytmgmffoillbfeaa
