/- A message that is lent: marks stand behind its lists. -/
import Derived.Test.YthpeengmcjpknaaGreatDoorPN4
import Derived.Test.YthpeengmcjpknaaGreatDoorPVR
set_option linter.unusedSimpArgs false
set_option linter.unusedVariables false
namespace Go.Proofs.YthpeengmcjpknaaGreatDoor
open Go.V Go.RowKit
def ELC : EP Cmp := LentE 9 1 EStr EStr mrk
def ELR : EP Rept := LentE 80 1 ELC EC [mrk]
def ELF : EP Fldt := LentE 38 1 ELR ER [[mrk]]
def ELG : EP Seg := fun w cs g o => ∃ v, cs = [.string (mkS g.name), v] ∧ LentE 44 1 ELF EF [[[mrk]]] w [v] g.flds o
def ELM : EP (List Seg) := LentE 79 2 ELG EG ⟨mrk, []⟩
theorem ELC.st : ESt ELC := LentE.st EStr.st EStr.st
theorem ELR.st : ESt ELR := LentE.st ELC.st EC.st
theorem ELF.st : ESt ELF := LentE.st ELR.st ER.st
theorem ELG.st : ESt ELG := fun w w' cs x o e h => by
  obtain ⟨v, h1, h2⟩ := h
  exact ⟨v, h1, LentE.st ELF.st EF.st _ _ _ _ _ e h2⟩
theorem markC {w : World} {b : Nat} (hB : Blk w b 9 [.string (mkS mrk)]) : OwC w ⟨some ⟨b, 0, none⟩, 1, 1⟩ [mrk] (fun c => c = b) :=
  (Own.one (E := EStr) (ox := fun _ => False) hB rfl (by intro v hv; simp at hv; subst hv; rfl) rfl (fun c h => h.elim)).mono fun c hc => hc.elim id False.elim
theorem markR {w : World} {b c : Nat} (hB : Blk w b 9 [.string (mkS mrk)]) (hC : Blk w c 80 [.slice (some ⟨b, 0, none⟩) 1 1]) (hbc : b ≠ c) : OwR w ⟨some ⟨c, 0, none⟩, 1, 1⟩ [[mrk]] (fun d => d = c ∨ d = b) :=
  Own.one (E := EC) (ox := fun d => d = b) hC rfl (by intro v hv; simp at hv; subst hv; rfl) ⟨⟨some ⟨b, 0, none⟩, 1, 1⟩, rfl, markC hB⟩ (fun d hd => ⟨by subst hd; exact hB.lt, by omega⟩)
theorem markF {w : World} {b c d : Nat} (hB : Blk w b 9 [.string (mkS mrk)]) (hC : Blk w c 80 [.slice (some ⟨b, 0, none⟩) 1 1]) (hD : Blk w d 38 [.slice (some ⟨c, 0, none⟩) 1 1]) (hbc : b < c) (hcd : c < d) : OwF w ⟨some ⟨d, 0, none⟩, 1, 1⟩ [[[mrk]]] (fun e => e = d ∨ e = c ∨ e = b) :=
  Own.one (E := ER) (ox := fun e => e = c ∨ e = b) hD rfl (by intro v hv; simp at hv; subst hv; rfl) ⟨⟨some ⟨c, 0, none⟩, 1, 1⟩, rfl, markR hB hC (by omega)⟩ (fun e he => by have := hB.lt; have := hC.lt; omega)
theorem lt_succ_if {α : Type} {E E0 : EP α} {c j : Nat} : (if j = c then E else if j < c then E else E0) = if j < c + 1 then E else E0 := by
  by_cases h1 : j = c
  · rw [if_pos h1, if_pos (by omega)]
  · by_cases h2 : j < c
    · rw [if_neg h1, if_pos h2, if_pos (by omega)]
    · rw [if_neg h1, if_neg h2, if_neg (by omega)]
theorem up_if {α : Type} {T : TypeId} {sz : Nat} {E E0 : EP α} {w : World} {s : Sl} {l l' : List α} {F F' : Nat → Prop} {c : Nat} (h : Own T sz (fun j => if j = c then E else if j < c then E else E0) w s l F) (hl : l = l') (hF : ∀ b, F b → F' b) : Own T sz (fun j => if j < c + 1 then E else E0) w s l' F' := by
  subst hl
  exact (h.congr fun i hi w cs x o he => by rw [lt_succ_if] at he; exact he).mono hF
theorem all_if {α : Type} {T : TypeId} {sz : Nat} {E E0 : EP α} {w : World} {s : Sl} {l : List α} {F : Nat → Prop} (h : Own T sz (fun j => if j < l.length then E else E0) w s l F) : Own T sz (fun _ => E) w s l F :=
  h.congr fun i hi w cs x o he => by rw [if_pos hi] at he; exact he
theorem none_if {α : Type} {T : TypeId} {sz : Nat} {E E0 : EP α} {w : World} {s : Sl} {l : List α} {F : Nat → Prop} (h : Own T sz (fun _ => E0) w s l F) : Own T sz (fun j => if j < 0 then E else E0) w s l F :=
  h.congr fun i hi w cs x o he => by rw [if_neg (by omega)]; exact he
theorem exs_of {S : Nat → Prop} {w w' : World} (f : Fr S w w') : Exs S w w' := ⟨f.size, fun b hb hs => f.blk b hb hs⟩
section
variable {w : World} {k : Value → World → Prop}
set_option maxHeartbeats 4000000 in
theorem lent_spec (m : Mh) (l : List Seg) (hR : RM w m.s l) (hS : SmM l) (hk : ∀ (y : Sl) w', ELM w' [.slice y.base y.len y.cap] l (fun b => w.heap.size ≤ b) → Fr Non w w' → k (.agg (List.toArray (mc { m with s := y }))) w') : Cl Tryz.prog 11 [.agg (List.toArray (mc m))] w k := by
  refine f11_ok ?_
  unfold f11
  intro b7 w8 hb7 hw8 b9 w10 hb9 hw10
  have f8 : Fr Non w w8 := hw8 ▸ (Fr.refl Non w).alloc _
  have f10 : Fr Non w w10 := hw10 ▸ f8.alloc _
  have hM8 : Blk w8 b7 26 (mc m) := hb7 ▸ hw8 ▸ Blk.new w (mc m) 26
  have hM10 : Blk w10 b7 26 (mc m) := hw10 ▸ hM8.alloc _
  have hZ10 : Blk w10 b9 26 (mc ⟨0, 0, 0, 0, 0, ⟨none, 0, 0⟩⟩) := hb9 ▸ hw10 ▸ Blk.new w8 _ _
  have z7 : w.heap.size = b7 := hb7.symm
  have l7 := hM8.lt
  have l9 := hZ10.lt
  refine ⟨m.d1, m.d2, m.d3, m.d4, m.d5, m.s, hM10.ats (mc m) 0 0 (fun q v hq => by simpa using hq), copy_spec m l (hR.fr f10) hS fun s w17 ho17 f17 => ⟨m.d1, m.d2, m.d3, m.d4, m.d5, s, rfl, ?_⟩⟩
  have hM17 := hM10.fr f17 (fun h => h)
  have hZ17 := hZ10.fr f17 (fun h => h)
  refine ⟨mayCells_of hM17 0 6 (by simp [mc]), ?_⟩
  intro w25 hw25
  have g25 : Fr (fun g => g = b7) w17 w25 := hw25 ▸ (Fr.refl (fun g => g = b7) w17).setAll hM17 (vs := mc { m with s := s }) rfl (fun _ => rfl)
  have hM25 : Blk w25 b7 26 (mc { m with s := s }) := hw25 ▸ hM17.setAll rfl
  have hZ25 : Blk w25 b9 26 (mc ⟨0, 0, 0, 0, 0, ⟨none, 0, 0⟩⟩) := hZ17.fr g25 (by omega)
  have f25 : Fr Non w w25 := upN (f10.trans' f17) g25 (fun g hg => by omega)
  have z17 := f17.size
  have z25 := g25.size
  have ho25 : OwM w25 s l (fun b => w10.heap.size ≤ b) := ho17.fr (fun _ => EG.st) g25 (fun b hb => by omega)
  have hsl := ho17.len
  obtain ⟨hS0, hSG⟩ := hS
  unfold BB at hS0
  have hmc : ∀ {w' : World}, Blk w' b7 26 (mc { m with s := s }) → w'.cell? ((⟨b7, 0, none⟩ : Addr).add 5) = some (.slice s.base s.len s.cap) := fun h => by rw [add_mk]; exact h.cell rfl
  refine ⟨fun t i w' => ∃ j : Nat, i = j ∧ j ≤ l.length ∧ t = l.length - j ∧ Own 79 2 (fun q => if q < j then ELG else EG) w' s l (fun b => w10.heap.size ≤ b) ∧ Blk w' b7 26 (mc { m with s := s }) ∧ Blk w' b9 26 (mc ⟨0, 0, 0, 0, 0, ⟨none, 0, 0⟩⟩) ∧ Fr Non w w' ∧ w10.heap.size ≤ w'.heap.size,
    ⟨l.length, 0, rfl, by omega, by omega, none_if ho25, hM25, hZ25, f25, by omega⟩, ?_⟩
  rintro t i w30 ⟨j, rfl, hj, rfl, hO, hM, hZ, f30, s30⟩
  refine ⟨s, hmc hM, fun h => ?_, fun h => ?_⟩
  · have hj : j < l.length := by have := of_decide_eq_true h; omega
    obtain ⟨a, cx, oi, ha, haF, haL, hao, hel, hoi, _, hcell, hclose⟩ := hO.upd (if_st ELG.st EG.st j) (by omega) hj
    rw [if_neg (by omega)] at hel
    obtain ⟨x, rfl, hX⟩ := hel
    have hc1 : w30.cell? ((a.add (j * 2)).add 1) = some (.slice x.base x.len x.cap) := hcell 1 _ (by omega) rfl
    have hb1 : ((a.add (j * 2)).add 1).block = a.block := by rw [block_add, block_add]
    obtain ⟨_, hS1, hSF⟩ := hSG _ (List.getElem_mem hj)
    unfold BB at hS1
    have hself : l.set j l[j] = l := List.set_getElem_self hj
    generalize hg : l[j] = g at hX hS1 hSF hself hclose
    have hXL := hX.len
    refine ⟨s, hmc hM, a, ha, ⟨by omega, by omega⟩, fun t i w' => ∃ q : Nat, i = q ∧ q ≤ g.flds.length ∧ t = g.flds.length - q ∧ Own 44 1 (fun p => if p < q then ELF else EF) w' x g.flds (fun b => oi b ∨ w30.heap.size ≤ b) ∧ Fr oi w30 w',
      ⟨g.flds.length, 0, rfl, by omega, by omega, none_if (hX.mono fun b hb => .inl hb), Fr.refl _ _⟩, ?_⟩
    rintro t i w38 ⟨q, rfl, hq, rfl, hX38, f38⟩
    have c38 : w38.cell? ((a.add (j * 2)).add 1) = some (.slice x.base x.len x.cap) := f38.cell hc1 (by rw [hb1]; exact hao)
    have z38 := f38.size
    refine ⟨x, c38, fun h => ?_, fun h => ?_⟩
    · have hq : q < g.flds.length := by have := of_decide_eq_true h; omega
      obtain ⟨a2, cx2, oq, ha2, ha2F, ha2L, ha2o, hel2, hoq, _, hcell2, hclose2⟩ := hX38.upd (if_st ELF.st EF.st q) (by omega) hq
      rw [if_neg (by omega)] at hel2
      obtain ⟨y, rfl, hY⟩ := hel2
      have hc2 : w38.cell? (a2.add (q * 1)) = some (.slice y.base y.len y.cap) := hcell2 0 _ (by omega) rfl
      have hb2 : (a2.add (q * 1)).block = a2.block := block_add _ _
      have n2a : ¬ oq a.block := fun hh => by rcases (hoq _ hh).1 with h1 | h1; exact hao h1; omega
      obtain ⟨hS2, hSR⟩ := hSF _ (List.getElem_mem hq)
      unfold BB at hS2
      have hself2 : g.flds.set q g.flds[q] = g.flds := List.set_getElem_self hq
      generalize hfd : g.flds[q] = fd at hY hS2 hSR hself2 hclose2
      have hYL := hY.len
      have B2 : (0 : Int) ≤ (q : Int) ∧ (q : Int) < (x.len : Int) := ⟨by omega, by omega⟩
      refine ⟨fun t i w' => ∃ r : Nat, i = r ∧ r ≤ fd.length ∧ t = fd.length - r ∧ Own 38 1 (fun p => if p < r then ELR else ER) w' y fd (fun b => oq b ∨ w38.heap.size ≤ b) ∧ Fr oq w38 w',
        ⟨fd.length, 0, rfl, by omega, by omega, none_if (hY.mono fun b hb => .inl hb), Fr.refl _ _⟩, ?_⟩
      rintro t i w44 ⟨r, rfl, hr, rfl, hY44, f44⟩
      have c44a := f44.cell c38 (by rw [hb1]; exact n2a)
      have c44b := f44.cell hc2 (by rw [hb2]; exact ha2o)
      have z44 := f44.size
      refine ⟨x, c44a, a2, ha2, B2, y, c44b, fun h => ?_, fun h => ?_⟩
      · have hr : r < fd.length := by have := of_decide_eq_true h; omega
        obtain ⟨a3, cx3, or, ha3, ha3F, ha3L, ha3o, hel3, hor, _, hcell3, hclose3⟩ := hY44.upd (if_st ELR.st ER.st r) (by omega) hr
        rw [if_neg (by omega)] at hel3
        obtain ⟨z, rfl, hZ3⟩ := hel3
        have hc3 : w44.cell? (a3.add (r * 1)) = some (.slice z.base z.len z.cap) := hcell3 0 _ (by omega) rfl
        have hb3 : (a3.add (r * 1)).block = a3.block := block_add _ _
        have n3a : ¬ or a.block := fun hh => by rcases (hor _ hh).1 with h1 | h1; exact n2a h1; omega
        have n3b : ¬ or a2.block := fun hh => by rcases (hor _ hh).1 with h1 | h1; exact ha2o h1; omega
        obtain ⟨hS3, hSC⟩ := hSR _ (List.getElem_mem hr)
        unfold BB at hS3
        have hself3 : fd.set r fd[r] = fd := List.set_getElem_self hr
        generalize hrp : fd[r] = rp at hZ3 hS3 hSC hself3 hclose3
        have hZL := hZ3.len
        have B3 : (0 : Int) ≤ (r : Int) ∧ (r : Int) < (y.len : Int) := ⟨by omega, by omega⟩
        refine ⟨fun t i w' => ∃ c : Nat, i = c ∧ c ≤ rp.length ∧ t = rp.length - c ∧ Own 80 1 (fun p => if p < c then ELC else EC) w' z rp (fun b => or b ∨ w44.heap.size ≤ b) ∧ Fr or w44 w',
          ⟨rp.length, 0, rfl, by omega, by omega, none_if (hZ3.mono fun b hb => .inl hb), Fr.refl _ _⟩, ?_⟩
        rintro t i w52 ⟨c, rfl, hc, rfl, hZ52, f52⟩
        have c52a := f52.cell c44a (by rw [hb1]; exact n3a)
        have c52b := f52.cell c44b (by rw [hb2]; exact n3b)
        have c52c := f52.cell hc3 (by rw [hb3]; exact ha3o)
        have z52 := f52.size
        refine ⟨x, c52a, a2, ha2, B2, y, c52b, a3, ha3, B3, z, c52c, fun h => ?_, fun h => ?_⟩
        · have hc : c < rp.length := by have := of_decide_eq_true h; omega
          obtain ⟨a4, cx4, oc, ha4, ha4F, ha4L, ha4o, hel4, hoc, _, hcell4, hclose4⟩ := hZ52.upd (if_st ELC.st EC.st c) (by omega) hc
          rw [if_neg (by omega)] at hel4
          obtain ⟨u, rfl, hU⟩ := hel4
          have hc4 : w52.cell? (a4.add (c * 1)) = some (.slice u.base u.len u.cap) := hcell4 0 _ (by omega) rfl
          have hb4 : (a4.add (c * 1)).block = a4.block := block_add _ _
          have n4a : ¬ oc a.block := fun hh => by rcases (hoc _ hh).1 with h1 | h1; exact n3a h1; omega
          have n4b : ¬ oc a2.block := fun hh => by rcases (hoc _ hh).1 with h1 | h1; exact n3b h1; omega
          have n4c : ¬ oc a3.block := fun hh => by rcases (hoc _ hh).1 with h1 | h1; exact ha3o h1; omega
          obtain ⟨hS4, _⟩ := hSC _ (List.getElem_mem hc)
          unfold BB at hS4
          have hself4 : rp.set c rp[c] = rp := List.set_getElem_self hc
          generalize hcm : rp[c] = cm at hU hS4 hself4 hclose4
          have B4 : (0 : Int) ≤ (c : Int) ∧ (c : Int) < (z.len : Int) := ⟨by omega, by omega⟩
          refine ⟨oc, ?_⟩
          rintro w58 rfl
          have f58 : Fr Non w52 w52.drew := (Fr.refl Non w52).drew
          have e1 : ¬ oc ((a.add (j * 2)).add 1).block := by rw [hb1]; exact n4a
          have e2 : ¬ oc (a2.add (q * 1)).block := by rw [hb2]; exact n4b
          have e3 : ¬ oc (a3.add (r * 1)).block := by rw [hb3]; exact n4c
          have e4 : ¬ oc (a4.add (c * 1)).block := by rw [hb4]; exact ha4o
          refine ⟨x, e1, c52a, a2, ha2, B2, y, e2, c52b, a3, ha3, B3, z, e3, c52c, x, e1, c52a, a2, ha2, B2, y, e2, c52b, a3, ha3, B3, z, e3, c52c, a4, ha4, B4, u, e4, hc4, x, e1, c52a, a2, ha2, B2, y, e2, c52b, a3, ha3, B3, z, e3, c52c, a4, ha4, B4, u, e4, hc4, ?_⟩
          intro b79 w80 hb79 hw80
          have f80 : Fr Non w52 w80 := hw80 ▸ f58.alloc _
          have hB79 : Blk w80 b79 9 [.string (mkS mrk)] := hb79 ▸ hw80 ▸ Blk.new w52.drew _ _
          have hU80 := hU.fr (fun _ => EStr.st) f80 (fun _ _ h => h)
          obtain ⟨s81, w82, hrun, hul, hle, hsl4, hLE, hf82⟩ := hU80.lend (P := Tryz.prog) kU66 kS9 kZ9 kB9 rfl (by omega) EStr.st EStr.st (mk := mrk) (cx := [.string (mkS mrk)]) (ox := fun _ => False) rfl rfl (by intro v hv; simp at hv; subst hv; rfl) (fun b h => h.elim) (a := ⟨b79, 0, none⟩) (c := 1) (cell1 hB79) (by omega) (by omega) 80
          have z80 := f80.size
          have f82 : Fr oc w52 w82 := (f80.mono fun b _ h => h.elim).trans' hf82
          obtain ⟨i1, i2, i3, i4⟩ := hclose4 w82 cm _ 0 (.slice s81.base cm.length s81.cap) ELC f82 (by omega) rfl ELC.st hLE (fun b hb => ⟨by rcases hb.1 with h | h | h; exact .inl h; exact h.elim; exact .inr (by omega), hb.2⟩)
          rw [add_zero] at i1 i2 i3 i4
          refine ⟨s81, w82, hrun, exs_of hf82, ⟨by omega, by omega, by omega⟩, a4, ha4, B4, i1, i2, ?_⟩
          rw [hsl4]
          rintro w84 rfl
          refine ⟨rp.length - (c + 1), by omega, c + 1, by rw [w64_id (by omega) (by omega)]; push_cast; rfl, by omega, rfl, up_if i3 hself4 (fun b hb => hb.elim id fun h => .inr (by omega)), f52.trans i4 (fun b hb hg => hg.elim id fun h => absurd h (by omega))⟩
        · have hc : c = rp.length := by have := of_decide_eq_false h; omega
          subst hc
          have hZ52 := (all_if hZ52).tight
          refine ⟨fun b => (or b ∨ w44.heap.size ≤ b) ∧ b < w52.heap.size, ?_⟩
          rintro w85 rfl
          have f85 : Fr Non w52 w52.drew := (Fr.refl Non w52).drew
          have e1 : ¬ ((or ((a.add (j * 2)).add 1).block ∨ w44.heap.size ≤ ((a.add (j * 2)).add 1).block) ∧ ((a.add (j * 2)).add 1).block < w52.heap.size) := by rw [hb1]; rintro ⟨h1 | h1, _⟩; exact n3a h1; omega
          have e2 : ¬ ((or (a2.add (q * 1)).block ∨ w44.heap.size ≤ (a2.add (q * 1)).block) ∧ (a2.add (q * 1)).block < w52.heap.size) := by rw [hb2]; rintro ⟨h1 | h1, _⟩; exact n3b h1; omega
          have e3 : ¬ ((or (a3.add (r * 1)).block ∨ w44.heap.size ≤ (a3.add (r * 1)).block) ∧ (a3.add (r * 1)).block < w52.heap.size) := by rw [hb3]; rintro ⟨h1 | h1, _⟩; exact ha3o h1; omega
          refine ⟨x, e1, c52a, a2, ha2, B2, y, e2, c52b, x, e1, c52a, a2, ha2, B2, y, e2, c52b, a3, ha3, B3, z, e3, c52c, x, e1, c52a, a2, ha2, B2, y, e2, c52b, a3, ha3, B3, z, e3, c52c, ?_⟩
          intro b100 w101 hb100 hw101 b102 w103 hb102 hw103
          have f101 : Fr Non w52 w101 := hw101 ▸ f85.alloc _
          have f103 : Fr Non w52 w103 := hw103 ▸ f101.alloc _
          have hB1 : Blk w101 b100 9 [.string (mkS mrk)] := hb100 ▸ hw101 ▸ Blk.new w52.drew _ _
          have hB1' : Blk w103 b100 9 [.string (mkS mrk)] := hw103 ▸ hB1.alloc _
          have hB2 : Blk w103 b102 80 [.slice (some ⟨b100, 0, none⟩) 1 1] := hb102 ▸ hw103 ▸ Blk.new w101 _ _
          have l1 := hB1.lt
          have l2 := hB2.lt
          have q1 : b100 = w52.heap.size := hb100
          have hZ103 := hZ52.fr (fun _ => ELC.st) f103 (fun _ _ h => h)
          obtain ⟨s81, w82, hrun, hul, hle, hsl4, hLE, hf82⟩ := hZ103.lend (P := Tryz.prog) kU65 kS66 kZ66 kB66 rfl (by omega) ELC.st EC.st (mk := [mrk]) (cx := [.slice (some ⟨b100, 0, none⟩) 1 1]) (ox := fun d => d = b100) ⟨⟨some ⟨b100, 0, none⟩, 1, 1⟩, rfl, markC hB1'⟩ rfl (by intro v hv; simp at hv; subst hv; rfl) (fun b h => by omega) (a := ⟨b102, 0, none⟩) (c := 1) (cell1 hB2) (by omega) (by omega) 38
          have z103 := f103.size
          have f82 : Fr or w44 w82 := (f52.trans (f103.mono (G := fun b => False) fun b _ h => h) (fun b hb h => h.elim)).trans hf82 (fun b hb h => h.1.elim id fun h => absurd h (by omega))
          obtain ⟨i1, i2, i3, i4⟩ := hclose3 w82 rp _ 0 (.slice s81.base rp.length s81.cap) ELR f82 (by omega) rfl ELR.st hLE (fun b hb => ⟨by rcases hb.1 with h | h | h; exact h.1; exact .inr (by omega); exact .inr (by omega), hb.2⟩)
          rw [add_zero] at i1 i2 i3 i4
          refine ⟨s81, w82, hrun, exs_of hf82, ⟨by omega, by omega, by omega⟩, a3, ha3, B3, i1, i2, ?_⟩
          rw [hsl4]
          rintro w84 rfl
          refine ⟨fd.length - (r + 1), by omega, r + 1, by rw [w64_id (by omega) (by omega)]; push_cast; rfl, by omega, rfl, up_if i3 hself3 (fun b hb => hb.elim id fun h => .inr (by omega)), f44.trans i4 (fun b hb hg => hg.elim id fun h => absurd h (by omega))⟩
      · have hr : r = fd.length := by have := of_decide_eq_false h; omega
        subst hr
        have hY44 := (all_if hY44).tight
        refine ⟨fun b => (oq b ∨ w38.heap.size ≤ b) ∧ b < w44.heap.size, ?_⟩
        rintro w85 rfl
        have f85 : Fr Non w44 w44.drew := (Fr.refl Non w44).drew
        have e1 : ¬ ((oq ((a.add (j * 2)).add 1).block ∨ w38.heap.size ≤ ((a.add (j * 2)).add 1).block) ∧ ((a.add (j * 2)).add 1).block < w44.heap.size) := by rw [hb1]; rintro ⟨h1 | h1, _⟩; exact n2a h1; omega
        have e2 : ¬ ((oq (a2.add (q * 1)).block ∨ w38.heap.size ≤ (a2.add (q * 1)).block) ∧ (a2.add (q * 1)).block < w44.heap.size) := by rw [hb2]; rintro ⟨h1 | h1, _⟩; exact ha2o h1; omega
        refine ⟨x, e1, c44a, x, e1, c44a, a2, ha2, B2, y, e2, c44b, x, e1, c44a, a2, ha2, B2, y, e2, c44b, ?_⟩
        intro b100 w101 hb100 hw101 b102 w103 hb102 hw103 b104 w105 hb104 hw105
        have f101 : Fr Non w44 w101 := hw101 ▸ f85.alloc _
        have f103 : Fr Non w44 w103 := hw103 ▸ f101.alloc _
        have f105 : Fr Non w44 w105 := hw105 ▸ f103.alloc _
        have hB1 : Blk w101 b100 9 [.string (mkS mrk)] := hb100 ▸ hw101 ▸ Blk.new w44.drew _ _
        have hB1' : Blk w103 b100 9 [.string (mkS mrk)] := hw103 ▸ hB1.alloc _
        have hB1'' : Blk w105 b100 9 [.string (mkS mrk)] := hw105 ▸ hB1'.alloc _
        have hB2 : Blk w103 b102 80 [.slice (some ⟨b100, 0, none⟩) 1 1] := hb102 ▸ hw103 ▸ Blk.new w101 _ _
        have hB2' : Blk w105 b102 80 [.slice (some ⟨b100, 0, none⟩) 1 1] := hw105 ▸ hB2.alloc _
        have hB3 : Blk w105 b104 38 [.slice (some ⟨b102, 0, none⟩) 1 1] := hb104 ▸ hw105 ▸ Blk.new w103 _ _
        have l1 := hB1.lt
        have l2 := hB2.lt
        have l3 := hB3.lt
        have q1 : b100 = w44.heap.size := hb100
        have hY105 := hY44.fr (fun _ => ELR.st) f105 (fun _ _ h => h)
        obtain ⟨s81, w82, hrun, hul, hle, hsl4, hLE, hf82⟩ := hY105.lend (P := Tryz.prog) kU64 kS65 kZ65 kB65 rfl (by omega) ELR.st ER.st (mk := [[mrk]]) (cx := [.slice (some ⟨b102, 0, none⟩) 1 1]) (ox := fun d => d = b102 ∨ d = b100) ⟨⟨some ⟨b102, 0, none⟩, 1, 1⟩, rfl, markR hB1'' hB2' (by omega)⟩ rfl (by intro v hv; simp at hv; subst hv; rfl) (fun b h => by omega) (a := ⟨b104, 0, none⟩) (c := 1) (cell1 hB3) (by omega) (by omega) 44
        have z105 := f105.size
        have f82 : Fr oq w38 w82 := (f44.trans (f105.mono (G := fun b => False) fun b _ h => h) (fun b hb h => h.elim)).trans hf82 (fun b hb h => h.1.elim id fun h => absurd h (by omega))
        obtain ⟨i1, i2, i3, i4⟩ := hclose2 w82 fd _ 0 (.slice s81.base fd.length s81.cap) ELF f82 (by omega) rfl ELF.st hLE (fun b hb => ⟨by rcases hb.1 with h | h | h; exact h.1; exact .inr (by omega); exact .inr (by omega), hb.2⟩)
        rw [add_zero] at i1 i2 i3 i4
        refine ⟨s81, w82, hrun, exs_of hf82, ⟨by omega, by omega, by omega⟩, a2, ha2, B2, i1, i2, ?_⟩
        rw [hsl4]
        rintro w84 rfl
        refine ⟨g.flds.length - (q + 1), by omega, q + 1, by rw [w64_id (by omega) (by omega)]; push_cast; rfl, by omega, rfl, up_if i3 hself2 (fun b hb => hb.elim id fun h => .inr (by omega)), f38.trans i4 (fun b hb hg => hg.elim id fun h => absurd h (by omega))⟩
    · have hq : q = g.flds.length := by have := of_decide_eq_false h; omega
      subst hq
      have hX38 := (all_if hX38).tight
      refine ⟨fun b => (oi b ∨ w30.heap.size ≤ b) ∧ b < w38.heap.size, ?_⟩
      rintro w85 rfl
      have f85 : Fr Non w38 w38.drew := (Fr.refl Non w38).drew
      have e1 : ¬ ((oi ((a.add (j * 2)).add 1).block ∨ w30.heap.size ≤ ((a.add (j * 2)).add 1).block) ∧ ((a.add (j * 2)).add 1).block < w38.heap.size) := by rw [hb1]; rintro ⟨h1 | h1, _⟩; exact hao h1; omega
      refine ⟨x, e1, c38, x, e1, c38, ?_⟩
      intro b100 w101 hb100 hw101 b102 w103 hb102 hw103 b104 w105 hb104 hw105 b106 w107 hb106 hw107
      have f101 : Fr Non w38 w101 := hw101 ▸ f85.alloc _
      have f103 : Fr Non w38 w103 := hw103 ▸ f101.alloc _
      have f105 : Fr Non w38 w105 := hw105 ▸ f103.alloc _
      have f107 : Fr Non w38 w107 := hw107 ▸ f105.alloc _
      have hB1 : Blk w101 b100 9 [.string (mkS mrk)] := hb100 ▸ hw101 ▸ Blk.new w38.drew _ _
      have hB1' : Blk w103 b100 9 [.string (mkS mrk)] := hw103 ▸ hB1.alloc _
      have hB1'' : Blk w105 b100 9 [.string (mkS mrk)] := hw105 ▸ hB1'.alloc _
      have hB1q : Blk w107 b100 9 [.string (mkS mrk)] := hw107 ▸ hB1''.alloc _
      have hB2 : Blk w103 b102 80 [.slice (some ⟨b100, 0, none⟩) 1 1] := hb102 ▸ hw103 ▸ Blk.new w101 _ _
      have hB2' : Blk w105 b102 80 [.slice (some ⟨b100, 0, none⟩) 1 1] := hw105 ▸ hB2.alloc _
      have hB2q : Blk w107 b102 80 [.slice (some ⟨b100, 0, none⟩) 1 1] := hw107 ▸ hB2'.alloc _
      have hB3 : Blk w105 b104 38 [.slice (some ⟨b102, 0, none⟩) 1 1] := hb104 ▸ hw105 ▸ Blk.new w103 _ _
      have hB3q : Blk w107 b104 38 [.slice (some ⟨b102, 0, none⟩) 1 1] := hw107 ▸ hB3.alloc _
      have hB4 : Blk w107 b106 44 [.slice (some ⟨b104, 0, none⟩) 1 1] := hb106 ▸ hw107 ▸ Blk.new w105 _ _
      have l1 := hB1.lt
      have l2 := hB2.lt
      have l3 := hB3.lt
      have l4 := hB4.lt
      have q1 : b100 = w38.heap.size := hb100
      have hX107 := hX38.fr (fun _ => ELF.st) f107 (fun _ _ h => h)
      obtain ⟨s81, w82, hrun, hul, hle, hsl4, hLE, hf82⟩ := hX107.lend (P := Tryz.prog) kU47 kS64 kZ64 kB64 rfl (by omega) ELF.st EF.st (mk := [[[mrk]]]) (cx := [.slice (some ⟨b104, 0, none⟩) 1 1]) (ox := fun d => d = b104 ∨ d = b102 ∨ d = b100) ⟨⟨some ⟨b104, 0, none⟩, 1, 1⟩, rfl, markF hB1q hB2q hB3q (by omega) (by omega)⟩ rfl (by intro v hv; simp at hv; subst hv; rfl) (fun b h => by omega) (a := ⟨b106, 0, none⟩) (c := 1) (cell1 hB4) (by omega) (by omega) 45
      have z107 := f107.size
      have f82 : Fr oi w30 w82 := (f38.trans (f107.mono (G := fun b => False) fun b _ h => h) (fun b hb h => h.elim)).trans hf82 (fun b hb h => h.1.elim id fun h => absurd h (by omega))
      obtain ⟨i1, i2, i3, i4⟩ := hclose w82 g _ 1 (.slice s81.base g.flds.length s81.cap) ELG f82 (by omega) rfl ELG.st ⟨_, rfl, hLE⟩ (fun b hb => ⟨by rcases hb.1 with h | h | h; exact h.1; exact .inr (by omega); exact .inr (by omega), hb.2⟩)
      refine ⟨s81, w82, hrun, exs_of hf82, ⟨by omega, by omega, by omega⟩, i1, i2, ?_⟩
      rw [hsl4]
      rintro w84 rfl
      have z84 := i4.size
      refine ⟨l.length - (j + 1), by omega, j + 1, by rw [w64_id (by omega) (by omega)]; push_cast; rfl, by omega, rfl, up_if i3 hself (fun b hb => by omega), hM.fr i4 (fun h => by omega), hZ.fr i4 (fun h => by omega), upN f30 i4 (fun b hb => by have h1 := f10.size; have hb : w10.heap.size ≤ b := hb; omega), Nat.le_trans s30 i4.size⟩
  · have hj : j = l.length := by have := of_decide_eq_false h; omega
    subst hj
    have hO := (all_if hO).tight
    refine ⟨fun b => w10.heap.size ≤ b ∧ b < w30.heap.size, ?_⟩
    rintro w85 rfl
    have f85 : Fr Non w30 w30.drew := (Fr.refl Non w30).drew
    have e1 : ¬ (w10.heap.size ≤ ((⟨b7, 0, none⟩ : Addr).add 5).block ∧ ((⟨b7, 0, none⟩ : Addr).add 5).block < w30.heap.size) := by rw [add_mk]; simp only; omega
    refine ⟨s, e1, hmc hM, s, e1, hmc hM, ?_⟩
    intro b146 w147 hb146 hw147
    have f147 : Fr Non w30 w147 := hw147 ▸ f85.alloc _
    have hB : Blk w147 b146 79 [.string (mkS mrk), .slice none 0 0] := hb146 ▸ hw147 ▸ Blk.new w30.drew _ _
    have hO147 := hO.fr (fun _ => ELG.st) f147 (fun _ _ h => h)
    obtain ⟨s81, w82, hrun, hul, hle, hsl4, hLE, hf82⟩ := hO147.lend (P := Tryz.prog) kU34 kS49 kZ49 kB49 rfl (by omega) ELG.st EG.st (mk := ⟨mrk, []⟩) (cx := [.string (mkS mrk), .slice none 0 0]) (ox := fun _ => False) ⟨⟨none, 0, 0⟩, rfl, Own.nil _ _ _ _ _⟩ rfl (by intro v hv; simp at hv; rcases hv with rfl | rfl <;> rfl) (fun b h => h.elim) (a := ⟨b146, 0, none⟩) (c := 1) (cells2 hB) (by omega) (by omega) 24
    have z147 := f147.size
    have hM2 := (hM.fr f147 (fun h => h)).fr hf82 (fun h => by omega)
    have hZ2 := (hZ.fr f147 (fun h => h)).fr hf82 (fun h => by omega)
    have f82 : Fr Non w w82 := upN (f30.trans' f147) hf82 (fun b hb => by have := f10.size; omega)
    refine ⟨s81, w82, hrun, exs_of hf82, ⟨by omega, by omega, by omega⟩, by rw [add_mk]; exact hM2.isS (by simp [mc]), by rw [add_mk]; exact hM2.free _, ?_⟩
    rw [hsl4]
    rintro w150 rfl
    rw [add_mk]
    have hM3 : Blk (w82.setCell ⟨b7, 0 + 5, none⟩ (.slice s81.base l.length s81.cap)) b7 26 (mc { m with s := ⟨s81.base, l.length, s81.cap⟩ }) := hM2.set 5 _
    have hZ3 := hZ2.ne (a := ⟨b7, 0 + 5, none⟩) (by simp only; omega) (.slice s81.base l.length s81.cap)
    have g150 : Fr (fun b => b = b7) w82 (w82.setCell ⟨b7, 0 + 5, none⟩ (.slice s81.base l.length s81.cap)) := (Fr.refl (fun b => b = b7) w82).set (a := ⟨b7, 0 + 5, none⟩) (fun _ => rfl) _
    refine ⟨m.d1, m.d2, m.d3, m.d4, m.d5, ⟨s81.base, l.length, s81.cap⟩, hM3.ats (mc { m with s := ⟨s81.base, l.length, s81.cap⟩ }) 0 0 (fun q v hq => by simpa using hq), mayCells_of hZ3 0 6 (by simp [mc]), ?_⟩
    rintro w157 rfl
    have hZ4 := hZ3.setAll (vs := mc { m with s := ⟨s81.base, l.length, s81.cap⟩ }) rfl
    have g157 := (Fr.refl (fun b => b = b9) _).setAll hZ3 (vs := mc { m with s := ⟨s81.base, l.length, s81.cap⟩ }) rfl (fun _ => rfl)
    refine ⟨m.d1, m.d2, m.d3, m.d4, m.d5, ⟨s81.base, l.length, s81.cap⟩, hZ4.ats (mc { m with s := ⟨s81.base, l.length, s81.cap⟩ }) 0 0 (fun q v hq => by simpa using hq), ?_⟩
    have s1 := f10.size
    have gall : Fr (fun b => b = b7 ∨ b = b9) w82 (setCells (w82.setCell ⟨b7, 0 + 5, none⟩ (.slice s81.base l.length s81.cap)) ⟨b9, 0, none⟩ 0 (mc { m with s := ⟨s81.base, l.length, s81.cap⟩ })) :=
      (g150.mono fun b _ h => .inl h).trans' (g157.mono fun b _ h => .inr h)
    refine hk ⟨s81.base, l.length, s81.cap⟩ _ ?_ (upN f82 gall (fun b hb => by omega))
    have hdone := hLE
    obtain ⟨s9, h91, h92, h93⟩ := hdone
    have big : ∀ b, (((w10.heap.size ≤ b ∧ b < w30.heap.size) ∨ False ∨ w147.heap.size ≤ b) ∧ b < w82.heap.size) → w10.heap.size ≤ b := fun b hb => by
      rcases hb.1 with h | h | h
      · exact h.1
      · exact h.elim
      · omega
    refine ⟨s9, h91, h92, (h93.fr (if_st ELG.st EG.st _) gall (fun b hb => ?_)).mono fun b hb => ?_⟩
    · have := big b hb
      omega
    · have := big b hb
      show w.heap.size ≤ b
      omega
end
end Go.Proofs.YthpeengmcjpknaaGreatDoor
