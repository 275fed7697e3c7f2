/- token.Parse: what is read of a text. -/
import Derived.Test.YthpeengmcjpknaaGreatDoorPEA
set_option linter.unusedSimpArgs false
set_option linter.unusedVariables false
namespace Go.Proofs.YthpeengmcjpknaaGreatDoor
open Go.V Go.RowKit
def zM : Mh := ⟨0, 0, 0, 0, 0, ⟨none, 0, 0⟩⟩
section
variable {w : World} {k : Value → World → Prop}
set_option maxHeartbeats 8000000 in
theorem tparse_spec (t : Str) (hG : GMax w)
    (hk0 : ∀ (d : Dm) (y : Sl) w', ofP t = some d → parseE isName t = 0 → OwM w' y (parseL t) (fun b => w.heap.size ≤ b ∧ b < w'.heap.size) → Fr Non w w' → k (.tuple (List.toArray [.agg (List.toArray (mc (mD d y))), .int .i64 0])) w')
    (hk1 : ∀ w', parseE isName t ≠ 0 → Fr Non w w' → k (.tuple (List.toArray [.agg (List.toArray (mc zM)), .int .i64 (parseE isName t)])) w') : Cl Tryz.prog 22 [.string (mkS t)] w k := by
  refine f22_ok ?_
  unfold f22
  intro b2 w3 hb2 hw3
  have f3 : Fr Non w w3 := hw3 ▸ (Fr.refl Non w).alloc _
  have hZ3 : Blk w3 b2 26 (mc zM) := hb2 ▸ hw3 ▸ Blk.new w _ _
  have atsM : ∀ {w' : World} {m' : Mh} {b : Nat}, Blk w' b 26 (mc m') → cellsAt w' ⟨b, 0, none⟩ 0 (mc m') := fun h => h.ats _ 0 0 (fun q v hq => by simpa using hq)
  have herr : ∀ (e : Int) (w' : World), Blk w' b2 26 (mc zM) → Fr Non w w' → parseE isName t = e → e ≠ 0 → mayCells w' (⟨b2, 0, none⟩) 0 6 ∧ ∀ w4, w4 = setCells w' (⟨b2, 0, none⟩) 0 (mc zM) → ∃ (x5 : Int) (x6 : Int) (x7 : Int) (x8 : Int) (x9 : Int) (x10 : Sl), cellsAt w4 (⟨b2, 0, none⟩) 0 [.int .u8 x5, .int .u8 x6, .int .u8 x7, .int .u8 x8, .int .u8 x9, .slice x10.base x10.len x10.cap] ∧ k (.tuple (List.toArray [.agg (List.toArray [.int .u8 x5, .int .u8 x6, .int .u8 x7, .int .u8 x8, .int .u8 x9, .slice x10.base x10.len x10.cap]), .int .i64 e])) w4 := by
    intro e w' hZ f' he hne
    refine ⟨mayCells_of hZ 0 6 (by simp [mc]), ?_⟩
    rintro w4 rfl
    have h4 := hZ.setAll (vs := mc zM) rfl
    refine ⟨_, _, _, _, _, zM.s, atsM h4, ?_⟩
    have := hk1 _ (by rw [he]; exact hne) (f'.setAll hZ (vs := mc zM) rfl (fun h => absurd h (by omega)))
    rw [he] at this
    exact this
  refine ⟨fun h => ?_, fun h => ?_⟩
  · have h : 65536 < t.length := by have := of_decide_eq_true h; omega
    exact herr 2 w3 hZ3 f3 (by unfold parseE; rw [if_pos h]) (by decide)
  have hl : t.length ≤ 65536 := by have := of_decide_eq_false h; omega
  refine of_spec t hl (fun w11 d g11 hd => ?_) (fun w11 g11 hn => ?_)
  · have ok := (ofP_some hd).1
    refine ⟨_, _, _, _, _, 0, rfl, ?_⟩
    intro b19 w20 hb19 hw20
    have g20 : Fr Non w11 w20 := hw20 ▸ (Fr.refl Non w11).alloc _
    have hD20 : Blk w20 b19 23 zD := hb19 ▸ hw20 ▸ Blk.new w11 _ _
    refine ⟨mayCells_of hD20 0 5 (by simp [zD]), ?_⟩
    intro w21 hw21
    have hD21 : Blk w21 b19 23 (dvD d) := hw21 ▸ hD20.setAll (vs := dvD d) rfl
    have g21 : Fr Non w11 w21 := upN g20 (hw21 ▸ (Fr.refl (fun g => g = b19) w20).setAll hD20 (vs := dvD d) rfl (fun _ => rfl)) (fun g hg => by omega)
    refine ⟨fun h => absurd h (by decide), fun _ => ?_⟩
    refine ⟨_, hD21.cell rfl, ?_⟩
    intro b30 w31 hb30 hw31
    have g31 : Fr Non w21 w31 := hw31 ▸ (Fr.refl Non w21).alloc _
    have hS31 : Blk w31 b30 5 (bys [d.f]) := hb30 ▸ hw31 ▸ Blk.new w21 _ _
    refine ⟨[d.f], hS31.bytes rfl, ?_⟩
    refine lines_spec t hl fun A w33 hA hP g33 => ⟨⟨some ⟨A, 0, none⟩, (linesP t).length, (linesP t).length⟩, rfl, ?_⟩
    have g3 : Fr Non w3 w33 := ((g11.trans' g21).trans' g31).trans' g33
    have f33 : Fr Non w w33 := f3.trans' g3
    have hZ33 := hZ3.fr g3 (fun h => h)
    have hD33 := hD21.fr (g31.trans' g33) (fun h => h)
    have hpe : parseE isName t = if lnsOk isName d (linesP t) = true then (if longP d (linesP t) = true then 2 else 0) else 51 := by
      unfold parseE
      rw [if_neg (by omega), hd]
    have hpl : parseL t = canM (segsP d (linesP t)) := by unfold parseL; rw [hd]
    have hpn := lines_len t
    have hpm := fun p (hp : p ∈ linesP t) => lines_sub t p hp
    obtain ⟨yh, qh, hhead⟩ := lines_head hd
    generalize linesP t = ps at *
    -- the lines' names
    refine ⟨fun t i w' => ∃ j : Nat, i = j ∧ j ≤ ps.length ∧ t = ps.length - j ∧ Fr Non w33 w' ∧ ∀ q (hq : q < ps.length), q < j → okL isName d q ps[q] = true, ⟨ps.length, 0, rfl, by omega, rfl, Fr.refl _ _, fun q _ hq => by omega⟩, ?_⟩
    rintro ti i w40 ⟨j, rfl, hj, rfl, f40, hall⟩
    have hZ40 := hZ33.fr f40 (fun h => h)
    have hD40 := hD33.fr f40 (fun h => h)
    have hP40 := hP.fr f40 (fun h => h)
    have fw40 := f33.trans' f40
    refine ⟨fun h => ?_, fun h => ?_⟩
    · have hj : j < ps.length := by have := of_decide_eq_true h; simp only at this; omega
      obtain ⟨a, ha, hz⟩ := (rd_strs (c := ps.length) hP40).2 j hj
      have hpj := hpm ps[j] (List.getElem_mem hj)
      have hokj := okL_j isName d j ps[j]
      have hbadj : okL isName d j ps[j] = false → parseE isName t = 51 := fun h => by rw [hpe, lnsOk_bad hj h]; rfl
      refine ⟨a, ha, ⟨by omega, by simp only; omega⟩, ps[j], hz, ⟨by omega, by split <;> omega, by split <;> omega⟩, ?_⟩
      rw [sub_min]
      refine ⟨fun v w' => v = !(okL isName d j ps[j]) ∧ Fr Non w40 w', ?_, ?_⟩
      · rintro v w45 ⟨hv, f45⟩
        refine ⟨fun h => ?_, fun h => ?_⟩
        · rw [h] at hv
          exact herr 51 w45 (hZ40.fr f45 (fun h => h)) (fw40.trans' f45) (hbadj (nott hv.symm)) (by decide)
        · rw [h] at hv
          refine ⟨ps.length - (j + 1), by omega, j + 1, by rw [w64_id (by omega) (by omega)]; push_cast; rfl, by omega, rfl, f40.trans' f45, fun q hq hqj => ?_⟩
          by_cases e : q = j
          · subst e; exact notf hv.symm
          · exact hall q hq (by omega)
      rintro w46 rfl
      have f46 := (Fr.refl Non w40).drew
      refine isName_spec _ (by rw [List.length_take]; omega) fun w47 g47 => ⟨_, rfl, fun h1 => ?_, fun h1 => ?_⟩
      · refine ⟨?_, f46.trans' g47⟩
        rw [hokj, nott h1]; rfl
      have h1 := notf h1
      have f47 := f46.trans' g47
      rw [h1, Bool.true_and] at hokj
      have pre : ∀ (b : Bool), (decide (ps[j].length ≤ 3) || (ps[j].getD 3 0 == d.f)) = true → (((decide ((0 : Int) < (j : Int))) = true → Cl Tryz.prog 152 [.string (mkS ps[j]), .string (mkS [77, 83, 72])] w47 (fun v52 w51 => ∃ (x53 : Bool), v52 = (.bool x53) ∧ (x53 = !(okL isName d j ps[j]) ∧ Fr Non w40 w51))) ∧
          ((decide ((0 : Int) < (j : Int))) = false → (false = !(okL isName d j ps[j]) ∧ Fr Non w40 w47))) := by
        intro _ hb
        rw [hb, Bool.true_and] at hokj
        refine ⟨fun h0 => ?_, fun h0 => ?_⟩
        · have h0 : ¬ j = 0 := by have := of_decide_eq_true h0; omega
          rw [decide_eq_false h0, Bool.false_or] at hokj
          exact strHasPrefix_spec ps[j] msh ⟨_, rfl, by rw [hokj]; simp, f47⟩
        · have h0 : j = 0 := by have := of_decide_eq_false h0; omega
          rw [decide_eq_true h0] at hokj
          exact ⟨by rw [hokj]; rfl, f47⟩
      refine ⟨fun h3 => ?_, fun h3 => ?_⟩
      · have h3 : 3 < ps[j].length := by have := of_decide_eq_true h3; omega
        have hc : decide (ps[j].length ≤ 3) = false := decide_eq_false (by omega)
        refine ⟨⟨by omega, by omega⟩, _, (hD40.fr f47 (fun h => h)).cell rfl, fun h4 => ⟨?_, f47⟩, fun h4 => ?_⟩
        · have h4 : (((ps[j].getD 3 0).toNat : Int) != (d.f.toNat : Int)) = true := h4
          have : (ps[j].getD 3 0 == d.f) = false := by
            unfold bne at h4; rw [u8_eqc] at h4; exact nott h4
          rw [hokj, hc, this]; rfl
        · have h4 : (((ps[j].getD 3 0).toNat : Int) != (d.f.toNat : Int)) = false := h4
          have : (ps[j].getD 3 0 == d.f) = true := by
            unfold bne at h4; rw [u8_eqc] at h4; exact notf h4
          exact pre true (by rw [this]; simp)
      · have h3 : ps[j].length ≤ 3 := by have := of_decide_eq_false h3; omega
        exact pre true (by rw [decide_eq_true h3]; rfl)
    have hj : j = ps.length := by have := of_decide_eq_false h; simp only at this; omega
    subst hj
    have hlok : lnsOk isName d ps = true := lnsOk_all fun q hq => hall q hq hq
    rw [hlok] at hpe
    simp only [if_true] at hpe
    intro b64 w65 hb64 hw65
    have g65 : Fr Non w40 w65 := hw65 ▸ (Fr.refl Non w40).alloc _
    have hL65 : Blk w65 b64 4 [.bool false] := hb64 ▸ hw65 ▸ Blk.new w40 _ _
    refine ⟨hL65.isS (by simp), hL65.free _, ?_⟩
    intro w66 hw66
    have g66 : Fr Non w40 w66 := upN g65 (hw66 ▸ (Fr.refl (fun g => g = b64) w65).set (a := ⟨b64, 0, none⟩) (fun _ => rfl) _) (fun g hg => by omega)
    have e200 : decide ((200 : Int) < (ps.length : Int)) = decide (200 < ps.length) := by rw [decide_eq_decide]; omega
    have hL66 : Blk w66 b64 4 [.bool (decide (200 < ps.length))] := by rw [hw66, ← e200]; exact hL65.set 0 _
    have hD66 := hD40.fr g66 (fun h => h)
    refine ⟨_, _, _, _, _, hD66.ats (dvD d) 0 0 (fun q v hq => by simpa using hq), ?_⟩
    intro b72 w73 hb72 hw73
    have g73 : Fr Non w66 w73 := hw73 ▸ (Fr.refl Non w66).alloc _
    have hO73 : Blk w73 b72 26 (mc zM) := hb72 ▸ hw73 ▸ Blk.new w66 _ _
    refine ⟨mayCells_of hO73 0 6 (by simp [mc]), ?_⟩
    intro w74 hw74
    have g74 : Fr Non w66 w74 := upN g73 (hw74 ▸ (Fr.refl (fun g => g = b72) w73).setAll hO73 (vs := mc (mD d ⟨none, 0, 0⟩)) rfl (fun _ => rfl)) (fun g hg => by omega)
    have hO74 : Blk w74 b72 26 (mc (mD d ⟨none, 0, 0⟩)) := hw74 ▸ hO73.setAll rfl
    intro b75 w76 hb75 hw76
    have g76 : Fr Non w74 w76 := hw76 ▸ (Fr.refl Non w74).alloc _
    have hC76 : Blk w76 b75 138 [.nilFunc] := hb75 ▸ hw76 ▸ Blk.new w74 _ _
    refine ⟨hC76.isS (by simp), hC76.free _, ?_⟩
    intro w77 hw77
    have g77 : Fr Non w74 w77 := upN g76 (hw77 ▸ (Fr.refl (fun g => g = b75) w76).set (a := ⟨b75, 0, none⟩) (fun _ => rfl) _) (fun g hg => by omega)
    have hC77 : Blk w77 b75 138 [.func (.func 153) #[] (List.toArray [.pointer (some ⟨b19, 0, none⟩), .pointer (some ⟨b64, 0, none⟩)])] := hw77 ▸ hC76.set 0 _
    have k77 : Fr Non w40 w77 := (g66.trans' g74).trans' g77
    have f77 : Fr Non w w77 := fw40.trans' k77
    have hZ77 := hZ40.fr k77 (fun h => h)
    have hD77 := hD40.fr k77 (fun h => h)
    have hP77 := hP40.fr k77 (fun h => h)
    have hL77 := (hL66.fr g74 (fun h => h)).fr g77 (fun h => h)
    have hO77 := hO74.fr g77 (fun h => h)
    have hG77 := hG.fr f77 (fun h => h)
    have lG := hG.lt
    have l2 := hZ40.lt
    have l19 := hD40.lt
    have lA := hP40.lt
    have l72 : b64 < b72 := by rw [hb72]; exact hL66.lt
    have l75 : b72 < b75 := by rw [hb75]; exact hO74.lt
    have l77 := hC77.lt
    have sw := fw40.size
    -- what may turn from here on
    obtain ⟨D, hDd⟩ : ∃ D : Nat → Prop, D = fun g => g = b64 ∨ g = b72 := ⟨_, rfl⟩
    have dn : ∀ g, g ≠ b64 → g ≠ b72 → ¬ D g := fun g h1 h2 => by rw [hDd]; rintro (h | h); exact h1 h; exact h2 h
    have fin : ∀ {u : World}, Fr D w77 u → Fr Non w u := fun f => upN f77 f fun g hg => by rw [hDd] at hg; rcases hg with h | h <;> omega
    have lD : ∀ {u u' : World}, Fr (fun c => c = b64) u u' → Fr D u u' := fun f => f.mono fun b _ h => by rw [hDd]; exact .inl h
    have nL : ∀ {u u' : World}, Fr Non u u' → Fr (fun c => c = b64) u u' := fun f => f.mono fun _ _ h => h.elim
    refine ⟨fun t i w' => ∃ (j : Nat) (y : Sl), i = j ∧ j ≤ ps.length ∧ t = ps.length - j ∧ OwM w' y (sgU d ps j) (fun b => w77.heap.size ≤ b ∧ b < w'.heap.size) ∧ Blk w' b72 26 (mc (mD d y)) ∧ Blk w' b64 4 [.bool (bdU d ps (decide (200 < ps.length)) j)] ∧ Fr D w77 w', ⟨ps.length, 0, ⟨none, 0, 0⟩, rfl, by omega, rfl, Own.nil _ _ _ _ _, hO77, hL77, Fr.refl _ _⟩, ?_⟩
    rintro ti i w82 ⟨j, y, rfl, hj, rfl, hM, hO82, hL82, f82⟩
    have s82 := f82.size
    have hP82 := hP77.fr f82 (dn _ (by omega) (by omega))
    have hD82 := hD77.fr f82 (dn _ (by omega) (by omega))
    have hC82 := hC77.fr f82 (dn _ (by omega) (by omega))
    have hZ82 := hZ77.fr f82 (dn _ (by omega) (by omega))
    have hG82 := hG77.fr f82 (dn _ (by omega) (by omega))
    refine ⟨fun h => ?_, fun h => ?_⟩
    · have hj : j < ps.length := by have := of_decide_eq_true h; simp only at this; omega
      obtain ⟨a, ha, hz⟩ := (rd_strs (c := ps.length) hP82).2 j hj
      have hpj := hpm ps[j] (List.getElem_mem hj)
      have hsg : sgU d ps (j + 1) = sgU d ps j ++ [segAt d j ps[j]] := by show sgU d ps j ++ _ = _; rw [List.getElem?_eq_getElem hj]
      have hbd : bdU d ps (decide (200 < ps.length)) (j + 1) = (bdU d ps (decide (200 < ps.length)) j || lnBadAt d j ps[j]) := by show (bdU d ps _ j || _) = _; rw [List.getElem?_eq_getElem hj]
      have h2len : j = 0 → 2 ≤ (splitP d.f ps[j]).length := by
        rintro rfl
        have e : ps[0] = [77, 83, 72, d.f, d.c, d.r, d.e, d.s] ++ yh := by simp [hhead]
        rw [e]; exact split_two ok yh
      generalize ps[j] = p at *
      obtain ⟨rn, hrn⟩ := nmOf_cons d p
      have hqm := split_mem d.f p
      have hql := splitP_len d.f p
      refine ⟨a, ha, ⟨by omega, by simp only; omega⟩, p, hz, ?_⟩
      refine split_spec p d.f hG82 (by omega) fun w85 hX85 g85 => ⟨⟨some ⟨w82.heap.size, 0, none⟩, (splitP d.f p).length, (splitP d.f p).length⟩, rfl, ?_⟩
      obtain ⟨X, hX⟩ : ∃ X, X = w82.heap.size := ⟨_, rfl⟩
      rw [← hX] at hX85 ⊢
      have lX := hX85.lt
      have hq0 : (splitP d.f p)[0]? = some (nmOf d p) := by rw [hrn]; rfl
      have hq1 : 1 ≤ (splitP d.f p).length := by rw [hrn]; simp
      refine ⟨⟨X, 0, none⟩, rfl, ⟨by omega, by simp only; omega⟩, nmOf d p, ?_, ?_⟩
      · rw [add_mk]; exact hX85.cell (by rw [List.getElem?_map]; show ((splitP d.f p)[0]?).map _ = _; rw [hq0]; rfl)
      have hnl : (nmOf d p).length ≤ p.length := hqm _ (by rw [hrn]; simp)
      refine clone_spec _ (by omega) fun w90 g90 => ⟨_, rfl, ?_⟩
      intro b93 w94 hb93 hw94
      have g94 : Fr Non w90 w94 := hw94 ▸ (Fr.refl Non w90).alloc _
      have hs94 : Blk w94 b93 79 [.string (mkS []), .slice none 0 0] := hb93 ▸ hw94 ▸ Blk.new w90 _ _
      refine ⟨mayCells_of hs94 0 2 (by simp), ?_⟩
      intro w95 hw95
      have g95 : Fr Non w90 w95 := upN g94 (hw95 ▸ (Fr.refl (fun g => g = b93) w94).setAll hs94 (vs := [.string (mkS (nmOf d p)), .slice none 0 0]) rfl (fun _ => rfl)) (fun g hg => by omega)
      have hs95 : Blk w95 b93 79 [.string (mkS (nmOf d p)), .slice none 0 0] := hw95 ▸ hs94.setAll rfl
      have k95 : Fr Non w82 w95 := (g85.trans' g90).trans' g95
      have s85 := g85.size
      have s90 := g90.size
      have l93 := hs95.lt
      have hX95 := hX85.fr (g90.trans' g95) (fun h => h)
      have hL95 := hL82.fr k95 (fun h => h)
      have l64 := hL82.lt
      refine ⟨⟨by omega, by simp only; omega, trivial⟩, ?_⟩
      obtain ⟨k0, hk0'⟩ : ∃ k0, k0 = if j = 0 then 2 else 1 := ⟨_, rfl⟩
      obtain ⟨fl0, hfl0⟩ : ∃ fl0 : List Fldt, fl0 = if j = 0 then [one1' [d.f], one1' [d.c, d.r, d.e, d.s]] else [] := ⟨_, rfl⟩
      have hflds : (segAt d j p).flds = fl0 ++ ((splitP d.f p).drop k0).map (rdF d) := by
        unfold segAt
        by_cases h0 : j = 0
        · rw [if_pos h0] at hk0' hfl0 ⊢; rw [hk0', hfl0]; rfl
        · rw [if_neg h0] at hk0' hfl0 ⊢; rw [hk0', hfl0]; rfl
      have hnm : (segAt d j p).name = nmOf d p := by unfold segAt; split <;> rfl
      have hlb : lnBadAt d j p = (decide (100 < fl0.length + ((splitP d.f p).drop k0).length) || ((splitP d.f p).drop k0).any (bdF d)) := by
        unfold lnBadAt
        by_cases h0 : j = 0
        · rw [if_pos h0] at hk0' hfl0 ⊢; rw [hk0', hfl0]; rfl
        · rw [if_neg h0] at hk0' hfl0 ⊢; rw [hk0', hfl0]
          show lnBadR d p = _
          unfold lnBadR
          rw [List.length_nil, Nat.zero_add]
      have hfl2 : fl0.length ≤ 2 := by rw [hfl0]; split <;> simp
      have hdl : ((splitP d.f p).drop k0).length ≤ p.length + 1 := by rw [List.length_drop]; omega
      have hdm := fun v (hv : v ∈ (splitP d.f p).drop k0) => hqm v (List.mem_of_mem_drop hv)
      generalize hqs : (splitP d.f p).drop k0 = qs at *
      generalize bdU d ps (decide (200 < ps.length)) j = x at *
      -- the fields
      refine ⟨fun s w' => ∃ z : Sl, (∀ u, Blk u X 9 ((splitP d.f p).map fun x => .string (mkS x)) → RdL 1 RdStr u s qs) ∧ OwS w' z fl0 (fun b => w85.heap.size ≤ b ∧ b < w'.heap.size ∧ b ≠ b93) ∧ Blk w' b93 79 [.string (mkS (nmOf d p)), .slice z.base z.len z.cap] ∧ Fr Non w82 w' ∧ Blk w' X 9 ((splitP d.f p).map fun x => .string (mkS x)), ?_, fun h0 => ?_, fun h0 => ?_⟩
      · rintro l97 w98 ⟨z, hS, hF98, hs98, k98, hX98⟩
        have hL98 := hL82.fr k98 (fun h => h)
        have hlq := (hS w98 hX98).1
        have hlz := Own.len hF98
        refine ⟨fun w' => OwS w' z fl0 (fun b => w85.heap.size ≤ b ∧ b < w'.heap.size ∧ b ≠ b93) ∧ Blk w' b93 79 [.string (mkS (nmOf d p)), .slice z.base z.len z.cap] ∧ Blk w' X 9 ((splitP d.f p).map fun x => .string (mkS x)) ∧ Blk w' b64 4 [.bool (x || decide (100 < fl0.length + qs.length))] ∧ Fr (fun c => c = b64) w82 w', ?_, x, hL98.cell rfl, fun hx => ⟨hL98.isS (by simp), hL98.free _, ?_⟩, fun hx => ⟨z, by rw [add_mk]; exact hs98.cell rfl, hL98.isS (by simp), hL98.free _, ?_⟩⟩
        · rintro w131 ⟨hF131, hs131, hX131, hL131, f131⟩
          generalize hx1 : (x || decide (100 < fl0.length + qs.length)) = x1 at *
          refine ⟨fun t i w' => ∃ (q : Nat) (z' : Sl), i = q ∧ q ≤ qs.length ∧ t = qs.length - q ∧ OwS w' z' (fl0 ++ (qs.take q).map (rdF d)) (fun b => w85.heap.size ≤ b ∧ b < w'.heap.size ∧ b ≠ b93) ∧ Blk w' b93 79 [.string (mkS (nmOf d p)), .slice z'.base z'.len z'.cap] ∧ Blk w' X 9 ((splitP d.f p).map fun x => .string (mkS x)) ∧ Blk w' b64 4 [.bool (x1 || (qs.take q).any (bdF d))] ∧ Fr (fun c => c = b64) w82 w', ⟨qs.length, 0, z, rfl, by omega, rfl, by simpa using hF131, hs131, hX131, by simpa using hL131, f131⟩, ?_⟩
          rintro ti i w140 ⟨q, z', rfl, hq, rfl, hF140, hs140, hX140, hL140, f140⟩
          have s140 := f140.size
          have hrd := hS w140 hX140
          refine ⟨fun h => ?_, fun h => ?_⟩
          · have hq : q < qs.length := by have := of_decide_eq_true h; omega
            obtain ⟨a2, ha2, hz2⟩ := hrd.2 q hq
            refine ⟨a2, ha2, ⟨by omega, by omega⟩, qs[q], hz2, fun c => c = b64, ?_⟩
            rintro w143 rfl
            have g143 := (Fr.refl Non w140).drew
            refine ⟨z', by rw [block_add]; simp only; omega, by rw [add_mk]; exact (hs140.fr g143 (fun h => h)).cell rfl, _, by rw [block_add]; simp only; omega, by rw [add_mk]; exact ((hD82.fr f140 (by omega)).fr g143 (fun h => h)).cell rfl, ?_⟩
            refine rdF_spec d ok _ ((hD82.fr f140 (by omega)).fr g143 (fun h => h)) (by omega) ((hC82.fr f140 (by omega)).fr g143 (fun h => h)) (by omega) ((hG82.fr f140 (by omega)).fr g143 (fun h => h)) (by omega) (hL140.fr g143 (fun h => h)) qs[q] (by have := hdm _ (List.getElem_mem hq); omega) fun v w147 hv f147 hL147 => ⟨⟨f147.size, fun b hb hn => f147.blk b hb hn⟩, v, rfl, ?_⟩
            intro b150 w151 hb150 hw151
            have g151 : Fr Non w147 w151 := hw151 ▸ (Fr.refl Non w147).alloc _
            have hN : Blk w151 b150 44 [.slice v.base v.len v.cap] := hb150 ▸ hw151 ▸ Blk.new w147 _ _
            have s147 : w140.heap.size ≤ w147.heap.size := f147.size
            have s151 := g151.size
            have k151 : Fr (fun c => c = b64) w140 w151 := ((nL g143).trans' f147).trans' (nL g151)
            have hF151 := hF140.fr (fun _ => EF.st) k151 (fun b hb e => by omega)
            have hv151 := EF.st _ _ _ _ _ (fun b hb => g151.blk b hb.2 (fun h => h)) hv
            obtain ⟨s2, w2, r1, r2, r3⟩ := hF151.push (P := Tryz.prog) kU47 kS64 kZ64 kB64 rfl (by omega) (fun _ => EF.st) (x := rdF d qs[q]) (cx := [.slice v.base v.len v.cap]) hv151 rfl (by intro v hv; simp at hv; subst hv; rfl) (fun b hb => ⟨by omega, fun hh => by have : w140.heap.size ≤ b := hb.1; omega⟩) (a := ⟨b150, 0, none⟩) (c := 1) (cells2 hN) (by simp only [List.length_append, List.length_map, List.length_take]; omega) (by simp only [List.length_append, List.length_map, List.length_take]; omega) 45
            have s2z := r3.size
            have hs2 := (hs140.fr k151 (by omega)).fr r3 (fun hh => hh.2.2 rfl)
            refine ⟨s2, w2, r1, by rw [add_mk]; exact hs2.isS (by simp), by rw [add_mk]; exact hs2.free _, ?_⟩
            intro w154 hw154
            rw [add_mk] at hw154
            have s154 : w154.heap.size = w2.heap.size := by rw [hw154]; simp [World.setCell]
            have r154 : Fr (fun g => g = b93) w2 w154 := hw154 ▸ (Fr.refl (fun g => g = b93) w2).set (a := ⟨b93, 0 + 1, none⟩) (fun _ => rfl) _
            have k2 : Fr (fun c => c = b64) w82 w2 := upL (f140.trans' k151) r3 (fun c hc => by omega)
            refine ⟨qs.length - (q + 1), by omega, q + 1, s2, by rw [w64_id (by omega) (by omega)]; push_cast; rfl, by omega, rfl, ?_, ?_, ?_, ?_, upL k2 r154 (fun c hc => by omega)⟩
            · rw [take_snoc hq, List.map_append, ← List.append_assoc]
              refine (r2.fr (fun _ => EF.st) r154 (fun b hb e => ?_)).mono fun b hb => ?_
              · rcases hb with ⟨⟨_, _, h3⟩ | ⟨h1, h2⟩ | h1, _⟩
                · exact h3 e
                · have : w140.heap.size ≤ b := h1
                  have := hs140.lt; omega
                · have := hs140.lt; omega
              · have := hs140.lt
                rw [s154]
                rcases hb with ⟨⟨h1, h2, h3⟩ | ⟨h1, h2⟩ | h1, h4⟩
                · exact ⟨h1, h4, h3⟩
                · have : w140.heap.size ≤ b := h1
                  exact ⟨by omega, h4, by omega⟩
                · exact ⟨by omega, h4, by omega⟩
            · exact hw154 ▸ hs2.set 1 _
            · exact ((hX140.fr k151 (by omega)).fr r3 (fun hh => by omega)).fr r154 (by omega)
            · have := ((hL147.fr g151 (fun h => h)).fr r3 (fun hh => by omega)).fr r154 (by omega)
              rw [take_snoc hq, any_snoc, ← Bool.or_assoc]; exact this
          · have hq : q = qs.length := by have := of_decide_eq_false h; omega
            subst hq
            rw [List.take_length] at hF140 hL140
            have hO140 := hO82.fr f140 (by omega)
            have hM140 := hM.fr (fun _ => EG.st) f140 (fun b hb e => by omega)
            refine ⟨y, by rw [add_mk]; exact hO140.cell rfl, _, z', hs140.ats [.string (mkS (nmOf d p)), .slice z'.base z'.len z'.cap] 0 0 (fun q v hq => by simpa using hq), ?_⟩
            intro b158 w159 hb158 hw159
            have g159 : Fr Non w140 w159 := hw159 ▸ (Fr.refl Non w140).alloc _
            have hN : Blk w159 b158 79 [.string (mkS (nmOf d p)), .slice z'.base z'.len z'.cap] := hb158 ▸ hw159 ▸ Blk.new w140 _ _
            have s159 := g159.size
            have hM159 := hM140.fr (fun _ => EG.st) g159 (fun _ _ h => h)
            have hF159 := hF140.fr (fun _ => EF.st) g159 (fun _ _ h => h)
            have hsgl := sgU_len d ps j
            have hel : EG w159 [.string (mkS (nmOf d p)), .slice z'.base z'.len z'.cap] (segAt d j p) (fun b => w85.heap.size ≤ b ∧ b < w140.heap.size ∧ b ≠ b93) := ⟨z', by rw [hnm], by rw [hflds]; exact hF159⟩
            obtain ⟨s2, w2, r1, r2, r3⟩ := hM159.push (P := Tryz.prog) kU34 kS49 kZ49 kB49 rfl (by omega) (fun _ => EG.st) (x := segAt d j p) (cx := [.string (mkS (nmOf d p)), .slice z'.base z'.len z'.cap]) hel rfl (by intro v hv; simp at hv; rcases hv with rfl | rfl <;> rfl) (fun b hb => ⟨by omega, fun hh => by omega⟩) (a := ⟨b158, 0, none⟩) (c := 1) (cells2 hN) (by omega) (by omega) 24
            have s2z := r3.size
            have hO2 := (hO140.fr g159 (fun h => h)).fr r3 (fun hh => by omega)
            refine ⟨s2, w2, r1, by rw [add_mk]; exact hO2.isS (by simp [mc]), by rw [add_mk]; exact hO2.free _, ?_⟩
            intro w161 hw161
            rw [add_mk] at hw161
            have s161 : w161.heap.size = w2.heap.size := by rw [hw161]; simp [World.setCell]
            have r161 : Fr D w2 w161 := hw161 ▸ (Fr.refl D w2).set (a := ⟨b72, 0 + 5, none⟩) (fun _ => by rw [hDd]; exact .inr rfl) _
            have k159 : Fr D w82 w159 := (lD f140).trans' (lD (nL g159))
            have k2 : Fr D w77 w2 := upL (f82.trans' k159) r3 (fun c hc => by omega)
            refine ⟨ps.length - (j + 1), by omega, j + 1, s2, by rw [w64_id (by omega) (by omega)]; push_cast; rfl, by omega, rfl, ?_, ?_, ?_, k2.trans' r161⟩
            · rw [hsg]
              refine (r2.fr (fun _ => EG.st) r161 (fun b hb e => ?_)).mono fun b hb => ?_
              · rw [hDd] at e
                rcases hb with ⟨⟨h1, h2⟩ | ⟨h1, h2, h3⟩ | h1, _⟩ <;> rcases e with e | e <;> omega
              · rw [s161]
                rcases hb with ⟨⟨h1, h2⟩ | ⟨h1, h2, h3⟩ | h1, h4⟩ <;> exact ⟨by omega, h4⟩
            · exact hw161 ▸ hO2.set 5 _
            · have h1 := (hL140.fr g159 (fun h => h)).fr r3 (fun hh => by omega)
              have h2 : Blk w161 b64 4 _ := hw161 ▸ h1.ne (a := ⟨b72, 0 + 5, none⟩) (by simp only; omega) _
              rw [hbd, hlb, ← Bool.or_assoc, hx1]; exact h2
        · intro w133 hw133
          have r133 : Fr (fun c => c = b64) w98 w133 := hw133 ▸ (Fr.refl (fun c => c = b64) w98).set (a := ⟨b64, 0, none⟩) (fun _ => rfl) _
          have s133 : w133.heap.size = w98.heap.size := by rw [hw133]; simp [World.setCell]
          refine ⟨(hF98.fr (fun _ => EF.st) r133 (fun b hb e => by omega)).mono (fun b hb => by rw [s133]; exact hb), hs98.fr r133 (by omega), hX98.fr r133 (by omega), ?_, (nL k98).trans' r133⟩
          rw [hx, Bool.true_or]; exact hw133 ▸ hL98.set 0 _
        · intro w135 hw135
          have r135 : Fr (fun c => c = b64) w98 w135 := hw135 ▸ (Fr.refl (fun c => c = b64) w98).set (a := ⟨b64, 0, none⟩) (fun _ => rfl) _
          have s135 : w135.heap.size = w98.heap.size := by rw [hw135]; simp [World.setCell]
          refine ⟨(hF98.fr (fun _ => EF.st) r135 (fun b hb e => by omega)).mono (fun b hb => by rw [s135]; exact hb), hs98.fr r135 (by omega), hX98.fr r135 (by omega), ?_, (nL k98).trans' r135⟩
          have e100 : decide ((100 : Int) < IntKind.i64.wrap ((z.len : Int) + (l97.len : Int))) = decide (100 < fl0.length + qs.length) := by
            rw [w64_id (by omega) (by omega), decide_eq_decide]; omega
          rw [hx, Bool.false_or, ← e100]; exact hw135 ▸ hL98.set 0 _
      · have h0 : j = 0 := by have := beq_iff_eq.1 h0; omega
        rw [if_pos h0] at hk0' hfl0
        rintro w99 rfl
        have g99 := (Fr.refl Non w95).drew
        have hD99 := hD82.fr (k95.trans' g99) (fun h => h)
        have hs99 := hs95.fr g99 (fun h => h)
        have e1 : sg1 (mD d ⟨none, 0, 0⟩) = [d.f] := by simp [sg1, mD, by1]
        have e2 : sg2 (mD d ⟨none, 0, 0⟩) = [d.c, d.r, d.e, d.s] := by simp [sg2, mD, by1]
        refine ⟨⟨none, 0, 0⟩, by rw [add_mk]; exact hs99.cell rfl, _, _, _, _, _, hD99.ats (dvD d) 0 0 (fun q v hq => by simpa using hq), _, _, _, _, _, hD99.ats (dvD d) 0 0 (fun q v hq => by simpa using hq), ?_⟩
        refine signs_spec (mD d ⟨none, 0, 0⟩) (Dg_mD d _) fun w111 g111 => ⟨g111.ext, _, _, rfl, ?_⟩
        rw [e1]
        refine one_spec [d.f] fun y1 w115 hy1 g115 => ⟨g115.ext, y1, rfl, ?_⟩
        refine signs_spec (mD d ⟨none, 0, 0⟩) (Dg_mD d _) fun w118 g118 => ⟨g118.ext, _, _, rfl, ?_⟩
        rw [e2]
        refine one_spec [d.c, d.r, d.e, d.s] fun y2 w122 hy2 g122 => ⟨g122.ext, y2, rfl, ?_⟩
        intro b125 w126 hb125 hw126
        have g126 : Fr Non w122 w126 := hw126 ▸ (Fr.refl Non w122).alloc _
        have hN : Blk w126 b125 44 [.slice y1.base y1.len y1.cap, .slice y2.base y2.len y2.cap] := hb125 ▸ hw126 ▸ Blk.new w122 _ _
        have s111 : w95.heap.size ≤ w111.heap.size := g111.size
        have s115 := g115.size
        have s118 := g118.size
        have s122 := g122.size
        have s126 := g126.size
        have hy1' := EF.st _ _ _ _ _ (fun b hb => ((g118.trans' g122).trans' g126).blk b hb.2 (fun h => h)) hy1
        have hy2' := EF.st _ _ _ _ _ (fun b hb => g126.blk b hb.2 (fun h => h)) hy2
        obtain ⟨s2, w128, r1, r2, r3⟩ := Own.two (P := Tryz.prog) kU47 kS64 kZ64 kB64 rfl EF.st (by omega) hy1' hy2' rfl rfl (fun b hb => by omega) (fun b hb => by omega) (fun b hb hb2 => by omega) hN (c := 2) 45
        have s128 := r3.size
        have k128 : Fr Non w95 w128 := (((((g99.trans' g111).trans' g115).trans' g118).trans' g122).trans' g126).trans' r3
        have hs128 := hs95.fr k128 (fun h => h)
        refine ⟨s2, w128, r1, by rw [add_mk]; exact hs128.isS (by simp), by rw [add_mk]; exact hs128.free _, ?_⟩
        intro w129 hw129
        rw [add_mk] at hw129
        have s129 : w129.heap.size = w128.heap.size := by rw [hw129]; simp [World.setCell]
        have r129 : Fr (fun g => g = b93) w128 w129 := hw129 ▸ (Fr.refl (fun g => g = b93) w128).set (a := ⟨b93, 0 + 1, none⟩) (fun _ => rfl) _
        have h2 := h2len h0
        refine ⟨⟨by omega, by unfold slS; simp only; omega, trivial⟩, s2, fun u hu => ?_, ?_, hw129 ▸ hs128.set 1 _, upN (k95.trans' k128) r129 (fun c hc => by omega), ((hX95.fr k128 (fun h => h)).fr r129 (by omega))⟩
        · have h1 := RdL.dropS 1 (rd_strs (c := (splitP d.f p).length) hu) (Nat.le_refl _) hq1
          have h3 := RdL.dropS 1 h1 (slS_cap _ 1 (Nat.le_refl _)) (by rw [List.length_drop]; omega)
          rw [List.drop_drop] at h3
          rw [← hqs, hk0']
          exact h3
        · rw [hfl0]
          refine (r2.fr (fun _ => EF.st) r129 (fun b hb e => by omega)).mono fun b hb => ?_
          rw [s129]
          rcases hb with ⟨⟨h1, h3⟩ | ⟨h1, h3⟩ | h1, h4⟩ <;> exact ⟨by omega, h4, by omega⟩
      · have h0 : ¬ j = 0 := by have : ((j : Int) == 0) = false := h0; intro e; subst e; simp at this
        rw [if_neg h0] at hk0' hfl0
        refine ⟨⟨none, 0, 0⟩, fun u hu => ?_, by rw [hfl0]; exact Own.nil _ _ _ _ _, hs95, k95, hX95⟩
        have h1 := RdL.dropS 1 (rd_strs (c := (splitP d.f p).length) hu) (Nat.le_refl _) hq1
        rw [← hqs, hk0']
        exact h1
    · have hj : j = ps.length := by have := of_decide_eq_false h; simp only at this; omega
      subst hj
      rw [bdU_all] at hL82
      rw [sgU_all] at hM
      refine ⟨longP d ps, hL82.cell rfl, fun hx => ?_, fun hx => ?_⟩
      · exact herr 2 w82 hZ82 (fin f82) (by rw [hpe, hx]; rfl) (by decide)
      · have he : parseE isName t = 0 := by rw [hpe, hx]; rfl
        have hS : SmM (segsP d ps) := by rw [← sgU_all]; exact sm_sgU d (by omega) fun p hp => by have := hpm p hp; omega
        refine ⟨_, _, _, _, _, y, atsM hO82, canon_spec (mD d y) (segsP d ps) (OwM.rd hM) hS fun y' w177 hy' g177 => ⟨_, _, _, _, _, y', rfl, ?_⟩⟩
        have hZ177 := hZ82.fr g177 (fun h => h)
        refine ⟨mayCells_of hZ177 0 6 (by simp [mc]), ?_⟩
        intro w185 hw185
        have hZ185 : Blk w185 b2 26 (mc (mD d y')) := hw185 ▸ hZ177.setAll (vs := mc (mD d y')) rfl
        have r185 : Fr (fun g => g = b2) w177 w185 := hw185 ▸ (Fr.refl (fun g => g = b2) w177).setAll hZ177 (vs := mc (mD d y')) rfl (fun _ => rfl)
        have s185 := r185.size
        have f177 := (fin f82).trans' g177
        refine ⟨_, _, _, _, _, y', atsM hZ185, hk0 d y' w185 hd he ?_ (upN f177 r185 (fun c hc => by omega))⟩
        rw [hpl]
        exact (hy'.fr (fun _ => EG.st) r185 (fun b hb e => by omega)).mono fun b hb => ⟨by have := (fin f82).size; omega, by omega⟩
  · refine ⟨_, _, _, _, _, 50, rfl, ?_⟩
    intro b19 w20 hb19 hw20
    have g20 : Fr Non w11 w20 := hw20 ▸ (Fr.refl Non w11).alloc _
    have hD20 : Blk w20 b19 23 zD := hb19 ▸ hw20 ▸ Blk.new w11 _ _
    refine ⟨mayCells_of hD20 0 5 (by simp [zD]), ?_⟩
    intro w21 hw21
    have g21 : Fr Non w11 w21 := upN g20 (hw21 ▸ (Fr.refl (fun g => g = b19) w20).setAll hD20 (vs := zD) rfl (fun _ => rfl)) (fun g hg => by omega)
    have g3 := g11.trans' g21
    exact ⟨fun _ => herr 50 w21 (hZ3.fr g3 (fun h => h)) (f3.trans' g3) (by unfold parseE; rw [if_neg (by omega), hn]) (by decide), fun h => absurd h (by decide)⟩
end
end Go.Proofs.YthpeengmcjpknaaGreatDoor
