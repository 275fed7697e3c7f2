/- The law PathGrows. -/
import Derived.Test.YtpkkbbdffhcpaaaDoorMD
import Derived.Test.YtpkkbbdffhcpaaaDoorVR
set_option linter.unusedSimpArgs false
set_option linter.unusedVariables false
namespace Go.Proofs.YtpkkbbdffhcpaaaDoor
open Go.V Go.RowKit
def pg (name : Str) (o : Int) : Pa := ⟨name, o, 1, 1, 1, 1⟩
def vx : Str := [120]
def sgE (name : Str) : Seg := ⟨name, []⟩
def sgX (name : Str) : Seg := ⟨name, [[[[vx]]]]⟩
/-- The list with one segment more. -/
def growL (L : List Seg) (name : Str) : List Seg := canM L ++ [sgX name]
theorem stL_pg {L : List Seg} {name : Str} : stL L (pg name ((cnt name L : Nat) + 1)) vx = growL L name := by
  have hg : grownS L (pg name ((cnt name L : Nat) + 1)) = L ++ [sgE name] := if_pos rfl
  have ha : atF name ((cnt name L : Nat) + 1) (L ++ [sgE name]) = some L.length := by
    refine find_some (by simp) (fun i hi => ?_) ?_
    · show atp name _ _ i = false
      rw [atp_eq name _ (by simp; omega)]
      have h1 : (L ++ [sgE name]).take (i + 1) = L.take (i + 1) := List.take_append_of_le_length (by omega)
      have h2 := cnt_take_le name L (i + 1)
      rw [h1, decide_eq_false (by omega), Bool.and_false]
    · show atp name _ _ L.length = true
      rw [atp_eq name _ (by simp)]
      have h1 : (L ++ [sgE name]).take (L.length + 1) = L ++ [sgE name] := List.take_of_length_le (by simp)
      rw [h1, cnt_app]
      simp [sgE]
  have e : stL L (pg name ((cnt name L : Nat) + 1)) vx = match atF name ((cnt name L : Nat) + 1) (grownS L (pg name ((cnt name L : Nat) + 1))) with
    | some i => canM ((grownS L (pg name ((cnt name L : Nat) + 1))).modify i (modS (pg name ((cnt name L : Nat) + 1)) vx))
    | none => [] := rfl
  rw [e, hg, ha]
  have hm : (L ++ [sgE name]).modify L.length (modS (pg name ((cnt name L : Nat) + 1)) vx) = L ++ [sgX name] := by
    apply List.ext_getElem
    · simp
    · intro i h1 h2
      rw [List.getElem_modify]
      by_cases hi : i < L.length
      · rw [if_neg (by omega), List.getElem_append_left hi, List.getElem_append_left hi]
      · have : i = L.length := by simp at h2; omega
        subst this
        rw [if_pos rfl]
        simp only [List.getElem_append_right (Nat.le_refl _), Nat.sub_self, List.getElem_cons_zero]
        rfl
  show canM ((L ++ [sgE name]).modify L.length (modS (pg name ((cnt name L : Nat) + 1)) vx)) = growL L name
  rw [hm]
  unfold canM growL canM
  rw [List.map_append]
  rfl
theorem grow_len (L : List Seg) (name : Str) : (growL L name).length = L.length + 1 := by unfold growL canM; simp
theorem grow_lt {L : List Seg} {name : Str} {i : Nat} (hil : i < L.length) (h : i < (growL L name).length) : (growL L name)[i] = canG L[i] := by
  have : (growL L name)[i]? = some (canG L[i]) := by
    unfold growL canM
    rw [List.getElem?_append_left (by simpa using hil), List.getElem?_map, List.getElem?_eq_getElem hil]; rfl
  rw [List.getElem?_eq_getElem h] at this; exact Option.some.inj this
theorem grow_eq {L : List Seg} {name : Str} (h : L.length < (growL L name).length) : (growL L name)[L.length] = sgX name := by
  have : (growL L name)[L.length]? = some (sgX name) := by
    unfold growL canM
    rw [List.getElem?_append_right (by simp)]; simp
  rw [List.getElem?_eq_getElem h] at this; exact Option.some.inj this
theorem setE_pg {m : Mh} {L : List Seg} {name : Str} {o : Int} (h : askE m L (pg name o) false = 0) : setE m L (pg name o) = if ((cnt name L : Nat) : Int) + 1 < o then 3 else if (decide (o = ((cnt name L : Nat) : Int) + 1) && decide (200 ≤ L.length)) = true then 2 else 0 := by
  unfold setE
  rw [if_neg (by rw [h]; simp)]
  exact if_neg (by show ¬ (decide ((100 : Int) < 1) || decide ((50 : Int) < max (max 1 1) 1)) = true; decide)
theorem cnt_can (name : Str) (L : List Seg) : cnt name (canM L) = cnt name L := by
  unfold cnt canM; rw [List.countP_map]; rfl
theorem cnt_grow (name : Str) (L : List Seg) : cnt name (growL L name) = cnt name L + 1 := by
  unfold growL; rw [cnt_app, cnt_can]; simp [sgX]
theorem Sm_grow {L : List Seg} {name : Str} (h : SmM L) (hl : L.length < BB) (hn : name.length ≤ BB) : SmM (growL L name) := by
  refine ⟨by unfold growL canM; simp; omega, fun g hg => ?_⟩
  unfold growL at hg
  rcases List.mem_append.1 hg with hg | hg
  · exact (SmM_can h).2 g hg
  · simp at hg; subst hg
    refine ⟨hn, by simp [BB, sgX], fun f hf => ?_⟩
    simp [sgX] at hf; subst hf
    refine ⟨by simp [BB], fun r hr => ?_⟩
    simp at hr; subst hr
    refine ⟨by simp [BB], fun c hc => ?_⟩
    simp at hc; subst hc
    exact ⟨by simp [BB], fun u hu => by simp at hu; subst hu; simp [BB, vx]⟩
theorem valid_parts {m : Mh} {L : List Seg} (h : validM m L = true) : dvB m = true ∧ 1 ≤ L.length ∧ L.length ≤ 200 ∧ (∀ i (hi : i < L.length), okAt i L[i] = true) ∧ headB m L = true := by
  unfold validM at h
  simp only [Bool.and_eq_true, decide_eq_true_eq] at h
  obtain ⟨h1, h2, h3, h4, h5⟩ := h
  refine ⟨h1, h2, h3, fun i hi => ?_, h5⟩
  have := List.all_eq_true.1 h4 i (List.mem_range.2 hi)
  unfold okI at this; rw [List.getElem?_eq_getElem hi] at this; exact this
theorem valid_of {m : Mh} {L : List Seg} (h1 : dvB m = true) (h2 : 1 ≤ L.length) (h3 : L.length ≤ 200) (h4 : ∀ i (hi : i < L.length), okAt i L[i] = true) (h5 : headB m L = true) : validM m L = true := by
  unfold validM
  rw [h1, decide_eq_true h2, decide_eq_true h3, h5, allR_all (fun i hi => by unfold okI; rw [List.getElem?_eq_getElem hi]; exact h4 i hi)]; rfl
theorem okAt_can {i : Nat} {g : Seg} (h : okAt i g = true) : okAt i (canG g) = true := by
  unfold okAt at *
  simp only [Bool.and_eq_true] at *
  exact ⟨h.1, h.2.1, fitsG_can h.2.2⟩
theorem isB_eq {f : Fldt} {v : Str} (h : isB f v = true) : f = [[[v]]] := of_decide_eq_true h
theorem headB_can {m : Mh} {g : Seg} {r r' : List Seg} (h : headB m (g :: r) = true) : headB m (canG g :: r') = true := by
  have h : (decide (2 ≤ g.flds.length) && (isB (g.flds.getD 0 []) (sg1 m) && isB (g.flds.getD 1 []) (sg2 m))) = true := h
  simp only [Bool.and_eq_true, decide_eq_true_eq] at h
  obtain ⟨h1, h2, h3⟩ := h
  have e0 : g.flds[0] = [[[sg1 m]]] := by
    have := isB_eq h2
    rw [List.getD_eq_getElem?_getD, List.getElem?_eq_getElem (by omega)] at this; exact this
  have e1 : g.flds[1] = [[[sg2 m]]] := by
    have := isB_eq h3
    rw [List.getD_eq_getElem?_getD, List.getElem?_eq_getElem (by omega)] at this; exact this
  obtain ⟨c0, d0⟩ := canS_at (l := g.flds) (j := 0) (by omega) e0 rfl
  obtain ⟨c1, d1⟩ := canS_at (l := g.flds) (j := 1) (by omega) e1 rfl
  show (decide (2 ≤ (canS g.flds).length) && (isB ((canS g.flds).getD 0 []) (sg1 m) && isB ((canS g.flds).getD 1 []) (sg2 m))) = true
  rw [decide_eq_true (by omega), List.getD_eq_getElem?_getD, List.getD_eq_getElem?_getD, List.getElem?_eq_getElem c0, List.getElem?_eq_getElem c1]
  simp only [Option.getD_some, d0, d1]
  unfold isB; simp
theorem valid_grow {m : Mh} {L : List Seg} {name : Str} (h : validM m L = true) (hl : L.length < 200) (hn : isName name = true) (hm : (name == msh) = false) : validM m (growL L name) = true := by
  obtain ⟨h1, h2, h3, h4, h5⟩ := valid_parts h
  have hlen := grow_len L name
  refine valid_of h1 (by omega) (by omega) (fun i hi => ?_) ?_
  · by_cases hil : i < L.length
    · rw [grow_lt hil hi]; exact okAt_can (h4 i hil)
    · have hi' : i = L.length := by omega
      subst hi'
      rw [grow_eq hi]
      unfold okAt sgX
      simp only [hn, hm, Bool.true_and]
      rw [decide_eq_false (show ¬ L.length = 0 by omega)]
      rfl
  · match L, h2 with
    | g :: r, _ =>
      show headB m (canG g :: (canM r ++ [sgX name])) = true
      exact headB_can h5
theorem may_pg {name : Str} {o : Int} (hv : validP (pg name o) = true) (hm : (name == msh) = false) : mayP (pg name o) false = true := by
  have hne : name ≠ msh := by intro e; subst e; simp at hm
  have hn : neverP (pg name o) = false := by
    unfold neverP; rw [decide_eq_false]
    rintro (h | h)
    · exact hne (congrArg Prod.fst h)
    · exact hne (congrArg Prod.fst h)
  unfold mayP
  rw [hv, hn, show ((pg name o).seg == msh) = false from hm]
  rfl
section
variable {w : World} {k : Value → World → Prop}
set_option maxHeartbeats 4000000 in
theorem grows_spec (m : Mh) (name : Str) (n : Int) (l : List Seg) (hR : RM w m.s l) (hS : SmM l) (hd : Dg m) (hp : name.length ≤ 1000000000000) (hlen : l.length ≤ 1000000000) (hk : ∀ w', Fr Non w w' → k (.bool true) w') : Cl Tryd.prog 7 [.agg (List.toArray (mc m)), .string (mkS name), .int .i64 n] w k := by
  refine f7_ok ?_
  unfold f7
  intro b9 w10 hb9 hw10
  have f10 : Fr Non w w10 := hw10 ▸ (Fr.refl Non w).alloc _
  have hM : Blk w10 b9 36 (mc m) := hb9 ▸ hw10 ▸ Blk.new w (mc m) 36
  have ats : ∀ {w' : World} {b : Nat} {m : Mh}, Blk w' b 36 (mc m) → cellsAt w' ⟨b, 0, none⟩ 0 (mc m) := fun h => h.ats (mc _) 0 0 (fun q v hq => by simpa using hq)
  have al : ∀ {w1 : World}, Fr Non w w1 → Cl Tryd.prog 8 [] w1 (fun v w2 => ∃ x : Bool, v = .bool x ∧ k (.bool x) w2) := fun f => alive_spec fun w2 g => ⟨true, rfl, hk _ (f.trans' g)⟩
  refine ⟨fun v w' => (v = false → validM m l = true ∧ 0 ≤ n ∧ n ≤ 12 ∧ (name == msh) = false ∧ validP ⟨name, 1, 0, 0, 0, 0⟩ = true) ∧ Fr Non w10 w', ?_, m.d1, m.d2, m.d3, m.d4, m.d5, m.s, ats hM, light_any m l (hR.fr f10) hS fun b w20 g20 => ⟨b, rfl, fun _ => ⟨fun h => (by cases h), g20⟩, fun _ => ?_⟩⟩
  case refine_2 =>
    refine ⟨m.d1, m.d2, m.d3, m.d4, m.d5, m.s, ats (hM.fr g20 (fun h => h)), tvalid_spec m l (hR.fr (f10.trans' g20)) hS hd fun w29 g29 => ⟨_, rfl, fun _ => ⟨fun h => (by cases h), g20.trans' g29⟩, fun hv => ⟨fun _ => ⟨fun h => (by cases h), g20.trans' g29⟩, fun h1 => ⟨fun _ => ⟨fun h => (by cases h), g20.trans' g29⟩, fun h2 => ⟨fun _ => ⟨fun h => (by cases h), g20.trans' g29⟩, fun h3 => ?_⟩⟩⟩⟩⟩
    refine valid_spec ⟨name, 1, 0, 0, 0, 0⟩ (by show name.length ≤ _; omega) fun w32 g32 => ⟨_, rfl, fun h4 => ⟨(Bool.not_eq_false' _).mp hv, ?_, ?_, h3, (Bool.not_eq_false' _).mp h4⟩, (g20.trans' g29).trans' g32⟩
    · have := of_decide_eq_false h1; omega
    · have := of_decide_eq_false h2; omega
  rintro v w13 ⟨hvv, g13⟩
  refine ⟨fun _ => al (f10.trans' g13), fun hv => ?_⟩
  obtain ⟨hval, hn0, hn1, hmsh, hvp⟩ := hvv hv
  have hname : isName name = true := by unfold validP at hvp; simp only [Bool.and_eq_true] at hvp; exact hvp.1.1
  have hpl : name.length ≤ 1000000000000000 := by omega
  have f13 := f10.trans' g13
  refine ⟨m.d1, m.d2, m.d3, m.d4, m.d5, m.s, ats (hM.fr g13 (fun h => h)), count_spec m name l (hR.fr f13) hS.1 fun w44 g44 => ⟨_, rfl, ?_⟩⟩
  have f44 := f13.trans' g44
  have hM44 := (hM.fr g13 (fun h => h)).fr g44 (fun h => h)
  have hc0 := cnt_le name l
  refine ⟨fun t i w' => ∃ (j : Nat) (y : Sl) (L : List Seg), i = ((j + 1 : Nat) : Int) ∧ j ≤ n.toNat ∧ t = n.toNat - j ∧ Blk w' b9 36 (mc { m with s := y }) ∧ RM w' y L ∧ SmM L ∧ validM m L = true ∧ cnt name L = cnt name l + j ∧ Fr Non w w',
    ⟨n.toNat, 0, m.s, l, rfl, by omega, by omega, hM44, hR.fr f44, hS, hval, rfl, f44⟩, ?_⟩
  rintro t i w51 ⟨j, y, L, rfl, hj, rfl, hB, hRL, hSL, hvL, hcL, f51⟩
  obtain ⟨v1, v2, v3, v4, v5⟩ := valid_parts hvL
  have hcl := cnt_le name L
  refine ⟨fun h b52 w53 hb52 hw53 => ?_, fun h => al f51⟩
  have hj : j < n.toNat := by have := of_decide_eq_true h; omega
  have eo : IntKind.i64.wrap (((cnt name l : Nat) : Int) + ((j + 1 : Nat) : Int)) = ((cnt name L : Nat) : Int) + 1 := by rw [w64_id (by omega) (by omega)]; omega
  rw [eo]
  have g53 : Fr Non w51 w53 := hw53 ▸ (Fr.refl Non w51).alloc _
  have hP53 : Blk w53 b52 23 (pc zPa) := hb52 ▸ hw53 ▸ Blk.new w51 _ _
  refine ⟨mayCells_of hP53 0 6 (by simp [pc]), ?_⟩
  intro w54 hw54
  have hP : Blk w54 b52 23 (pc (pg name ((cnt name L : Nat) + 1))) := hw54 ▸ hP53.setAll rfl
  have g54 : Fr Non w51 w54 := upN g53 (hw54 ▸ (Fr.refl (fun g => g = b52) w53).setAll hP53 (vs := pc (pg name ((cnt name L : Nat) + 1))) rfl (fun _ => rfl)) (fun g hg => by omega)
  have hB54 := hB.fr g54 (fun h => h)
  have lb9 := hB.lt
  refine ⟨fun v w' => (v = false → validP (pg name ((cnt name L : Nat) + 1)) = true ∧ L.length < 200) ∧ Fr Non w54 w', ?_, _, _, _, _, _, _, patat hP, valid_spec (pg name ((cnt name L : Nat) + 1)) hpl fun w64 g64 => ⟨_, rfl, fun _ => ⟨fun h => (by cases h), g64⟩, fun hv1 => ⟨y, by rw [add_mk]; exact (hB54.fr g64 (fun h => h)).cell rfl, fun hv2 => ⟨(Bool.not_eq_false' _).mp hv1, ?_⟩, g64⟩⟩⟩
  case refine_2 => have := of_decide_eq_false hv2; have := hRL.1; omega
  rintro v w57 ⟨hvv, g57⟩
  refine ⟨fun _ => al ((f51.trans' g54).trans' g57), fun hv => ?_⟩
  obtain ⟨hvpg, hl200⟩ := hvv hv
  have f57 := (f51.trans' g54).trans' g57
  have k57 := g54.trans' g57
  have hP57 := hP.fr g57 (fun h => h)
  have hB57 := hB.fr k57 (fun h => h)
  have lb52 := hP.lt
  refine ⟨_, _, _, _, _, _, patat hP57, ?_⟩
  intro b77 w78 hb77 hw78
  have g78 : Fr Non w57 w78 := hw78 ▸ (Fr.refl Non w57).alloc _
  have hF78 : Blk w78 b77 23 (pc zPa) := hb77 ▸ hw78 ▸ Blk.new w57 _ _
  refine ⟨mayCells_of hF78 0 6 (by simp [pc]), ?_⟩
  intro w79 hw79
  have hF79 : Blk w79 b77 23 (pc (pg name ((cnt name L : Nat) + 1))) := hw79 ▸ hF78.setAll rfl
  have g79 : Fr Non w57 w79 := upN g78 (hw79 ▸ (Fr.refl (fun g => g = b77) w78).setAll hF78 (vs := pc (pg name ((cnt name L : Nat) + 1))) rfl (fun _ => rfl)) (fun g hg => by omega)
  rw [add_mk]
  refine ⟨(cnt name L : Nat) + 1, hF79.cell rfl, hF79.isS (by simp [pc]), hF79.free _, ?_⟩
  have ef : IntKind.i64.wrap (((cnt name L : Nat) : Int) + 1 + 1) = ((cnt name L : Nat) : Int) + 2 := by rw [w64_id (by omega) (by omega)]; omega
  rw [ef]
  rintro w81 rfl
  have hF : Blk (w79.setCell ⟨b77, 0 + 1, none⟩ (.int .i64 (((cnt name L : Nat) : Int) + 2))) b77 23 (pc (pg name ((cnt name L : Nat) + 2))) := hF79.set 1 _
  have g81 : Fr Non w57 (w79.setCell ⟨b77, 0 + 1, none⟩ (.int .i64 (((cnt name L : Nat) : Int) + 2))) := g79.set (a := ⟨b77, 0 + 1, none⟩) (fun h => by simp only at h; omega) _
  generalize w79.setCell ⟨b77, 0 + 1, none⟩ (.int .i64 (((cnt name L : Nat) : Int) + 2)) = w81 at hF g81 ⊢
  have f81 := f57.trans' g81
  have k81 := k57.trans' g81
  refine ⟨m.d1, m.d2, m.d3, m.d4, m.d5, y, ats (hB57.fr g81 (fun h => h)), _, _, _, _, _, _, patat hF, ?_⟩
  have hocc2 : -9223372036854775808 ≤ (pg name ((cnt name L : Nat) + 2)).occ ∧ (pg name ((cnt name L : Nat) + 2)).occ ≤ 9223372036854775807 := by
    show -9223372036854775808 ≤ ((cnt name L : Nat) : Int) + 2 ∧ ((cnt name L : Nat) : Int) + 2 ≤ 9223372036854775807
    omega
  have hocc1 : -9223372036854775808 ≤ (pg name ((cnt name L : Nat) + 1)).occ ∧ (pg name ((cnt name L : Nat) + 1)).occ ≤ 9223372036854775807 := by
    show -9223372036854775808 ≤ ((cnt name L : Nat) : Int) + 1 ∧ ((cnt name L : Nat) : Int) + 1 ≤ 9223372036854775807
    omega
  have hask : ∀ o : Int, validP (pg name o) = true → askE { m with s := y } L (pg name o) false = 0 := fun o ho => by
    unfold askE
    rw [if_pos (show validM { m with s := y } L = true from hvL), if_pos (may_pg ho hmsh)]
  have hset : setE { m with s := y } L (pg name ((cnt name L : Nat) + 1)) = 0 := by
    rw [setE_pg (hask _ hvpg), if_neg (by omega), if_neg]
    rw [Bool.and_eq_true, decide_eq_true_eq, decide_eq_true_eq]
    rintro ⟨_, h⟩; omega
  -- far is refused
  have hfar : validP (pg name ((cnt name L : Nat) + 2)) = true → setE { m with s := y } L (pg name ((cnt name L : Nat) + 2)) = 3 := fun ho => by
    rw [setE_pg (hask _ ho), if_pos (by omega)]
  have hfar0 : setE { m with s := y } L (pg name ((cnt name L : Nat) + 2)) ≠ 0 := by
    cases hv : validP (pg name ((cnt name L : Nat) + 2)) with
    | true => rw [hfar hv]; decide
    | false =>
      have hmay : mayP (pg name ((cnt name L : Nat) + 2)) false = false := by unfold mayP; rw [hv]; rfl
      have h60 : askE { m with s := y } L (pg name ((cnt name L : Nat) + 2)) false = 60 := by
        unfold askE; rw [if_pos (show validM { m with s := y } L = true from hvL), hmay]; rfl
      unfold setE
      rw [if_pos (by rw [h60]; decide), h60]; decide
  refine setP_spec { m with s := y } (pg name ((cnt name L : Nat) + 2)) vx L (hRL.fr k81) hSL hd (by show name.length ≤ _; omega) hocc2 (by simp [vx, BB]) (by unfold BB; omega) (fun h => absurd h hfar0) fun _ w94 g94 => ?_
  refine ⟨_, _, _, _, _, _, _, rfl, ?_⟩
  intro b103 w104 hb103 hw104
  have g104 : Fr Non w81 w104 := hw104 ▸ g94.alloc _
  have hX104 : Blk w104 b103 36 (mc mz) := hb103 ▸ hw104 ▸ Blk.new w94 _ _
  have z94 := g94.size
  refine ⟨mayCells_of hX104 0 6 (by simp [mc]), ?_⟩
  intro w105 hw105
  have g105 : Fr Non w81 w105 := hw105 ▸ g104.setAll hX104 (vs := mc mz) rfl (fun h => absurd h (by omega))
  refine ⟨fun v w' => v = false ∧ Fr Non w81 w', ?_, _, _, _, _, _, _, patat (hF.fr g105 (fun h => h)), valid_spec (pg name ((cnt name L : Nat) + 2)) hpl fun w115 g115 => ⟨_, rfl, fun hv => ⟨?_, g105.trans' g115⟩, fun _ => ⟨rfl, g105.trans' g115⟩⟩⟩
  case refine_2 => rw [hfar hv]; rfl
  rintro v w108 ⟨rfl, g108⟩
  refine ⟨fun h => (by cases h), fun _ => ?_⟩
  have k108 := k81.trans' g108
  have f108 := f51.trans' k108
  have hB108 := hB.fr k108 (fun h => h)
  have hP108 := (hP57.fr g81 (fun h => h)).fr g108 (fun h => h)
  refine ⟨m.d1, m.d2, m.d3, m.d4, m.d5, y, ats hB108, _, _, _, _, _, _, patat hP108, ?_⟩
  refine setP_spec { m with s := y } (pg name ((cnt name L : Nat) + 1)) vx L (hRL.fr k108) hSL hd (by show name.length ≤ _; omega) hocc1 (by simp [vx, BB]) (by unfold BB; omega) (fun _ y2 w130 ho2 g130 => ?_) (fun h => absurd hset h)
  rw [stL_pg] at ho2
  have hR2 := OwM.rd ho2
  have k130 := k108.trans' g130
  have f130 := f51.trans' k130
  refine ⟨m.d1, m.d2, m.d3, m.d4, m.d5, y2, 0, rfl, ?_⟩
  intro b139 w140 hb139 hw140
  have g140 : Fr Non w130 w140 := hw140 ▸ (Fr.refl Non w130).alloc _
  have hX140 : Blk w140 b139 36 (mc mz) := hb139 ▸ hw140 ▸ Blk.new w130 _ _
  refine ⟨mayCells_of hX140 0 6 (by simp [mc]), ?_⟩
  intro w141 hw141
  have hX : Blk w141 b139 36 (mc { m with s := y2 }) := hw141 ▸ hX140.setAll rfl
  have g141 : Fr Non w130 w141 := upN g140 (hw141 ▸ (Fr.refl (fun g => g = b139) w140).setAll hX140 (vs := mc { m with s := y2 }) rfl (fun _ => rfl)) (fun g hg => by omega)
  have k141 := k130.trans' g141
  have hSg : SmM (growL L name) := Sm_grow hSL (by unfold BB; omega) (by unfold BB; omega)
  have hy2 := hR2.1
  rw [grow_len] at hy2
  refine ⟨fun v w' => v = false ∧ Fr Non w141 w', ?_, fun h => (by cases h), fun _ => ⟨m.d1, m.d2, m.d3, m.d4, m.d5, y2, ats hX, ?_⟩⟩
  · rintro v w144 ⟨rfl, g144⟩
    refine ⟨fun h => (by cases h), fun _ => ?_⟩
    have k144 := k141.trans' g144
    have hB144 := hB.fr k144 (fun h => h)
    have lb : w51.heap.size ≤ w130.heap.size := k130.size
    refine ⟨m.d1, m.d2, m.d3, m.d4, m.d5, y2, ats (hX.fr g144 (fun h => h)), mayCells_of hB144 0 6 (by simp [mc]), ?_⟩
    rintro w165 rfl
    have hh : Fr (fun b => b = b9) w144 (setCells w144 ⟨b9, 0, none⟩ 0 (mc { m with s := y2 })) := (Fr.refl (fun b => b = b9) w144).setAll hB144 rfl (fun _ => rfl)
    have ho3 : OwM (setCells w144 ⟨b9, 0, none⟩ 0 (mc { m with s := y2 })) y2 (growL L name) (fun b => w108.heap.size ≤ b) := by
      have z108 := k108.size
      exact (ho2.fr (fun _ => EG.st) (g141.trans' g144) (fun _ _ h => h)).fr (fun _ => EG.st) hh (fun b hb => by omega)
    refine ⟨n.toNat - (j + 1), by omega, j + 1, y2, growL L name, by rw [w64_id (by omega) (by omega)]; push_cast; rfl, by omega, rfl, hB144.setAll rfl, OwM.rd ho3, hSg, valid_grow hvL hl200 hname hmsh, by rw [cnt_grow]; omega, ?_⟩
    have z10 : w.heap.size ≤ b9 := by omega
    exact upN (f51.trans' k144) hh (fun g hg => by omega)
  · refine count_spec { m with s := y2 } name (growL L name) (hR2.fr g141) hSg.1 fun w151 g151 => ⟨_, rfl, fun h => ?_, fun _ => ?_⟩
    · rw [cnt_grow] at h; simp at h
    have hX151 := hX.fr g151 (fun h => h)
    have hc5 : w151.cell? ((⟨b139, 0, none⟩ : Addr).add 5) = some (.slice y2.base y2.len y2.cap) := by rw [add_mk]; exact hX151.cell rfl
    obtain ⟨a, ha, hn, _⟩ := (hR2.fr (g141.trans' g151)).2 L.length (by rw [grow_len]; omega)
    rw [grow_eq] at hn
    have e1 : IntKind.i64.wrap ((y2.len : Int) - 1) = (L.length : Int) := by rw [w64_id (by omega) (by omega)]; omega
    refine ⟨y2, hc5, fun h => ?_, fun _ => ⟨y2, hc5, y2, hc5, a, ha, ?_, name, ?_, ?_, g151⟩⟩
    · simp at h; omega
    · rw [e1]; omega
    · rw [e1]; exact hn
    · simp
end
end Go.Proofs.YtpkkbbdffhcpaaaDoor
