/- token.Copy: a message with lists of its own. -/
import Derived.Test.YtoaoofobidhfjaaGreatDoorEC
set_option linter.unusedSimpArgs false
set_option linter.unusedVariables false
namespace Go.Proofs.YtoaoofobidhfjaaGreatDoor
open Go.V Go.RowKit
section
variable {w : World} {k : Value → World → Prop}
theorem strs_own {s : Sl} {c : Cmp} {G F : Nat → Prop} (h : SlOk w 9 1 s (c.map fun u => .string (mkS u)) G) (hG : ∀ b, G b → b < w.heap.size ∧ F b) : OwC w s c F := by
  refine ⟨c.map fun u => .string (mkS u), G, fun _ _ => False, ?_⟩
  refine ⟨h, by have := h.len; rw [List.length_map] at this; omega, hG, fun i hi b hb => hb.elim, fun i j hi hj hij b hb => hb.elim, fun i hi => ?_, fun v hv => ?_⟩
  · rw [cut_map hi]; rfl
  · obtain ⟨u, _, rfl⟩ := List.mem_map.1 hv; rfl
theorem cloneC_spec (x : Sl) (c : Cmp) (hx : RdL 1 RdStr w x c) (hl : c.length ≤ BB) (hk : ∀ (y : Sl) w', OwC w' y c (fun b => w.heap.size ≤ b ∧ b < w'.heap.size) → Fr Non w w' → k (.slice y.base y.len y.cap) w') : Cl Tryz.prog 61 [.slice x.base x.len x.cap] w k := by
  refine f61_ok ?_
  unfold f61
  have hL := hx.1
  unfold BB at hl
  refine ⟨fun h => ?_, fun h => ?_⟩
  · have hc : c = [] := by
      cases c with
      | nil => rfl
      | cons a r =>
        obtain ⟨b, hb, _⟩ := hx.2 0 (by simp)
        rw [hb] at h; cases h
    subst hc
    exact hk ⟨none, 0, 0⟩ w (Own.nil _ _ _ _ _) (Fr.refl _ _)
  intro b2 w3 hb2 hw3
  have f3 : Fr Non w w3 := hw3 ▸ (Fr.refl Non w).alloc _
  have hB : Blk w3 b2 9 [] := hb2 ▸ hw3 ▸ Blk.new w [] _
  obtain ⟨a, ha⟩ : ∃ a, x.base = some a := by
    cases hb : x.base with
    | none => rw [hb] at h; cases h
    | some a => exact ⟨a, rfl⟩
  have hx3 := hx.fr RdStr.stay f3
  have ho : SlOk w3 9 1 ⟨some ⟨b2, 0, none⟩, 0, 0⟩ [] (fun g => g = b2) := .inr ⟨b2, rfl, rfl, Nat.le_refl _, 0, [], rfl, hB, by simp, rfl⟩
  obtain ⟨s4, w5, hr, h1, h2, h3⟩ := append_own (P := Tryz.prog) (t := 36) (e := 9) (z := .string (mkS [])) (sz := 1) (by_ := 16) kU66 kS9 kZ9 kB9 rfl (by omega) ho (news := c.map fun u => .string (mkS u)) (m := x.len) (c := x.cap) (by rw [List.length_map]; omega)
    (.inr ⟨a, rfl, fun j u hj => by
      rw [List.getElem?_map, Option.map_eq_some_iff] at hj
      obtain ⟨v, hv, rfl⟩ := hj
      obtain ⟨hj2, rfl⟩ := List.getElem?_eq_some_iff.1 hv
      obtain ⟨a2, ha2, hz⟩ := hx3.2 j hj2
      rw [ha] at ha2; cases ha2
      rw [Nat.mul_one] at hz; exact hz⟩) (fun u hu => by obtain ⟨v, _, rfl⟩ := List.mem_map.1 hu; rfl) (by simp only; omega) (by simp only; omega) 36
  rw [List.nil_append] at h1
  have s3 := f3.size
  have s5 := h3.size
  have l2 := hB.lt
  rw [ha]
  refine ⟨s4, w5, hr, hk s4 w5 (strs_own (G := fun b => (b = b2 ∨ b = w3.heap.size) ∧ b < w5.heap.size) ?_ fun b hb => ⟨hb.2, by omega, hb.2⟩) (upN f3 h3 (fun g hg => by omega))⟩
  rcases h1 with h1 | ⟨g, hg, hA⟩
  · exact .inl h1
  · exact .inr ⟨g, ⟨hg, hA.lt⟩, hA⟩
set_option maxHeartbeats 4000000 in
theorem tcopy_spec (m : Mh) (l : List Seg) (hR : RM w m.s l) (hS : SmM l) (hk : ∀ (y : Sl) w', OwM w' y l (fun b => w.heap.size ≤ b ∧ b < w'.heap.size) → Fr Non w w' → k (.agg (List.toArray (mc { m with s := y }))) w') : Cl Tryz.prog 19 [.agg (List.toArray (mc m))] w k := by
  refine f19_ok ?_
  unfold f19
  intro b7 w8 hb7 hw8 b9 w10 hb9 hw10
  have f8 : Fr Non w w8 := hw8 ▸ (Fr.refl Non w).alloc _
  have g10 : Fr Non w8 w10 := hw10 ▸ (Fr.refl Non w8).alloc _
  have hM8 : Blk w8 b7 26 (mc m) := hb7 ▸ hw8 ▸ Blk.new w (mc m) 26
  have hM10 := hM8.fr g10 (fun h => h)
  have hZ10 : Blk w10 b9 26 (mc zM) := hb9 ▸ hw10 ▸ Blk.new w8 _ _
  refine ⟨m.d1, m.d2, m.d3, m.d4, m.d5, ats5 hM10, ?_⟩
  intro b16 w17 hb16 hw17
  have g17 : Fr Non w10 w17 := hw17 ▸ (Fr.refl Non w10).alloc _
  have hO17 : Blk w17 b16 26 (mc zM) := hb16 ▸ hw17 ▸ Blk.new w10 _ _
  refine ⟨mayCells_of hO17 0 6 (by simp [mc]), ?_⟩
  intro w18 hw18
  have g18 : Fr Non w10 w18 := upN g17 (hw18 ▸ (Fr.refl (fun g => g = b16) w17).setAll hO17 (vs := mc { m with s := ⟨none, 0, 0⟩ }) rfl (fun _ => rfl)) (fun g hg => by omega)
  have hO18 : Blk w18 b16 26 (mc { m with s := ⟨none, 0, 0⟩ }) := hw18 ▸ hO17.setAll rfl
  have hM18 := hM10.fr g18 (fun h => h)
  have hZ18 := hZ10.fr g18 (fun h => h)
  have f18 : Fr Non w w18 := (f8.trans' g10).trans' g18
  have s18 := f18.size
  have l16 := hO18.lt
  have l9 : b9 < w10.heap.size := hZ10.lt
  have l916 : b9 < b16 := by omega
  have lw9 : w.heap.size ≤ b9 := by have := f8.size; omega
  have hL := hR.1
  obtain ⟨hS0, hSG⟩ := hS
  unfold BB at hS0
  -- what may turn: the message under way
  have nO : ∀ {u u' : World}, Fr Non u u' → Fr (fun c => c = b16) u u' := fun f => f.mono fun _ _ h => h.elim
  have fin : ∀ {u : World}, Fr (fun c => c = b16) w18 u → Fr Non w u := fun f => upN f18 f fun g hg => by omega
  refine ⟨m.s, by rw [add_mk]; exact hM18.cell rfl, fun t i w' => ∃ (j : Nat) (y : Sl), i = j ∧ j ≤ l.length ∧ t = l.length - j ∧ OwM w' y (l.take j) (fun b => w18.heap.size ≤ b ∧ b < w'.heap.size) ∧ Blk w' b16 26 (mc { m with s := y }) ∧ Fr (fun c => c = b16) w18 w',
    ⟨l.length, 0, ⟨none, 0, 0⟩, rfl, by omega, by omega, Own.nil _ _ _ _ _, hO18, Fr.refl _ _⟩, ?_⟩
  rintro t i w24 ⟨j, y, rfl, hj, rfl, ho, hO, f24⟩
  have s24 := f24.size
  refine ⟨fun h => ?_, fun h => ?_⟩
  · have hj : j < l.length := by have := of_decide_eq_true h; omega
    obtain ⟨a, ha, hn, x, hx, hX⟩ := (hR.fr (fin f24)).2 j hj
    obtain ⟨_, hS1, hSF⟩ := hSG _ (List.getElem_mem hj)
    unfold BB at hS1
    have hts := take_snoc hj
    generalize hg : l[j] = g at hn hx hX hS1 hSF hts
    refine ⟨a, ha, ⟨by omega, by omega⟩, g.name, x, ⟨hn, hx, trivial⟩, ?_⟩
    intro b28 w29 hb28 hw29
    have g29 : Fr Non w24 w29 := hw29 ▸ (Fr.refl Non w24).alloc _
    have hG29 : Blk w29 b28 35 [.string (mkS []), .slice none 0 0] := hb28 ▸ hw29 ▸ Blk.new w24 _ _
    refine ⟨mayCells_of hG29 0 2 (by simp), ?_⟩
    intro w30 hw30
    have g30 : Fr Non w24 w30 := upN g29 (hw30 ▸ (Fr.refl (fun g => g = b28) w29).setAll hG29 (vs := [.string (mkS g.name), .slice x.base x.len x.cap]) rfl (fun _ => rfl)) (fun g hg => by omega)
    have hG30 : Blk w30 b28 35 [.string (mkS g.name), .slice x.base x.len x.cap] := hw30 ▸ hG29.setAll rfl
    refine ⟨g.name, hG30.cell rfl, ?_⟩
    intro b32 w33 hb32 hw33
    have g33 : Fr Non w30 w33 := hw33 ▸ (Fr.refl Non w30).alloc _
    have hT33 : Blk w33 b32 35 [.string (mkS []), .slice none 0 0] := hb32 ▸ hw33 ▸ Blk.new w30 _ _
    refine ⟨mayCells_of hT33 0 2 (by simp), ?_⟩
    intro w34 hw34
    have g34 : Fr Non w30 w34 := upN g33 (hw34 ▸ (Fr.refl (fun g => g = b32) w33).setAll hT33 (vs := [.string (mkS g.name), .slice none 0 0]) rfl (fun _ => rfl)) (fun g hg => by omega)
    have hT34 : Blk w34 b32 35 [.string (mkS g.name), .slice none 0 0] := hw34 ▸ hT33.setAll rfl
    have k34 := g30.trans' g34
    have hG34 := hG30.fr g34 (fun h => h)
    have s30 := g30.size
    have s34 := g34.size
    have l32 := hT34.lt
    have hX34 := hX.fr RF.stay k34
    -- the fields
    refine ⟨x, by rw [add_mk]; exact hG34.cell rfl, fun t i w' => ∃ (q : Nat) (z : Sl), i = q ∧ q ≤ g.flds.length ∧ t = g.flds.length - q ∧ OwS w' z (g.flds.take q) (fun b => w34.heap.size ≤ b ∧ b < w'.heap.size) ∧ Blk w' b32 35 [.string (mkS g.name), .slice z.base z.len z.cap] ∧ Fr (fun c => c = b32) w34 w', ⟨g.flds.length, 0, ⟨none, 0, 0⟩, rfl, by omega, rfl, Own.nil _ _ _ _ _, hT34, Fr.refl _ _⟩, ?_⟩
    rintro t i w40 ⟨q, z, rfl, hq, rfl, hF, hT, f40⟩
    have s40 := f40.size
    have k40 : Fr Non w24 w40 := upN k34 f40 fun c hc => by omega
    have hX40 := hX.fr RF.stay k40
    have hXL := hX40.1
    refine ⟨fun h => ?_, fun h => ?_⟩
    · have hq : q < g.flds.length := by have := of_decide_eq_true h; omega
      obtain ⟨a2, ha2, u, hu, hU⟩ := hX40.2 q hq
      obtain ⟨hS2, hSR⟩ := hSF _ (List.getElem_mem hq)
      unfold BB at hS2
      have htq := take_snoc hq
      generalize g.flds[q] = f at hU hS2 hSR htq
      have hUL := hU.1
      refine ⟨a2, ha2, ⟨by omega, by omega⟩, u, hu, fun t o i w' => ∃ r : Nat, i = r ∧ r ≤ f.length ∧ t = f.length - r ∧ OwF w' o (f.take r) (fun b => w40.heap.size ≤ b ∧ b < w'.heap.size) ∧ Fr Non w40 w', ⟨f.length, 0, rfl, by omega, rfl, Own.nil _ _ _ _ _, Fr.refl _ _⟩, ?_⟩
      rintro t o i w48 ⟨r, rfl, hr, rfl, hOF, f48⟩
      have s48 := f48.size
      have hU48 := hU.fr RR.stay f48
      refine ⟨fun h => ?_, fun h => ?_⟩
      · have hr : r < f.length := by have := of_decide_eq_true h; omega
        obtain ⟨a3, ha3, v, hv, hV⟩ := hU48.2 r hr
        obtain ⟨hS3, hSC⟩ := hSR _ (List.getElem_mem hr)
        unfold BB at hS3
        have htr := take_snoc hr
        generalize f[r] = rp at hV hS3 hSC htr
        have hVL := hV.1
        refine ⟨a3, ha3, ⟨by omega, by omega⟩, v, hv, fun t o i w' => ∃ c : Nat, i = c ∧ c ≤ rp.length ∧ t = rp.length - c ∧ OwR w' o (rp.take c) (fun b => w48.heap.size ≤ b ∧ b < w'.heap.size) ∧ Fr Non w48 w', ⟨rp.length, 0, rfl, by omega, rfl, Own.nil _ _ _ _ _, Fr.refl _ _⟩, ?_⟩
        rintro t p i w56 ⟨c, rfl, hc, rfl, hOR, f56⟩
        have s56 := f56.size
        refine ⟨fun h => ?_, fun h => ?_⟩
        · have hc : c < rp.length := by have := of_decide_eq_true h; omega
          obtain ⟨a4, ha4, e, he, hE⟩ := (hV.fr RC.stay f56).2 c hc
          have htc := take_snoc hc
          have hSc := (hSC _ (List.getElem_mem hc)).1
          generalize rp[c] = cm at hE htc hSc
          refine ⟨a4, ha4, ⟨by omega, by omega⟩, e, he, cloneC_spec e cm hE hSc fun y1 w59 hy1 g59 => ⟨y1, rfl, ?_⟩⟩
          intro b62 w63 hb62 hw63
          have g63 : Fr Non w59 w63 := hw63 ▸ (Fr.refl Non w59).alloc _
          have hB : Blk w63 b62 36 [.slice y1.base y1.len y1.cap] := hb62 ▸ hw63 ▸ Blk.new w59 _ _
          have k63 := g59.trans' g63
          have s59 := g59.size
          have s63 := g63.size
          have hOR63 := hOR.fr (fun _ => EC.st) k63 (fun _ _ h => h)
          have hy63 := hy1.fr (fun _ => EStr.st) g63 (fun _ _ h => h)
          obtain ⟨s2, w2, r1, r2, r3⟩ := hOR63.push (P := Tryz.prog) kU65 kS66 kZ66 kB66 rfl (by omega) (fun _ => EC.st) (x := cm) (cx := [.slice y1.base y1.len y1.cap]) ⟨y1, rfl, hy63⟩ rfl (by intro v hv; simp at hv; subst hv; rfl) (fun b hb => ⟨by omega, by omega⟩) (a := ⟨b62, 0, none⟩) (c := 1) (cell1 hB) (by rw [List.length_take]; omega) (by rw [List.length_take]; omega) 37
          refine ⟨s2, w2, r1, rp.length - (c + 1), by omega, c + 1, by rw [w64_id (by omega) (by omega)]; push_cast; rfl, by omega, rfl, ?_, upN (f56.trans' k63) r3 (fun g hg => hg.1)⟩
          rw [htc]
          exact r2.mono fun b hb => by rcases hb with ⟨hb | hb | hb, hb2⟩ <;> exact ⟨by omega, hb2⟩
        · have hc : c = rp.length := by have := of_decide_eq_false h; omega
          subst hc
          rw [List.take_length] at hOR
          intro b66 w67 hb66 hw67
          have g67 : Fr Non w56 w67 := hw67 ▸ (Fr.refl Non w56).alloc _
          have hB : Blk w67 b66 37 [.slice p.base p.len p.cap] := hb66 ▸ hw67 ▸ Blk.new w56 _ _
          have k67 := f56.trans' g67
          have s67 := g67.size
          have hOF67 := hOF.fr (fun _ => ER.st) k67 (fun _ _ h => h)
          have hOR67 := hOR.fr (fun _ => EC.st) g67 (fun _ _ h => h)
          obtain ⟨s2, w2, r1, r2, r3⟩ := hOF67.push (P := Tryz.prog) kU64 kS65 kZ65 kB65 rfl (by omega) (fun _ => ER.st) (x := rp) (cx := [.slice p.base p.len p.cap]) ⟨p, rfl, hOR67⟩ rfl (by intro v hv; simp at hv; subst hv; rfl) (fun b hb => ⟨by omega, by omega⟩) (a := ⟨b66, 0, none⟩) (c := 1) (cell1 hB) (by rw [List.length_take]; omega) (by rw [List.length_take]; omega) 38
          refine ⟨s2, w2, r1, f.length - (r + 1), by omega, r + 1, by rw [w64_id (by omega) (by omega)]; push_cast; rfl, by omega, rfl, ?_, upN (f48.trans' k67) r3 (fun g hg => hg.1)⟩
          rw [htr]
          exact r2.mono fun b hb => by rcases hb with ⟨hb | hb | hb, hb2⟩ <;> exact ⟨by omega, hb2⟩
      · have hr : r = f.length := by have := of_decide_eq_false h; omega
        subst hr
        rw [List.take_length] at hOF
        refine ⟨z, by rw [add_mk]; exact (hT.fr f48 (fun h => h)).cell rfl, ?_⟩
        intro b71 w72 hb71 hw72
        have g72 : Fr Non w48 w72 := hw72 ▸ (Fr.refl Non w48).alloc _
        have hB : Blk w72 b71 38 [.slice o.base o.len o.cap] := hb71 ▸ hw72 ▸ Blk.new w48 _ _
        have k72 := f48.trans' g72
        have s72 := g72.size
        have hF72 := hF.fr (fun _ => EF.st) k72 (fun _ _ h => h)
        have hOF72 := hOF.fr (fun _ => ER.st) g72 (fun _ _ h => h)
        obtain ⟨s2, w2, r1, r2, r3⟩ := hF72.push (P := Tryz.prog) kU47 kS64 kZ64 kB64 rfl (by omega) (fun _ => EF.st) (x := f) (cx := [.slice o.base o.len o.cap]) ⟨o, rfl, hOF72⟩ rfl (by intro v hv; simp at hv; subst hv; rfl) (fun b hb => ⟨by omega, by omega⟩) (a := ⟨b71, 0, none⟩) (c := 1) (cell1 hB) (by rw [List.length_take]; omega) (by rw [List.length_take]; omega) 33
        have s2z := r3.size
        have hT2 := (hT.fr k72 (fun h => h)).fr r3 (fun hh => by omega)
        refine ⟨s2, w2, r1, by rw [add_mk]; exact hT2.isS (by simp), by rw [add_mk]; exact hT2.free _, ?_⟩
        intro w75 hw75
        rw [add_mk] at hw75
        have s75 : w75.heap.size = w2.heap.size := by rw [hw75]; simp [World.setCell]
        have r75 : Fr (fun c => c = b32) w2 w75 := hw75 ▸ (Fr.refl (fun c => c = b32) w2).set (a := ⟨b32, 0 + 1, none⟩) (fun _ => rfl) _
        have nT : Fr (fun c => c = b32) w34 w72 := f40.trans' (k72.mono fun _ _ h => h.elim)
        refine ⟨g.flds.length - (q + 1), by omega, q + 1, s2, by rw [w64_id (by omega) (by omega)]; push_cast; rfl, by omega, rfl, ?_, hw75 ▸ hT2.set 1 _, (upL nT r3 (fun c hc => hc.1)).trans' r75⟩
        rw [htq]
        refine (r2.fr (fun _ => EF.st) r75 (fun b hb e => by omega)).mono fun b hb => ?_
        rw [s75]
        rcases hb with ⟨hb | hb | hb, hb2⟩ <;> exact ⟨by omega, hb2⟩
    · have hq : q = g.flds.length := by have := of_decide_eq_false h; omega
      subst hq
      rw [List.take_length] at hF
      have hO40 := hO.fr k40 (fun h => h)
      have ho40 := ho.fr (fun _ => EG.st) k40 (fun _ _ h => h)
      refine ⟨y, by rw [add_mk]; exact hO40.cell rfl, g.name, z, hT.ats [.string (mkS g.name), .slice z.base z.len z.cap] 0 0 (fun q v hq => by simpa using hq), ?_⟩
      intro b79 w80 hb79 hw80
      have g80 : Fr Non w40 w80 := hw80 ▸ (Fr.refl Non w40).alloc _
      have hB : Blk w80 b79 35 [.string (mkS g.name), .slice z.base z.len z.cap] := hb79 ▸ hw80 ▸ Blk.new w40 _ _
      have s80 := g80.size
      have ho80 := ho40.fr (fun _ => EG.st) g80 (fun _ _ h => h)
      have hF80 := hF.fr (fun _ => EF.st) g80 (fun _ _ h => h)
      obtain ⟨s2, w2, r1, r2, r3⟩ := ho80.push (P := Tryz.prog) kU34 kS49 kZ49 kB49 rfl (by omega) (fun _ => EG.st) (x := g) (cx := [.string (mkS g.name), .slice z.base z.len z.cap]) ⟨z, rfl, hF80⟩ rfl (by intro v hv; simp at hv; rcases hv with rfl | rfl <;> rfl) (fun b hb => ⟨by omega, by omega⟩) (a := ⟨b79, 0, none⟩) (c := 1) (cells2 hB) (by rw [List.length_take]; omega) (by rw [List.length_take]; omega) 24
      have s2z := r3.size
      have hO2 := (hO40.fr g80 (fun h => h)).fr r3 (fun hh => by omega)
      refine ⟨s2, w2, r1, by rw [add_mk]; exact hO2.isS (by simp [mc]), by rw [add_mk]; exact hO2.free _, ?_⟩
      intro w83 hw83
      rw [add_mk] at hw83
      have s83 : w83.heap.size = w2.heap.size := by rw [hw83]; simp [World.setCell]
      have r83 : Fr (fun c => c = b16) w2 w83 := hw83 ▸ (Fr.refl (fun c => c = b16) w2).set (a := ⟨b16, 0 + 5, none⟩) (fun _ => rfl) _
      have nT : Fr (fun c => c = b16) w18 w80 := f24.trans' (nO (k40.trans' g80))
      refine ⟨l.length - (j + 1), by omega, j + 1, s2, by rw [w64_id (by omega) (by omega)]; push_cast; rfl, by omega, rfl, ?_, hw83 ▸ hO2.set 5 _, (upL nT r3 (fun c hc => hc.1)).trans' r83⟩
      rw [hts]
      refine (r2.fr (fun _ => EG.st) r83 (fun b hb e => by omega)).mono fun b hb => ?_
      rw [s83]
      rcases hb with ⟨hb | hb | hb, hb2⟩ <;> exact ⟨by omega, hb2⟩
  · have hj : j = l.length := by have := of_decide_eq_false h; omega
    subst hj
    rw [List.take_length] at ho
    have hZ24 := hZ18.fr f24 (by omega)
    refine ⟨_, _, _, _, _, y, msgAts hO, mayCells_of hZ24 0 6 (by simp [mc]), ?_⟩
    intro w90 hw90
    have hZ90 : Blk w90 b9 26 (mc { m with s := y }) := hw90 ▸ hZ24.setAll (vs := mc { m with s := y }) rfl
    have r90 : Fr (fun c => c = b9) w24 w90 := hw90 ▸ (Fr.refl (fun c => c = b9) w24).setAll hZ24 (vs := mc { m with s := y }) rfl (fun _ => rfl)
    have s90 := r90.size
    exact ⟨_, _, _, _, _, y, msgAts hZ90, hk y w90 ((ho.fr (fun _ => EG.st) r90 (fun b hb e => by omega)).mono fun b hb => ⟨by omega, by omega⟩) (upN (fin f24) r90 (fun c hc => by omega))⟩
end
end Go.Proofs.YtoaoofobidhfjaaGreatDoor
