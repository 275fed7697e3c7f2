/- ack's functions, walked. -/
import Derived.Test.YtoaoofobidhfjaaGreatDoorWH2
import Derived.Test.YtoaoofobidhfjaaGreatDoorWH3
import Derived.Test.YtoaoofobidhfjaaGreatDoorWEH
import Derived.Test.YtoaoofobidhfjaaGreatDoorWFO
set_option linter.unusedSimpArgs false
set_option linter.unusedVariables false
namespace Go.Proofs.YtoaoofobidhfjaaGreatDoor
open Go.V Go.RowKit
def codeC : List Value := [.string (mkS [65, 65]), .string (mkS [65, 69]), .string (mkS [65, 82])]
section
variable {w : World} {k : Value → World → Prop}
theorem codes_spec (hk : ∀ w', Fr Non w w' → k (.agg (List.toArray codeC)) w') : Cl Tryz.prog 108 [] w k := by
  refine f108_ok ?_
  unfold f108
  intro b1 w2 hb1 hw2
  have hB : Blk w2 b1 141 [.string (mkS []), .string (mkS []), .string (mkS [])] := hb1 ▸ hw2 ▸ Blk.new w _ _
  have f2 : Fr Non w w2 := hw2 ▸ (Fr.refl Non w).alloc _
  refine ⟨mayCells_of hB 0 3 (by simp), fun w3 hw3 => ?_⟩
  have hB3 : Blk w3 b1 141 codeC := hw3 ▸ hB.setAll rfl
  have e1 : b1 = w.heap.size := hb1
  have f3 : Fr Non w w3 := upN f2 (hw3 ▸ (Fr.refl (fun g => g = b1) w2).setAll hB (vs := codeC) rfl (fun _ => rfl)) (fun g hg => by omega)
  exact ⟨_, _, _, hB3.ats codeC 0 0 (fun q v hq => by simpa using hq), hk _ f3⟩
theorem codeVar {w1 : World} {b : Nat} {w2 : World} (hb : b = w1.heap.size) (hw : w2 = w1.alloc (.cells (List.toArray [.string (mkS []), .string (mkS []), .string (mkS [])]) 141)) :
    mayCells w2 ⟨b, 0, none⟩ 0 3 ∧ ∀ w3, w3 = setCells w2 ⟨b, 0, none⟩ 0 codeC → Blk w3 b 141 codeC ∧ Fr Non w1 w3 := by
  have hB : Blk w2 b 141 [.string (mkS []), .string (mkS []), .string (mkS [])] := hb ▸ hw ▸ Blk.new w1 _ _
  have f2 : Fr Non w1 w2 := hw ▸ (Fr.refl Non w1).alloc _
  refine ⟨mayCells_of hB 0 3 (by simp), ?_⟩
  rintro w3 rfl
  exact ⟨hB.setAll rfl, f2.setAll hB (vs := codeC) rfl (fun h => absurd h (by omega))⟩
theorem code_spec (n : Int) (hk : ∀ w', Fr Non w w' → k (.string (mkS (codeP n))) w') : Cl Tryz.prog 38 [.int .i64 n] w k := by
  refine f38_ok ?_
  unfold f38
  refine codes_spec fun w2 f2 => ⟨_, _, _, rfl, ?_⟩
  intro b7 w8 hb7 hw8
  obtain ⟨m1, n1⟩ := codeVar hb7 hw8
  refine ⟨m1, fun w9 hw9 => ?_⟩
  obtain ⟨hB, f9⟩ := n1 w9 hw9
  have k9 := f2.trans' f9
  refine ⟨fun b w' => (b = decide (n < 0 ∨ 3 ≤ n)) ∧ w' = w9, ?_, fun h => ⟨?_, rfl⟩, fun h => ⟨?_, rfl⟩⟩
  · rintro b w12 ⟨hb, rfl⟩
    refine ⟨fun h => ?_, fun h => ?_⟩
    · rw [h] at hb
      have := of_decide_eq_true hb.symm
      have e : codeP n = [] := by unfold codeP; rw [if_neg (by omega)]
      have := hk _ k9
      rw [e] at this; exact this
    · rw [h] at hb
      have hn := of_decide_eq_false hb.symm
      have e : codeP n = codesL.getD n.toNat [] := by unfold codeP; rw [if_pos (by omega)]
      have hk' := hk _ k9
      rw [e] at hk'
      have : n = 0 ∨ n = 1 ∨ n = 2 := by omega
      refine ⟨⟨by omega, by omega⟩, codesL.getD n.toNat [], ?_, hk'⟩
      rcases this with rfl | rfl | rfl <;> (rw [add_mk]; exact hB.cell rfl)
  · have := of_decide_eq_true h
    rw [decide_eq_true (Or.inl this)]
  · have := of_decide_eq_false h
    by_cases h3 : 3 ≤ n
    · rw [decide_eq_true h3, decide_eq_true (Or.inr h3)]
    · rw [decide_eq_false h3, decide_eq_false (by omega)]
theorem index_spec (x : Sl) (c : Cmp) (v : Str) (hx : RdL 1 RdStr w x c) (hl : c.length ≤ 1000) (hk : ∀ i : Int, decide ((0 : Int) ≤ i) = decide (v ∈ c) → k (.int .i64 i) w) : Cl Tryz.prog 187 [.slice x.base x.len x.cap, .string (mkS v)] w k := by
  refine f187_ok ?_
  unfold f187
  have hL := hx.1
  refine ⟨fun q i w' => ∃ j : Nat, i = j ∧ j ≤ c.length ∧ q = c.length - j ∧ v ∉ c.take j ∧ w' = w, ⟨c.length, 0, rfl, by omega, rfl, by simp, rfl⟩, ?_⟩
  rintro q i w7 ⟨j, rfl, hj, rfl, hn, rfl⟩
  refine ⟨fun h => ?_, fun h => ?_⟩
  · have hj : j < c.length := by have := of_decide_eq_true h; omega
    obtain ⟨a, ha, hc⟩ := hx.2 j hj
    refine ⟨a, ha, ⟨by omega, by omega⟩, c[j], by rw [Int.toNat_natCast]; exact hc, fun h => ?_, fun h => ?_⟩
    · have e : v = c[j] := by simpa using h
      refine hk _ ?_
      rw [decide_eq_true (by rw [e]; exact List.getElem_mem _ : v ∈ c), decide_eq_true (by omega)]
    · have e : v ≠ c[j] := by simpa using h
      refine ⟨c.length - (j + 1), by omega, j + 1, by rw [w64_id (by omega) (by omega)]; push_cast; rfl, by omega, rfl, ?_, rfl⟩
      rw [take_snoc hj]
      intro hm
      rcases List.mem_append.1 hm with hm | hm
      · exact hn hm
      · simp only [List.mem_singleton] at hm; exact e hm
  · have hj : j = c.length := by have := of_decide_eq_false h; omega
    subst hj
    rw [List.take_length] at hn
    exact hk _ (by rw [decide_eq_false hn]; rfl)
theorem isCode_spec (s : Str) (hk : ∀ w', Fr Non w w' → k (.bool (isCode s)) w') : Cl Tryz.prog 110 [.string (mkS s)] w k := by
  refine f110_ok ?_
  unfold f110
  refine codes_spec fun w2 f2 => ⟨_, _, _, rfl, ?_⟩
  intro b7 w8 hb7 hw8
  obtain ⟨m1, n1⟩ := codeVar hb7 hw8
  refine ⟨m1, fun w9 hw9 => ?_⟩
  obtain ⟨hB, f9⟩ := n1 w9 hw9
  have hx : RdL 1 RdStr w9 ⟨some ⟨b7, 0, none⟩, 3, 3⟩ codesL := by
    refine ⟨rfl, fun i hi => ⟨⟨b7, 0, none⟩, rfl, ?_⟩⟩
    have hi : i < 3 := hi
    have : i = 0 ∨ i = 1 ∨ i = 2 := by omega
    rcases this with rfl | rfl | rfl <;> (rw [add_mk]; exact hB.cell rfl)
  refine ⟨⟨by omega, by omega, by omega⟩, f158_ok ?_⟩
  unfold f158
  refine index_spec ⟨some ⟨b7, 0, none⟩, 3, 3⟩ codesL s hx (by decide) fun i hi => ⟨_, rfl, _, rfl, ?_⟩
  rw [hi]
  exact hk _ (f2.trans' f9)
set_option maxHeartbeats 4000000 in
theorem segment_spec (name : Str) (x : Sl) (vs : Cmp) (hx : RdL 1 RdStr w x vs) (hl : vs.length ≤ 1000) (hk : ∀ (y : Sl) w', OwS w' y (segV name vs).flds (fun c => w.heap.size ≤ c ∧ c < w'.heap.size) → Fr Non w w' → k (.agg (List.toArray [.string (mkS name), .slice y.base y.len y.cap])) w') :
    Cl Tryz.prog 159 [.string (mkS name), .slice x.base x.len x.cap] w k := by
  refine f159_ok ?_
  unfold f159
  have hL := hx.1
  intro b3 w4 hb3 hw4 b5 w6 hb5 hw6
  have f4 : Fr Non w w4 := hw4 ▸ (Fr.refl Non w).alloc _
  have f6 : Fr Non w4 w6 := hw6 ▸ (Fr.refl Non w4).alloc _
  have h3 : Blk w6 b3 35 [.string (mkS []), .slice none 0 0] := (hb3 ▸ hw4 ▸ Blk.new w _ _ : Blk w4 b3 35 [.string (mkS []), .slice none 0 0]).fr f6 (fun h => h)
  have h5 : Blk w6 b5 35 [.string (mkS []), .slice none 0 0] := hb5 ▸ hw6 ▸ Blk.new w4 _ _
  refine ⟨mayCells_of h5 0 2 (by simp), fun w7 hw7 => ?_⟩
  have h57 : Blk w7 b5 35 [.string (mkS name), .slice none 0 0] := hw7 ▸ h5.setAll rfl
  have r7 : Fr (fun g => g = b5) w6 w7 := hw7 ▸ (Fr.refl (fun g => g = b5) w6).setAll h5 (vs := [.string (mkS name), .slice none 0 0]) rfl (fun _ => rfl)
  have e3 : b3 = w.heap.size := hb3
  have e5 : b5 = w4.heap.size := hb5
  have s4 := f4.size
  have l3 := h3.lt
  have l5 := h5.lt
  have s4' : w4.heap.size = w.heap.size + 1 := by rw [hw4]; simp
  have k7 : Fr Non w w7 := upN (f4.trans' f6) r7 (fun g hg => by omega)
  have s7 := r7.size
  have h37 := h3.fr r7 (by omega)
  refine ⟨fun q i w' => ∃ (j : Nat) (y : Sl), i = j ∧ j ≤ vs.length ∧ q = vs.length - j ∧ Blk w' b5 35 [.string (mkS name), .slice y.base y.len y.cap] ∧ OwS w' y ((vs.take j).map one1') (fun c => w7.heap.size ≤ c) ∧ Fr (fun g => g = b5) w7 w', ⟨vs.length, 0, ⟨none, 0, 0⟩, rfl, by omega, rfl, h57, Own.nil _ _ _ _ _, Fr.refl _ _⟩, ?_⟩
  rintro q i w12 ⟨j, y, rfl, hj, rfl, hB, hO, hF⟩
  have k12 : Fr Non w w12 := upN k7 hF (fun g hg => by omega)
  have s12 := hF.size
  refine ⟨fun h => ?_, fun h => ?_⟩
  · have hj : j < vs.length := by have := of_decide_eq_true h; omega
    obtain ⟨a, ha, hc⟩ := (hx.fr RdStr.stay k12).2 j hj
    refine ⟨a, ha, ⟨by omega, by omega⟩, vs[j], by rw [Int.toNat_natCast]; exact hc, y, by rw [add_mk]; exact hB.cell rfl, ?_⟩
    intro b16 w17 hb16 hw17 b18 w19 hb18 hw19 b20 w21 hb20 hw21 b22 w23 hb22 hw23
    obtain ⟨hF1, f21⟩ := one_new vs[j] hb16 hw17 hb18 hw19 hb20 hw21
    have f23 : Fr Non w21 w23 := hw23 ▸ (Fr.refl Non w21).alloc _
    have hN : Blk w23 b22 38 [.slice (some ⟨b20, 0, none⟩) 1 1] := hb22 ▸ hw23 ▸ Blk.new w21 _ _
    have hF23 := hF1.fr (fun _ => ER.st) f23 (fun _ _ h => h)
    obtain ⟨s', w25, r1, r2, r3⟩ := flds_push hO.tight (fun b hb => hb.2) (f21.trans' f23) hF23 (fun b hb => ⟨hb.1, by have := f23.size; omega⟩) hN (by rw [List.length_map, List.length_take]; omega)
    have hB25 := (hB.fr (f21.trans' f23) (fun h => h)).fr r3 (fun h => by have := h.1; omega)
    refine ⟨s', w25, r1, by rw [add_mk]; exact hB25.isS (by simp), by rw [add_mk]; exact hB25.free _, ?_⟩
    intro w26 hw26
    rw [add_mk] at hw26
    have r26 : Fr (fun g => g = b5) w25 w26 := hw26 ▸ (Fr.refl (fun g => g = b5) w25).set (a := ⟨b5, 0 + 1, none⟩) (fun _ => rfl) _
    have f25 : Fr (fun g => g = b5) w7 w25 := (hF.trans' ((f21.trans' f23).mono fun _ _ h => h.elim)).trans r3 fun b hb h => by
      have : w7.heap.size ≤ b := h.1
      omega
    refine ⟨vs.length - (j + 1), by omega, j + 1, s', by rw [w64_id (by omega) (by omega)]; push_cast; rfl, by omega, rfl, hw26 ▸ hB25.set 1 _, ?_, f25.trans' r26⟩
    rw [take_snoc hj, List.map_append]
    exact (r2.fr (fun _ => EF.st) r26 (fun b hb e => by
      have e : b = b5 := e
      rcases hb.1 with h | h
      · have : w7.heap.size ≤ b := h.1
        omega
      · omega)).mono fun b hb => by rcases hb.1 with h | h; exact h.1; show w7.heap.size ≤ b; omega
  · have hj : j = vs.length := by have := of_decide_eq_false h; omega
    subst hj
    rw [List.take_length] at hO
    have h312 := h37.fr hF (by omega)
    refine ⟨_, y, hB.ats [.string (mkS name), .slice y.base y.len y.cap] 0 0 (fun q v hq => by simpa using hq), mayCells_of h312 0 2 (by simp), fun w29 hw29 => ?_⟩
    have h329 : Blk w29 b3 35 [.string (mkS name), .slice y.base y.len y.cap] := hw29 ▸ h312.setAll rfl
    have r29 : Fr (fun g => g = b3) w12 w29 := hw29 ▸ (Fr.refl (fun g => g = b3) w12).setAll h312 (vs := [.string (mkS name), .slice y.base y.len y.cap]) rfl (fun _ => rfl)
    refine ⟨_, y, h329.ats [.string (mkS name), .slice y.base y.len y.cap] 0 0 (fun q v hq => by simpa using hq), hk y w29 ?_ (upN k12 r29 (fun g hg => by omega))⟩
    have s7w := k7.size
    exact (hO.fr (fun _ => EF.st) r29 (fun b hb e => by have hb : w7.heap.size ≤ b := hb; omega)).tight.mono fun b hb => ⟨by have := hb.1; omega, hb.2⟩
theorem seg_push {u v : World} {bo : Nat} {d : Dm} {y z : Sl} {L : List Seg} {F oz : Nat → Prop} {name : Str} {vs : Cmp} (hB : Blk v bo 26 (mc (mD d y))) (hO : OwM v y L F) (hF : ∀ c, F c → c ≠ bo ∧ c < u.heap.size) (hz : OwS v z (segV name vs).flds oz) (hoz : ∀ c, oz c → u.heap.size ≤ c ∧ c < v.heap.size) (hbo : bo < u.heap.size) (huv : u.heap.size ≤ v.heap.size)
    {b : Nat} (hN : Blk v b 35 [.string (mkS name), .slice z.base z.len z.cap]) (hL : L.length ≤ 1000) :
    ∃ s' v2, (Builtin.append_ #[24, 24] 24 #[.slice y.base y.len y.cap, .slice (some ⟨b, 0, none⟩) 1 1]).run Tryz.prog v = .ok (.slice (Sl.base s') s'.len s'.cap) v2 ∧
      (v2.cell? ⟨bo, 0 + 5, none⟩).isSome = true ∧ v2.frozen? ⟨bo, 0 + 5, none⟩ = false ∧
      ∀ v3, v3 = v2.setCell ⟨bo, 0 + 5, none⟩ (.slice s'.base s'.len s'.cap) → Blk v3 bo 26 (mc (mD d s')) ∧ OwM v3 s' (L ++ [segV name vs]) (fun c => (F c ∨ u.heap.size ≤ c) ∧ c < v3.heap.size) ∧ Fr (fun c => F c ∨ c = bo) v v3 := by
  have hel : EG v [.string (mkS name), .slice z.base z.len z.cap] (segV name vs) oz := ⟨z, rfl, hz⟩
  obtain ⟨s2, v2, r1, r2, r3⟩ := hO.push (P := Tryz.prog) kU34 kS49 kZ49 kB49 rfl (by omega) (fun _ => EG.st) (x := segV name vs) (cx := [.string (mkS name), .slice z.base z.len z.cap]) hel rfl (by intro v hv; simp at hv; rcases hv with rfl | rfl <;> rfl) (fun c hc => ⟨(hoz c hc).2, fun hh => by have := (hF c hh).2; have := (hoz c hc).1; omega⟩) (a := ⟨b, 0, none⟩) (c := 1) (cells2 hN) (by omega) (by omega) 24
  have hB2 := hB.fr r3 (fun h => (hF _ h).1 rfl)
  refine ⟨s2, v2, r1, hB2.isS (by simp [mc]), hB2.free _, ?_⟩
  intro v3 hv3
  have r4 : Fr (fun g => g = bo) v2 v3 := hv3 ▸ (Fr.refl (fun g => g = bo) v2).set (a := ⟨bo, 0 + 5, none⟩) (fun _ => rfl) _
  refine ⟨hv3 ▸ hB2.set 5 _, ?_, (r3.mono fun _ _ h => .inl h).trans' (r4.mono fun _ _ h => .inr h)⟩
  exact (r2.fr (fun _ => EG.st) r4 (fun c hc e => by
    rcases hc.1 with h | h | h
    · exact (hF c h).1 e
    · have := (hoz c h).1; omega
    · omega)).tight.mono fun c hc => ⟨by
      rcases hc.1.1 with h | h | h
      · exact .inl h
      · exact .inr (hoz c h).1
      · exact .inr (by omega), hc.2⟩
end
end Go.Proofs.YtoaoofobidhfjaaGreatDoor
