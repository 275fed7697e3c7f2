/- token.cut: a text cut at a sign, and each piece read. -/
import Derived.Test.YthpeengmcjpknaaGreatDoorPE6
set_option linter.unusedSimpArgs false
set_option linter.unusedVariables false
namespace Go.Proofs.YthpeengmcjpknaaGreatDoor
open Go.V Go.RowKit
def gMax : Nat := Tryz.laysM146_ren.g 1
def GMax (w : World) : Prop := ∃ m, w.cell? ⟨gMax, 0, none⟩ = some (.int .i64 m)
theorem GMax.lt {w : World} (h : GMax w) : gMax < w.heap.size := by
  obtain ⟨m, h⟩ := h
  exact cell_lt h
theorem GMax.fr {F : Nat → Prop} {w w' : World} (h : GMax w) (f : Fr F w w') (hF : ¬ F gMax) : GMax w' := by
  obtain ⟨m, h⟩ := h
  exact ⟨m, f.cell h hF⟩
theorem gmax_of {w : World} (h : w.ShapedOpen Tryz.prog) : GMax w := Tryz.laysM146.s1_3 w h
theorem upL {L F : Nat → Prop} {w w1 w2 : World} (h : Fr L w w1) (k : Fr F w1 w2) (hF : ∀ g, F g → w.heap.size ≤ g) : Fr L w w2 := h.trans k fun b hb hf => by have := hF b hf; omega
section
variable {w : World} {k : Value → World → Prop}
theorem split_spec (s : Str) (b : UInt8) (hG : GMax w) (hs : s.length ≤ 4294967280) (hk : ∀ w', Blk w' w.heap.size 9 ((splitP b s).map fun x => .string (mkS x)) → Fr Non w w' → k (.slice (some ⟨w.heap.size, 0, none⟩) (splitP b s).length (splitP b s).length) w') :
    Cl Tryz.prog 159 [.string (mkS s), .string (mkS [b])] w k := by
  obtain ⟨m, hm⟩ := hG
  have hsz : (mkS s).size = s.length := by simp [mkS, ByteArray.size]
  refine cl_of (Any.strings_Split { Tryz.laysM146 with } Tryz.laysM146.i9 (mkS s) (mkS [b]) m w (by omega) hm (Nat.le_refl 1)) ?_
  rintro e w' ⟨rfl, rfl⟩
  rw [split_count, split_vals]
  exact ⟨_, rfl, hk _ (Blk.new w _ _) ((Fr.refl Non w).alloc _)⟩
theorem split_mem (b : UInt8) : ∀ (s v : Str), v ∈ splitP b s → v.length ≤ s.length
  | [], v, h => by simp [splitP] at h; subst h; exact Nat.le_refl _
  | a :: r, v, h => by
    unfold splitP at h
    split at h
    · rcases List.mem_cons.1 h with rfl | h
      · simp
      · have := split_mem b r v h; simp; omega
    · split at h
      · rename_i x l hx
        rcases List.mem_cons.1 h with rfl | h
        · have := split_mem b r x (by rw [hx]; simp); simp; omega
        · have := split_mem b r v (by rw [hx]; simp [h]); simp; omega
      · simp at h; subst h; simp
theorem rd_strs {w : World} {b : Nat} {T : TypeId} {l : List Str} {c : Nat} (h : Blk w b T (l.map fun x => .string (mkS x))) : RdL 1 RdStr w ⟨some ⟨b, 0, none⟩, l.length, c⟩ l := by
  refine ⟨rfl, fun i hi => ⟨⟨b, 0, none⟩, rfl, ?_⟩⟩
  unfold RdStr
  rw [add_mk, Nat.zero_add, Nat.mul_one]
  exact h.cell (by simp [hi])
theorem any_snoc {α : Type} (p : α → Bool) (l : List α) (a : α) : (l ++ [a]).any p = (l.any p || p a) := by simp
set_option maxHeartbeats 1000000 in
theorem cut0_spec (s : Str) (sg : UInt8) (fv : Value) (g : Str → Str) (bd : Str → Bool) {bl : Nat} {T : TypeId} (x0 : Bool) (hl : s.length ≤ 65536) (hG : GMax w) (hGb : gMax ≠ bl) (hb : Blk w bl T [.bool x0])
    (hf : ∀ (v : Str) (w1 : World) (x : Bool) (k1 : Value → World → Prop), Fr (fun c => c = bl) w w1 → Blk w1 bl T [.bool x] → v.length ≤ s.length → (∀ w2, Fr (fun c => c = bl) w1 w2 → Blk w2 bl T [.bool (x || bd v)] → k1 (.string (mkS (g v))) w2) → Cv Tryz.prog fv [.string (mkS v)] w1 k1)
    (hk : ∀ (y : Sl) (w' : World), OwC w' y (cutP sg g s) (fun b => w.heap.size ≤ b ∧ b < w'.heap.size) → Fr (fun c => c = bl) w w' → Blk w' bl T [.bool (x0 || badP sg bd s)] → k (.slice y.base y.len y.cap) w') :
    Cl Tryz.prog 154 [.string (mkS s), .int .u8 (sg.toNat : Int), .pointer (some ⟨bl, 0, none⟩), fv] w k := by
  refine f154_ok ?_
  unfold f154
  intro b5 w6 hb5 hw6
  have f6 : Fr Non w w6 := hw6 ▸ (Fr.refl Non w).alloc _
  have hS6 : Blk w6 b5 5 (bys [sg]) := hb5 ▸ hw6 ▸ Blk.new w _ _
  have lb := hb.lt
  have nL : ∀ {u u' : World}, Fr Non u u' → Fr (fun c => c = bl) u u' := fun f => f.mono fun _ _ h => h.elim
  refine ⟨[sg], hS6.bytes rfl, split_spec s sg (hG.fr f6 (fun h => h)) (by omega) fun w8 h8 g8 => ⟨⟨some ⟨w6.heap.size, 0, none⟩, (splitP sg s).length, (splitP sg s).length⟩, rfl, fun h => ?_, fun h => ?_⟩⟩
  · have f8 := f6.trans' g8
    have hb8 := hb.fr f8 (fun h => h)
    have hbig : 50 < (splitP sg s).length := by have := of_decide_eq_true h; simp only at this; omega
    refine ⟨_, rfl, hb8.isS (by simp), hb8.free _, ?_⟩
    intro w12 hw12
    have := hk ⟨none, 0, 0⟩ w12 (by unfold cutP; rw [if_pos hbig]; exact Own.nil _ _ _ _ _) (hw12 ▸ (nL f8).set (a := ⟨bl, 0, none⟩) (fun _ => rfl) _) (by
      have h1 : badP sg bd s = true := by unfold badP; rw [if_pos hbig]
      rw [h1, Bool.or_true, hw12]; exact hb8.set 0 _)
    exact this
  have hsm : (splitP sg s).length ≤ 50 := by have := of_decide_eq_false h; simp only at this; omega
  have f8 := f6.trans' g8
  have s8 := f8.size
  have s6 := f6.size
  have z8 := h8.lt
  have hR := rd_strs (c := (splitP sg s).length) h8
  have hmem := split_mem sg s
  have hcut : cutP sg g s = (splitP sg s).map g := by unfold cutP; rw [if_neg (by omega)]
  have hbad : badP sg bd s = (splitP sg s).any bd := by unfold badP; rw [if_neg (by omega)]
  rw [hcut, hbad] at hk
  generalize splitP sg s = ps at *
  refine ⟨fun t o i w' => ∃ j : Nat, i = j ∧ j ≤ ps.length ∧ t = ps.length - j ∧ OwC w' o ((ps.take j).map g) (fun b => w.heap.size ≤ b ∧ b < w'.heap.size ∧ b ≠ w6.heap.size) ∧ Fr (fun c => c = bl) w w' ∧ Blk w' w6.heap.size 9 (ps.map fun x => .string (mkS x)) ∧ Blk w' bl T [.bool (x0 || (ps.take j).any bd)], ⟨ps.length, 0, rfl, by omega, rfl, Own.nil _ _ _ _ _, nL f8, h8, by simpa using hb.fr f8 (fun h => h)⟩, ?_⟩
  rintro t o i w18 ⟨j, rfl, hj, rfl, hO, f18, hP, hB⟩
  have s18 := f18.size
  have zP := hP.lt
  refine ⟨fun h => ?_, fun h => ?_⟩
  · have hj : j < ps.length := by have := of_decide_eq_true h; simp only at this; omega
    obtain ⟨a, ha, hz⟩ := (rd_strs (c := ps.length) hP).2 j hj
    refine ⟨a, ha, ⟨by omega, by simp only; omega⟩, ps[j], hz, ?_⟩
    refine hf ps[j] w18 _ _ f18 hB (hmem _ (List.getElem_mem hj)) fun w21 g21 hB21 => ⟨_, rfl, ?_⟩
    intro b24 w25 hb24 hw25
    have g25 : Fr Non w21 w25 := hw25 ▸ (Fr.refl Non w21).alloc _
    have hN : Blk w25 b24 9 [.string (mkS (g ps[j]))] := hb24 ▸ hw25 ▸ Blk.new w21 _ _
    have s21 := g21.size
    have s25 := g25.size
    have k25 := g21.trans' (nL g25)
    have hO25 := hO.fr (fun _ => EStr.st) k25 (fun b hb e => by omega)
    have hel : EStr w25 [.string (mkS (g ps[j]))] (g ps[j]) (fun _ => False) := rfl
    obtain ⟨s2, w2, r1, r2, r3⟩ := hO25.push (P := Tryz.prog) kU66 kS9 kZ9 kB9 rfl (by omega) (fun _ => EStr.st) (x := g ps[j]) (cx := [.string (mkS (g ps[j]))]) hel rfl (by intro v hv; simp at hv; subst hv; rfl) (fun b hb => hb.elim) (a := ⟨b24, 0, none⟩) (c := 1) (cells2 hN) (by rw [List.length_map, List.length_take]; omega) (by rw [List.length_map, List.length_take]; omega) 80
    have s2z := r3.size
    refine ⟨s2, w2, r1, ps.length - (j + 1), by omega, j + 1, by rw [w64_id (by omega) (by omega)]; push_cast; rfl, by omega, rfl, ?_, upL (f18.trans' k25) r3 (fun c hc => by omega), ?_, ?_⟩
    · rw [take_snoc hj, List.map_append]
      exact r2.mono fun b hb => by rcases hb with ⟨hb | hb | hb, hb2⟩ <;> first | exact hb.elim | exact ⟨by omega, by omega, by omega⟩
    · exact (hP.fr k25 (by omega)).fr r3 (by omega)
    · have := ((hB21.fr g25 (fun h => h)).fr r3 (by omega))
      rw [take_snoc hj, any_snoc, ← Bool.or_assoc]; exact this
  · have hj : j = ps.length := by have := of_decide_eq_false h; simp only at this; omega
    subst hj
    rw [List.take_length] at hO hB
    exact hk o w18 (hO.mono fun b hb => ⟨hb.1, hb.2.1⟩) f18 hB
set_option maxHeartbeats 1000000 in
theorem cut1_spec (s : Str) (sg : UInt8) (fv : Value) (g : Str → Cmp) (bd : Str → Bool) {bl : Nat} {T : TypeId} (x0 : Bool) (hl : s.length ≤ 65536) (hG : GMax w) (hGb : gMax ≠ bl) (hb : Blk w bl T [.bool x0])
    (hf : ∀ (v : Str) (w1 : World) (x : Bool) (k1 : Value → World → Prop), Fr (fun c => c = bl) w w1 → Blk w1 bl T [.bool x] → v.length ≤ s.length → (∀ (z : Sl) w2, EC w2 [.slice z.base z.len z.cap] (g v) (fun b => w1.heap.size ≤ b ∧ b < w2.heap.size) → Fr (fun c => c = bl) w1 w2 → Blk w2 bl T [.bool (x || bd v)] → k1 (.slice z.base z.len z.cap) w2) → Cv Tryz.prog fv [.string (mkS v)] w1 k1)
    (hk : ∀ (y : Sl) (w' : World), OwR w' y (cutP sg g s) (fun b => w.heap.size ≤ b ∧ b < w'.heap.size) → Fr (fun c => c = bl) w w' → Blk w' bl T [.bool (x0 || badP sg bd s)] → k (.slice y.base y.len y.cap) w') :
    Cl Tryz.prog 158 [.string (mkS s), .int .u8 (sg.toNat : Int), .pointer (some ⟨bl, 0, none⟩), fv] w k := by
  refine f158_ok ?_
  unfold f158
  intro b5 w6 hb5 hw6
  have f6 : Fr Non w w6 := hw6 ▸ (Fr.refl Non w).alloc _
  have hS6 : Blk w6 b5 5 (bys [sg]) := hb5 ▸ hw6 ▸ Blk.new w _ _
  have lb := hb.lt
  have nL : ∀ {u u' : World}, Fr Non u u' → Fr (fun c => c = bl) u u' := fun f => f.mono fun _ _ h => h.elim
  refine ⟨[sg], hS6.bytes rfl, split_spec s sg (hG.fr f6 (fun h => h)) (by omega) fun w8 h8 g8 => ⟨⟨some ⟨w6.heap.size, 0, none⟩, (splitP sg s).length, (splitP sg s).length⟩, rfl, fun h => ?_, fun h => ?_⟩⟩
  · have f8 := f6.trans' g8
    have hb8 := hb.fr f8 (fun h => h)
    have hbig : 50 < (splitP sg s).length := by have := of_decide_eq_true h; simp only at this; omega
    refine ⟨_, rfl, hb8.isS (by simp), hb8.free _, ?_⟩
    intro w12 hw12
    have := hk ⟨none, 0, 0⟩ w12 (by unfold cutP; rw [if_pos hbig]; exact Own.nil _ _ _ _ _) (hw12 ▸ (nL f8).set (a := ⟨bl, 0, none⟩) (fun _ => rfl) _) (by
      have h1 : badP sg bd s = true := by unfold badP; rw [if_pos hbig]
      rw [h1, Bool.or_true, hw12]; exact hb8.set 0 _)
    exact this
  have hsm : (splitP sg s).length ≤ 50 := by have := of_decide_eq_false h; simp only at this; omega
  have f8 := f6.trans' g8
  have s8 := f8.size
  have s6 := f6.size
  have z8 := h8.lt
  have hR := rd_strs (c := (splitP sg s).length) h8
  have hmem := split_mem sg s
  have hcut : cutP sg g s = (splitP sg s).map g := by unfold cutP; rw [if_neg (by omega)]
  have hbad : badP sg bd s = (splitP sg s).any bd := by unfold badP; rw [if_neg (by omega)]
  rw [hcut, hbad] at hk
  generalize splitP sg s = ps at *
  refine ⟨fun t o i w' => ∃ j : Nat, i = j ∧ j ≤ ps.length ∧ t = ps.length - j ∧ OwR w' o ((ps.take j).map g) (fun b => w.heap.size ≤ b ∧ b < w'.heap.size ∧ b ≠ w6.heap.size) ∧ Fr (fun c => c = bl) w w' ∧ Blk w' w6.heap.size 9 (ps.map fun x => .string (mkS x)) ∧ Blk w' bl T [.bool (x0 || (ps.take j).any bd)], ⟨ps.length, 0, rfl, by omega, rfl, Own.nil _ _ _ _ _, nL f8, h8, by simpa using hb.fr f8 (fun h => h)⟩, ?_⟩
  rintro t o i w18 ⟨j, rfl, hj, rfl, hO, f18, hP, hB⟩
  have s18 := f18.size
  have zP := hP.lt
  refine ⟨fun h => ?_, fun h => ?_⟩
  · have hj : j < ps.length := by have := of_decide_eq_true h; simp only at this; omega
    obtain ⟨a, ha, hz⟩ := (rd_strs (c := ps.length) hP).2 j hj
    refine ⟨a, ha, ⟨by omega, by simp only; omega⟩, ps[j], hz, ?_⟩
    refine hf ps[j] w18 _ _ f18 hB (hmem _ (List.getElem_mem hj)) fun z w21 hz21 g21 hB21 => ⟨z, rfl, ?_⟩
    intro b24 w25 hb24 hw25
    have g25 : Fr Non w21 w25 := hw25 ▸ (Fr.refl Non w21).alloc _
    have hN : Blk w25 b24 80 [.slice z.base z.len z.cap] := hb24 ▸ hw25 ▸ Blk.new w21 _ _
    have s21 := g21.size
    have s25 := g25.size
    have k25 := g21.trans' (nL g25)
    have hO25 := hO.fr (fun _ => EC.st) k25 (fun b hb e => by omega)
    have hel : EC w25 [.slice z.base z.len z.cap] (g ps[j]) (fun b => w18.heap.size ≤ b ∧ b < w21.heap.size) := EC.st _ _ _ _ _ (fun b hb => g25.blk b hb.2 (fun h => h)) hz21
    obtain ⟨s2, w2, r1, r2, r3⟩ := hO25.push (P := Tryz.prog) kU65 kS66 kZ66 kB66 rfl (by omega) (fun _ => EC.st) (x := g ps[j]) (cx := [.slice z.base z.len z.cap]) hel rfl (by intro v hv; simp at hv; subst hv; rfl) (fun b hb => ⟨by omega, by omega⟩) (a := ⟨b24, 0, none⟩) (c := 1) (cells2 hN) (by rw [List.length_map, List.length_take]; omega) (by rw [List.length_map, List.length_take]; omega) 38
    have s2z := r3.size
    refine ⟨s2, w2, r1, ps.length - (j + 1), by omega, j + 1, by rw [w64_id (by omega) (by omega)]; push_cast; rfl, by omega, rfl, ?_, upL (f18.trans' k25) r3 (fun c hc => by omega), ?_, ?_⟩
    · rw [take_snoc hj, List.map_append]
      exact r2.mono fun b hb => by rcases hb with ⟨hb | hb | hb, hb2⟩ <;> exact ⟨by omega, by omega, by omega⟩
    · exact (hP.fr k25 (by omega)).fr r3 (by omega)
    · have := ((hB21.fr g25 (fun h => h)).fr r3 (by omega))
      rw [take_snoc hj, any_snoc, ← Bool.or_assoc]; exact this
  · have hj : j = ps.length := by have := of_decide_eq_false h; simp only at this; omega
    subst hj
    rw [List.take_length] at hO hB
    exact hk o w18 (hO.mono fun b hb => ⟨hb.1, hb.2.1⟩) f18 hB
set_option maxHeartbeats 1000000 in
theorem cut2_spec (s : Str) (sg : UInt8) (fv : Value) (g : Str → Rept) (bd : Str → Bool) {bl : Nat} {T : TypeId} (x0 : Bool) (hl : s.length ≤ 65536) (hG : GMax w) (hGb : gMax ≠ bl) (hb : Blk w bl T [.bool x0])
    (hf : ∀ (v : Str) (w1 : World) (x : Bool) (k1 : Value → World → Prop), Fr (fun c => c = bl) w w1 → Blk w1 bl T [.bool x] → v.length ≤ s.length → (∀ (z : Sl) w2, ER w2 [.slice z.base z.len z.cap] (g v) (fun b => w1.heap.size ≤ b ∧ b < w2.heap.size) → Fr (fun c => c = bl) w1 w2 → Blk w2 bl T [.bool (x || bd v)] → k1 (.slice z.base z.len z.cap) w2) → Cv Tryz.prog fv [.string (mkS v)] w1 k1)
    (hk : ∀ (y : Sl) (w' : World), OwF w' y (cutP sg g s) (fun b => w.heap.size ≤ b ∧ b < w'.heap.size) → Fr (fun c => c = bl) w w' → Blk w' bl T [.bool (x0 || badP sg bd s)] → k (.slice y.base y.len y.cap) w') :
    Cl Tryz.prog 162 [.string (mkS s), .int .u8 (sg.toNat : Int), .pointer (some ⟨bl, 0, none⟩), fv] w k := by
  refine f162_ok ?_
  unfold f162
  intro b5 w6 hb5 hw6
  have f6 : Fr Non w w6 := hw6 ▸ (Fr.refl Non w).alloc _
  have hS6 : Blk w6 b5 5 (bys [sg]) := hb5 ▸ hw6 ▸ Blk.new w _ _
  have lb := hb.lt
  have nL : ∀ {u u' : World}, Fr Non u u' → Fr (fun c => c = bl) u u' := fun f => f.mono fun _ _ h => h.elim
  refine ⟨[sg], hS6.bytes rfl, split_spec s sg (hG.fr f6 (fun h => h)) (by omega) fun w8 h8 g8 => ⟨⟨some ⟨w6.heap.size, 0, none⟩, (splitP sg s).length, (splitP sg s).length⟩, rfl, fun h => ?_, fun h => ?_⟩⟩
  · have f8 := f6.trans' g8
    have hb8 := hb.fr f8 (fun h => h)
    have hbig : 50 < (splitP sg s).length := by have := of_decide_eq_true h; simp only at this; omega
    refine ⟨_, rfl, hb8.isS (by simp), hb8.free _, ?_⟩
    intro w12 hw12
    have := hk ⟨none, 0, 0⟩ w12 (by unfold cutP; rw [if_pos hbig]; exact Own.nil _ _ _ _ _) (hw12 ▸ (nL f8).set (a := ⟨bl, 0, none⟩) (fun _ => rfl) _) (by
      have h1 : badP sg bd s = true := by unfold badP; rw [if_pos hbig]
      rw [h1, Bool.or_true, hw12]; exact hb8.set 0 _)
    exact this
  have hsm : (splitP sg s).length ≤ 50 := by have := of_decide_eq_false h; simp only at this; omega
  have f8 := f6.trans' g8
  have s8 := f8.size
  have s6 := f6.size
  have z8 := h8.lt
  have hR := rd_strs (c := (splitP sg s).length) h8
  have hmem := split_mem sg s
  have hcut : cutP sg g s = (splitP sg s).map g := by unfold cutP; rw [if_neg (by omega)]
  have hbad : badP sg bd s = (splitP sg s).any bd := by unfold badP; rw [if_neg (by omega)]
  rw [hcut, hbad] at hk
  generalize splitP sg s = ps at *
  refine ⟨fun t o i w' => ∃ j : Nat, i = j ∧ j ≤ ps.length ∧ t = ps.length - j ∧ OwF w' o ((ps.take j).map g) (fun b => w.heap.size ≤ b ∧ b < w'.heap.size ∧ b ≠ w6.heap.size) ∧ Fr (fun c => c = bl) w w' ∧ Blk w' w6.heap.size 9 (ps.map fun x => .string (mkS x)) ∧ Blk w' bl T [.bool (x0 || (ps.take j).any bd)], ⟨ps.length, 0, rfl, by omega, rfl, Own.nil _ _ _ _ _, nL f8, h8, by simpa using hb.fr f8 (fun h => h)⟩, ?_⟩
  rintro t o i w18 ⟨j, rfl, hj, rfl, hO, f18, hP, hB⟩
  have s18 := f18.size
  have zP := hP.lt
  refine ⟨fun h => ?_, fun h => ?_⟩
  · have hj : j < ps.length := by have := of_decide_eq_true h; simp only at this; omega
    obtain ⟨a, ha, hz⟩ := (rd_strs (c := ps.length) hP).2 j hj
    refine ⟨a, ha, ⟨by omega, by simp only; omega⟩, ps[j], hz, ?_⟩
    refine hf ps[j] w18 _ _ f18 hB (hmem _ (List.getElem_mem hj)) fun z w21 hz21 g21 hB21 => ⟨z, rfl, ?_⟩
    intro b24 w25 hb24 hw25
    have g25 : Fr Non w21 w25 := hw25 ▸ (Fr.refl Non w21).alloc _
    have hN : Blk w25 b24 38 [.slice z.base z.len z.cap] := hb24 ▸ hw25 ▸ Blk.new w21 _ _
    have s21 := g21.size
    have s25 := g25.size
    have k25 := g21.trans' (nL g25)
    have hO25 := hO.fr (fun _ => ER.st) k25 (fun b hb e => by omega)
    have hel : ER w25 [.slice z.base z.len z.cap] (g ps[j]) (fun b => w18.heap.size ≤ b ∧ b < w21.heap.size) := ER.st _ _ _ _ _ (fun b hb => g25.blk b hb.2 (fun h => h)) hz21
    obtain ⟨s2, w2, r1, r2, r3⟩ := hO25.push (P := Tryz.prog) kU64 kS65 kZ65 kB65 rfl (by omega) (fun _ => ER.st) (x := g ps[j]) (cx := [.slice z.base z.len z.cap]) hel rfl (by intro v hv; simp at hv; subst hv; rfl) (fun b hb => ⟨by omega, by omega⟩) (a := ⟨b24, 0, none⟩) (c := 1) (cells2 hN) (by rw [List.length_map, List.length_take]; omega) (by rw [List.length_map, List.length_take]; omega) 44
    have s2z := r3.size
    refine ⟨s2, w2, r1, ps.length - (j + 1), by omega, j + 1, by rw [w64_id (by omega) (by omega)]; push_cast; rfl, by omega, rfl, ?_, upL (f18.trans' k25) r3 (fun c hc => by omega), ?_, ?_⟩
    · rw [take_snoc hj, List.map_append]
      exact r2.mono fun b hb => by rcases hb with ⟨hb | hb | hb, hb2⟩ <;> exact ⟨by omega, by omega, by omega⟩
    · exact (hP.fr k25 (by omega)).fr r3 (by omega)
    · have := ((hB21.fr g25 (fun h => h)).fr r3 (by omega))
      rw [take_snoc hj, any_snoc, ← Bool.or_assoc]; exact this
  · have hj : j = ps.length := by have := of_decide_eq_false h; simp only at this; omega
    subst hj
    rw [List.take_length] at hO hB
    exact hk o w18 (hO.mono fun b hb => ⟨hb.1, hb.2.1⟩) f18 hB
end
end Go.Proofs.YthpeengmcjpknaaGreatDoor
