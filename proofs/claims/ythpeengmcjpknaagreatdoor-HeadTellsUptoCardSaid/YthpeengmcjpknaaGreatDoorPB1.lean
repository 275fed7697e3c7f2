/- A builder of the library: what is written into it, and the text that comes out. -/
import Derived.Test.YthpeengmcjpknaaGreatDoorPSQ
import Derived.Test.YthpeengmcjpknaaGreatDoorShelf
set_option linter.unusedSimpArgs false
set_option linter.unusedVariables false
namespace Go.Proofs.YthpeengmcjpknaaGreatDoor
open Go.V Go.RowKit
theorem cl_of {P : Program} {f : FuncId} {args : List Value} {w : World} {R : Ending → World → Prop} {k : Value → World → Prop} (h : Calls P f args.toArray w R) (hk : ∀ e w', R e w' → ∃ v, e = .returned v ∧ k v w') : Cl P f args w k := Calls.mono h hk
def Bd (B b : Nat) (l : Str) (w : World) : Prop := Lib.IsBuilder 164 5 B b (bys l) w
def Bd1 (B b : Nat) (l : Str) (w : World) : Prop := Lib.BuilderAt 164 5 B b (.pointer (some ⟨b, 0, none⟩)) (bys l) w
theorem bys_len (l : Str) : (bys l).length = l.length := by simp [bys]
theorem bys_app (l m : Str) : bys (l ++ m) = bys l ++ bys m := by simp [bys]
theorem info_of {P : Program} {e : TypeId} {z : Value} {sz by_ : Nat} (hs : Sz P e sz) (hz : Zr P e z) (hb : Bts P e by_) : ∃ i, P.info? e = some i ∧ i.zero = some z ∧ i.size = sz ∧ i.bytes = by_ := by
  unfold Sz at hs
  unfold Zr at hz
  unfold Bts at hb
  obtain ⟨i, hi, e1⟩ := Option.map_eq_some_iff.1 hs
  obtain ⟨i2, hi2, hz2⟩ := Option.bind_eq_some_iff.1 hz
  obtain ⟨i3, hi3, e3⟩ := Option.map_eq_some_iff.1 hb
  rw [hi] at hi2 hi3
  cases hi2; cases hi3
  exact ⟨i, hi, hz2, e1, e3⟩
theorem info_u8 : ∃ i, Tryz.prog.info? 5 = some i ∧ i.zero = some (.int .u8 0) ∧ i.size = 1 ∧ i.bytes = 1 := info_of (Sz.mk (by kernel_rfl)) (Zr.mk (by kernel_rfl)) (Bts.mk (by kernel_rfl))
theorem size_bd : ∃ j, Tryz.prog.info? 164 = some j ∧ j.size = 2 := Option.map_eq_some_iff.1 (show (Tryz.prog.info? 164).map (·.size) = some 2 by kernel_rfl)
theorem own_sl {w : World} {B : Nat} {e : TypeId} {v : Value} {n : Nat} {xs : List Value} (h : w.ownsRow B e 1 v n xs) : ∃ s : Sl, v = .slice s.base s.len s.cap ∧ s.len = n := by
  rcases h.2 with ⟨rfl, rfl⟩ | ⟨g, cap, cur, rfl, _⟩
  · exact ⟨⟨none, 0, 0⟩, rfl, rfl⟩
  · exact ⟨⟨some ⟨g, 0, none⟩, n, cap⟩, rfl, rfl⟩
set_option maxHeartbeats 1000000 in
set_option maxRecDepth 100000 in
theorem check_used (b : Nat) (w : World) (h0 : w.cell? ⟨b, 0, none⟩ = some (.pointer (some ⟨b, 0, none⟩))) :
    Calls Tryz.prog 276 #[.pointer (some ⟨b, 0, none⟩)] w fun e w' => e = .returned (.tuple #[]) ∧ w' = w := by
  obtain ⟨j, hj, _⟩ := size_bd
  go_enter Tryz.func276, Tryz.ntmps276
  go_wp2
  rw [Lib.run_neq_ptr_same w _ Tryz.underlying162 hj]
  go_wp2
  go_end0
  exact ⟨rfl, rfl⟩
set_option maxHeartbeats 1000000 in
set_option maxRecDepth 100000 in
theorem check_fresh (b : Nat) (w : World) (h0 : w.cell? ⟨b, 0, none⟩ = some (.pointer none)) (hsh : w.shape? b = some (164, 2)) (hfz : w.frozen? ⟨b, 0, none⟩ = false) :
    Calls Tryz.prog 276 #[.pointer (some ⟨b, 0, none⟩)] w fun e w' => e = .returned (.tuple #[]) ∧ w' = w.setCell ⟨b, 0, none⟩ (.pointer (some ⟨b, 0, none⟩)) := by
  obtain ⟨j, hj, hjs⟩ := size_bd
  have hl : liesAt Tryz.prog Tryz.prog.depth 164 (2 / Tryz.prog.cellsOf 164) 0 164 1 = true := by kernel_rfl
  have hu : Tryz.prog.underlying 321 = some .unsafePointer := by kernel_rfl
  go_enter Tryz.func276, Tryz.ntmps276
  go_wp2
  rw [Lib.run_to_unsafe w ⟨b, 0, none⟩ Tryz.underlying162 hu hj (by rw [hjs]; decide) hsh (Nat.zero_lt_succ 1)]
  simp only [Result.andThen]
  rw [Oper.upon_value]
  go_wp2
  rw [run_callFunc_extern Tryz.func323 (by kernel_rfl) (by kernel_rfl) (by kernel_rfl) (e := Extern.AbiNoEscape.same) (by kernel_rfl)]
  rw [Lib.run_noEscape]
  simp only [Result.andThen]
  rw [Oper.upon_value]
  go_wp2
  rw [Lib.run_from_unsafe w ⟨b, 0, none⟩ hu Tryz.underlying162 hj hsh hl]
  simp only [Result.andThen]
  rw [Oper.upon_value]
  go_wp2
  go_end0
  exact ⟨rfl, rfl⟩
section
variable {w : World} {k : Value → World → Prop} {B b : Nat} {l : Str}
theorem check_spec (h : Bd B b l w) (hk : ∀ w', Bd1 B b l w' → Below B w w' → k (.tuple #[]) w') : Cl Tryz.prog 276 [.pointer (some ⟨b, 0, none⟩)] w k := by
  rcases h with h | h
  · refine cl_of (check_fresh b w h.cell0 h.shape h.frozen0) ?_
    rintro e w' ⟨rfl, rfl⟩
    exact ⟨_, rfl, hk _ (h.used _) ((Below.refl B w).setCell (p := ⟨b, 0, none⟩) h.1 _)⟩
  · refine cl_of (check_used b w h.cell0) ?_
    rintro e w' ⟨rfl, rfl⟩
    exact ⟨_, rfl, hk _ h (Below.refl B _)⟩
theorem put_spec {w3 w8 w10 : World} {v : Value} {m : Str} {s' : Sl} {n : Nat} (hBb : B ≤ b) (hbk : w3.heap[b]? = some (.cells #[.pointer (some ⟨b, 0, none⟩), v] 164 (0, 0))) (hown : w3.ownsRow B 5 1 v n (bys l)) (hne : v.ownBlock ≠ some b)
    (b0 : Below B w w3) (hB : B ≤ w3.heap.size) (g8 : w3.grownBy w8 none) (g10 : w8.grownBy w10 v.ownBlock) (hown' : w10.ownsRow B 5 1 (.slice s'.base s'.len s'.cap) m.length (bys m)) :
    (w10.cell? ⟨b, 1, none⟩).isSome = true ∧ w10.frozen? ⟨b, 1, none⟩ = false ∧ ∀ w', w' = w10.setCell ⟨b, 1, none⟩ (.slice s'.base s'.len s'.cap) → Bd B b m w' ∧ Below B w w' := by
  have hlt : b < w3.heap.size := (Array.getElem?_eq_some_iff.1 hbk).1
  have hb8 : w8.heap[b]? = some (.cells #[.pointer (some ⟨b, 0, none⟩), v] 164 (0, 0)) := by rw [g8.block b hlt (by simp)]; exact hbk
  have hb10 : w10.heap[b]? = some (.cells #[.pointer (some ⟨b, 0, none⟩), v] 164 (0, 0)) := by rw [g10.block b (Array.getElem?_eq_some_iff.1 hb8).1 (fun e => hne e.symm)]; exact hb8
  refine ⟨by rw [Lib.cell_of_heap hb10]; rfl, Lib.frozen_of_heap hb10 1, ?_⟩
  rintro w' rfl
  refine ⟨.inr (Lib.BuilderAt.put (bs' := bys m) hBb hb10 (by rw [bys_len]; exact hown') (by decide)), ?_⟩
  have b8 : Below B w w8 := b0.grown g8 hB (fun k hk => by cases hk)
  exact (b8.grown g10 (by have := g8.size; omega) (fun k hk => (hown.lt k hk).1)).setCell (p := ⟨b, 1, none⟩) hBb _
theorem wbyte_spec (c : UInt8) (h : Bd B b l w) (hlen : l.length + 1 ≤ 140737488355328) (hB : B ≤ w.heap.size) (hk : ∀ w', Bd B b (l ++ [c]) w' → Below B w w' → k .nilIface w') :
    Cl Tryz.prog 173 [.pointer (some ⟨b, 0, none⟩), .int .u8 (c.toNat : Int)] w k := by
  obtain ⟨i0, hi, hz0, hz1, hz2⟩ := info_u8
  refine f173_ok ?_
  unfold f173
  refine check_spec h fun w3 h3 hb3 => ?_
  obtain ⟨hBb, v, hbk, hown, hne⟩ := h3
  rw [bys_len] at hown
  have hB3 : B ≤ w3.heap.size := by have := hb3.size; omega
  obtain ⟨s, rfl, hs⟩ := own_sl hown
  refine ⟨_, rfl, s, by rw [add_mk, Lib.cell_of_heap hbk]; rfl, ?_⟩
  intro b7 w8 e7 e8
  have g8 : w3.grownBy w8 none := e8 ▸ World.grownBy_alloc w3 _ none
  have hown8 : w8.ownsRow B 5 1 (.slice s.base s.len s.cap) l.length (bys l) := e8 ▸ hown.alloc _
  have hB8 : B ≤ w8.heap.size := by have := g8.size; omega
  have hN : Blk w8 b7 5 [.int .u8 (c.toNat : Int)] := e7 ▸ e8 ▸ Blk.new w3 _ _
  obtain ⟨v', w10, hr, hown', g10, _⟩ := run_append_own (P := Tryz.prog) w8 B 141 141 5 i0 _ 1 1 (by kernel_rfl) hi hz0 hz1 hz2 rfl (by omega) _ l.length (bys l) hown8 ⟨b7, 0, none⟩ 1 1 [.int .u8 (c.toNat : Int)] rfl
    (fun j u hj => by rw [add_mk, Nat.zero_add]; exact hN.cell hj) (fun u hu => by simp at hu; subst hu; rfl) (by unfold maxLen; omega) (by omega) hB8
  obtain ⟨s', rfl, _⟩ := own_sl hown'
  have eb : bys l ++ [.int .u8 (c.toNat : Int)] = bys (l ++ [c]) := by simp [bys]
  rw [eb] at hown'
  obtain ⟨p1, p2, p3⟩ := put_spec (m := l ++ [c]) hBb hbk hown hne hb3 hB3 g8 g10 (by rw [List.length_append]; exact hown')
  refine ⟨s', w10, hr, _, rfl, by rw [add_mk]; exact p1, by rw [add_mk]; exact p2, ?_⟩
  intro w12 e12
  rw [add_mk] at e12
  obtain ⟨q1, q2⟩ := p3 w12 e12
  exact hk _ q1 q2
theorem wstr_spec (t : Str) (h : Bd B b l w) (hlen : l.length + t.length ≤ 140737488355328) (hB : B ≤ w.heap.size) (hk : ∀ w', Bd B b (l ++ t) w' → Below B w w' → k (.tuple (List.toArray [.int .i64 (t.length : Int), .nilIface])) w') :
    Cl Tryz.prog 171 [.pointer (some ⟨b, 0, none⟩), .string (mkS t)] w k := by
  obtain ⟨i0, hi, hz0, hz1, hz2⟩ := info_u8
  refine f171_ok ?_
  unfold f171
  refine check_spec h fun w3 h3 hb3 => ?_
  obtain ⟨hBb, v, hbk, hown, hne⟩ := h3
  rw [bys_len] at hown
  have hB3 : B ≤ w3.heap.size := by have := hb3.size; omega
  obtain ⟨s, rfl, hs⟩ := own_sl hown
  refine ⟨_, rfl, s, by rw [add_mk, Lib.cell_of_heap hbk]; rfl, ?_⟩
  have hsz : (mkS t).size = t.length := by simp [mkS, ByteArray.size]
  obtain ⟨v', w10, hr, hown', g10, _⟩ := Lib.run_append_own_string (P := Tryz.prog) w3 B 141 9 141 5 i0 (by kernel_rfl) (by kernel_rfl) hi hz0 hz1 hz2 _ l.length (bys l) hown (mkS t) (by unfold maxLen; omega) (by omega) hB3
  obtain ⟨s', rfl, _⟩ := own_sl hown'
  have eb : bys l ++ Lib.strCells (mkS t) = bys (l ++ t) := by simp [bys, Lib.strCells, mkS]
  rw [eb, hsz] at hown'
  obtain ⟨p1, p2, p3⟩ := put_spec (m := l ++ t) hBb hbk hown hne hb3 hB3 ⟨rfl, rfl, rfl, Nat.le_refl _, fun _ _ _ => rfl⟩ g10 (by rw [List.length_append]; exact hown')
  refine ⟨s', w10, hr, _, rfl, by rw [add_mk]; exact p1, by rw [add_mk]; exact p2, ?_⟩
  intro w12 e12
  rw [add_mk] at e12
  obtain ⟨q1, q2⟩ := p3 w12 e12
  exact hk _ q1 q2
theorem bstr_spec (h : Bd B b l w) (hB : B ≤ w.heap.size) (hk : ∀ w', Below B w w' → k (.string (mkS l)) w') : Cl Tryz.prog 175 [.pointer (some ⟨b, 0, none⟩)] w k := by
  refine cl_of (Tryz.Builder_String_any B b l w h hB) ?_
  rintro e w' ⟨rfl, hb⟩
  exact ⟨_, rfl, hk w' hb⟩
theorem blen_spec (h : Bd B b l w) (hk : k (.int .i64 (l.length : Int)) w) : Cl Tryz.prog 174 [.pointer (some ⟨b, 0, none⟩)] w k := by
  refine cl_of (Tryz.Builder_Len B b (bys l) w h) ?_
  rintro e w' ⟨rfl, rfl⟩
  exact ⟨_, rfl, by rw [bys_len]; exact hk⟩
theorem Bd.new {w5 : World} (h5 : w5 = w.alloc (.cells (List.toArray [.pointer none, .slice none 0 0]) 164)) : Bd w.heap.size w.heap.size [] w5 := by
  refine .inl ⟨Nat.le_refl _, .slice none 0 0, ?_, ⟨rfl, .inl ⟨rfl, rfl⟩⟩, by simp [Value.ownBlock]⟩
  rw [h5]; exact heap_alloc_new w _
theorem Bd.fr {w' : World} (h : Bd B b l w) (f : Fr Non w w') : Bd B b l w' := by
  have key : ∀ p, Lib.BuilderAt 164 5 B b p (bys l) w → Lib.BuilderAt 164 5 B b p (bys l) w' := by
    rintro p ⟨h1, v, h2, h3, h4⟩
    refine ⟨h1, v, by rw [f.blk b (Array.getElem?_eq_some_iff.1 h2).1 (fun x => x)]; exact h2, ?_, h4⟩
    exact h3.kept (row := none) ⟨f.os, f.tape, f.output, f.size, fun k hk _ => f.blk k hk (fun x => x)⟩ (by cases v.ownBlock <;> simp)
  rcases h with h | h
  · exact .inl (key _ h)
  · exact .inr (key _ h)
theorem belowFr {w0 : World} {w w' : World} (h : Below w0.heap.size w w') (f : Fr Non w0 w) : Fr Non w0 w' := ⟨h.os.trans f.os, h.tape.trans f.tape, h.output.trans f.output, Nat.le_trans f.size h.size, fun b hb hF => by rw [h.block b hb]; exact f.blk b hb hF⟩
end
end Go.Proofs.YthpeengmcjpknaaGreatDoor
