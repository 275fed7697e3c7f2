/- A builder of the library: what a write leaves alone. -/
import Derived.Test.YthpeengmcjpknaaGreatDoorPB1
import Derived.Test.YthpeengmcjpknaaGreatDoorPVR
set_option linter.unusedSimpArgs false
set_option linter.unusedVariables false
namespace Go.Proofs.YthpeengmcjpknaaGreatDoor
open Go.V Go.RowKit
def BdF (B b : Nat) (l : Str) (F : Nat → Prop) (w : World) : Prop := ∃ (p v : Value), (p = .pointer none ∨ p = .pointer (some ⟨b, 0, none⟩)) ∧ B ≤ b ∧ w.heap[b]? = some (.cells #[p, v] 164 (0, 0)) ∧ w.ownsRow B 5 1 v l.length (bys l) ∧ v.ownBlock ≠ some b ∧ ∀ g, v.ownBlock = some g → F g
section
variable {w : World} {k : Value → World → Prop} {B b : Nat} {l : Str} {F : Nat → Prop}
theorem BdF.bd (h : BdF B b l F w) : Bd B b l w := by
  obtain ⟨p, v, hp, h1, h2, h3, h4, _⟩ := h
  have : Lib.BuilderAt 164 5 B b p (bys l) w := ⟨h1, v, h2, by rw [bys_len]; exact h3, h4⟩
  rcases hp with rfl | rfl
  · exact .inl this
  · exact .inr this
theorem BdF.mono (h : BdF B b l F w) {G : Nat → Prop} (hG : ∀ g, F g → G g) : BdF B b l G w := by
  obtain ⟨p, v, hp, h1, h2, h3, h4, h5⟩ := h
  exact ⟨p, v, hp, h1, h2, h3, h4, fun g hg => hG g (h5 g hg)⟩
theorem BdF.new {w5 : World} (h5 : w5 = w.alloc (.cells (List.toArray [.pointer none, .slice none 0 0]) 164)) : BdF w.heap.size w.heap.size [] F w5 := by
  refine ⟨.pointer none, .slice none 0 0, .inl rfl, Nat.le_refl _, ?_, ⟨rfl, .inl ⟨rfl, rfl⟩⟩, by simp [Value.ownBlock], fun g hg => by simp [Value.ownBlock] at hg⟩
  rw [h5]; exact heap_alloc_new w _
theorem BdF.fr {w' : World} {G : Nat → Prop} (h : BdF B b l F w) (f : Fr G w w') (hb : ¬ G b) (hF : ∀ g, F g → ¬ G g) : BdF B b l F w' := by
  obtain ⟨p, v, hp, h1, h2, h3, h4, h5⟩ := h
  refine ⟨p, v, hp, h1, by rw [f.blk b (Array.getElem?_eq_some_iff.1 h2).1 hb]; exact h2, ?_, h4, h5⟩
  refine ⟨h3.1, ?_⟩
  rcases h3.2 with hn | ⟨g, cap, cur, rfl, hB, hg, rest⟩
  · exact .inl hn
  · refine .inr ⟨g, cap, cur, rfl, hB, ?_, rest⟩
    rw [f.blk g (Array.getElem?_eq_some_iff.1 hg).1 (hF g (h5 g rfl))]; exact hg
theorem check_v {p v : Value} (hb : w.heap[b]? = some (.cells #[p, v] 164 (0, 0))) (hp : p = .pointer none ∨ p = .pointer (some ⟨b, 0, none⟩))
    (hk : ∀ w', w'.heap[b]? = some (.cells #[.pointer (some ⟨b, 0, none⟩), v] 164 (0, 0)) → Fr (fun g => g = b) w w' → k (.tuple #[]) w') : Cl Tryz.prog 276 [.pointer (some ⟨b, 0, none⟩)] w k := by
  have c0 : w.cell? ⟨b, 0, none⟩ = some p := by rw [Lib.cell_of_heap hb]; rfl
  rcases hp with rfl | rfl
  · refine cl_of (check_fresh b w c0 (by simp [World.shape?, hb]) (Lib.frozen_of_heap hb 0)) ?_
    rintro e w' ⟨rfl, rfl⟩
    refine ⟨_, rfl, hk _ ?_ ((Fr.refl (fun g => g = b) w).set (a := ⟨b, 0, none⟩) (fun _ => rfl) _)⟩
    simp [World.setCell, Array.getElem?_modify, hb]
  · refine cl_of (check_used b w c0) ?_
    rintro e w' ⟨rfl, rfl⟩
    exact ⟨_, rfl, hk _ hb (Fr.refl _ _)⟩
theorem grown_fr {w w' : World} {v : Value} (g : w.grownBy w' v.ownBlock) (hF : ∀ g, v.ownBlock = some g → F g) : Fr F w w' := ⟨g.os, g.tape, g.output, g.size, fun b hb hn => g.block b hb (fun e => hn (hF b e.symm))⟩
theorem put_specF {w3 w8 w10 : World} {v : Value} {m : Str} {s' : Sl} {n : Nat} (hBb : B ≤ b) (hbk : w3.heap[b]? = some (.cells #[.pointer (some ⟨b, 0, none⟩), v] 164 (0, 0))) (hown : w3.ownsRow B 5 1 v n (bys l)) (hne : v.ownBlock ≠ some b) (hF : ∀ g, v.ownBlock = some g → F g)
    (f3 : Fr (fun g => g = b ∨ F g) w w3) (g8 : Fr Non w3 w8) (g10 : w8.grownBy w10 v.ownBlock) (hown' : w10.ownsRow B 5 1 (.slice s'.base s'.len s'.cap) m.length (bys m)) (hnew : ∀ g, (Value.slice s'.base s'.len s'.cap).ownBlock = some g → F g ∨ w.heap.size ≤ g) :
    (w10.cell? ⟨b, 1, none⟩).isSome = true ∧ w10.frozen? ⟨b, 1, none⟩ = false ∧ ∀ w', w' = w10.setCell ⟨b, 1, none⟩ (.slice s'.base s'.len s'.cap) → BdF B b m (fun g => F g ∨ w.heap.size ≤ g) w' ∧ Fr (fun g => g = b ∨ F g) w w' := by
  have hlt : b < w3.heap.size := (Array.getElem?_eq_some_iff.1 hbk).1
  have hb8 : w8.heap[b]? = some (.cells #[.pointer (some ⟨b, 0, none⟩), v] 164 (0, 0)) := by rw [g8.blk b hlt (fun h => h)]; exact hbk
  have hb10 : w10.heap[b]? = some (.cells #[.pointer (some ⟨b, 0, none⟩), v] 164 (0, 0)) := by rw [g10.block b (Array.getElem?_eq_some_iff.1 hb8).1 (fun e => hne e.symm)]; exact hb8
  refine ⟨by rw [Lib.cell_of_heap hb10]; rfl, Lib.frozen_of_heap hb10 1, ?_⟩
  rintro w' rfl
  have hbd := Lib.BuilderAt.put (bs' := bys m) hBb hb10 (by rw [bys_len]; exact hown') (show (164 : Nat) ≠ 5 by decide)
  obtain ⟨_, v2, q1, q2, q3⟩ := hbd
  have hv2 : v2 = .slice s'.base s'.len s'.cap := by
    have : (w10.setCell ⟨b, 1, none⟩ (.slice s'.base s'.len s'.cap)).heap[b]? = some (.cells #[.pointer (some ⟨b, 0, none⟩), .slice s'.base s'.len s'.cap] 164 (0, 0)) := by simp [World.setCell, Array.getElem?_modify, hb10]
    rw [this] at q1
    simp at q1
    exact q1.symm
  subst hv2
  rw [bys_len] at q2
  refine ⟨⟨_, _, .inr rfl, hBb, q1, q2, q3, hnew⟩, ?_⟩
  have f10 : Fr (fun g => g = b ∨ F g) w w10 := (f3.trans g8 (fun _ _ h => h.elim)).trans (grown_fr (F := F) g10 hF) (fun _ _ h => .inr h)
  exact f10.set (a := ⟨b, 1, none⟩) (fun _ => .inl rfl) _
theorem wbyteF_spec (c : UInt8) (h : BdF B b l F w) (hlen : l.length + 1 ≤ 140737488355328) (hB : B ≤ w.heap.size) (hk : ∀ w', BdF B b (l ++ [c]) (fun g => F g ∨ w.heap.size ≤ g) w' → Fr (fun g => g = b ∨ F g) w w' → k .nilIface w') :
    Cl Tryz.prog 173 [.pointer (some ⟨b, 0, none⟩), .int .u8 (c.toNat : Int)] w k := by
  obtain ⟨i0, hi, hz0, hz1, hz2⟩ := info_u8
  refine f173_ok ?_
  unfold f173
  obtain ⟨p, v, hp, hBb, hb0, hown0, hne, hF⟩ := h
  refine check_v hb0 hp fun w3 hbk f3 => ?_
  have hown : w3.ownsRow B 5 1 v l.length (bys l) := hown0.kept (row := some b) ⟨f3.os, f3.tape, f3.output, f3.size, fun k hk hn => f3.blk k hk (fun e => hn (by rw [e]))⟩ (.inr hne)
  have hB3 : B ≤ w3.heap.size := by have := f3.size; omega
  obtain ⟨s, rfl, hs⟩ := own_sl hown
  refine ⟨_, rfl, s, by rw [add_mk, Lib.cell_of_heap hbk]; rfl, ?_⟩
  intro b7 w8 e7 e8
  have g8 : Fr Non w3 w8 := e8 ▸ (Fr.refl Non w3).alloc _
  have hown8 : w8.ownsRow B 5 1 (.slice s.base s.len s.cap) l.length (bys l) := e8 ▸ hown.alloc _
  have hB8 : B ≤ w8.heap.size := by have := g8.size; omega
  have hN : Blk w8 b7 5 [.int .u8 (c.toNat : Int)] := e7 ▸ e8 ▸ Blk.new w3 _ _
  obtain ⟨v', w10, hr, hown', g10, hn'⟩ := append_fp (P := Tryz.prog) (t := 141) (ty := 141) (e := 5) (sz := 1) (by_ := 1) (by kernel_rfl) hi hz0 hz1 hz2 rfl (by omega) hown8 ⟨b7, 0, none⟩ 1 1 [.int .u8 (c.toNat : Int)] rfl
    (fun j u hj => by rw [add_mk, Nat.zero_add]; exact hN.cell hj) (fun u hu => by simp at hu; subst hu; rfl) (by omega) (by omega) (by omega) hB8
  obtain ⟨s', rfl, _⟩ := own_sl hown'
  have eb : bys l ++ [.int .u8 (c.toNat : Int)] = bys (l ++ [c]) := by simp [bys]
  rw [eb] at hown'
  obtain ⟨p1, p2, p3⟩ := put_specF (m := l ++ [c]) hBb hbk hown hne hF (f3.mono fun _ _ h => .inl h) g8 g10 (by rw [List.length_append]; exact hown') (fun g hg => by
    rcases hn' g hg with h | h
    · exact .inl (hF g h)
    · right; have := g8.size; have := f3.size; omega)
  refine ⟨s', w10, hr, _, rfl, by rw [add_mk]; exact p1, by rw [add_mk]; exact p2, ?_⟩
  intro w12 e12
  rw [add_mk] at e12
  obtain ⟨q1, q2⟩ := p3 w12 e12
  exact hk _ q1 q2
theorem wstrF_spec (t : Str) (h : BdF B b l F w) (hlen : l.length + t.length ≤ 140737488355328) (hB : B ≤ w.heap.size) (hk : ∀ w', BdF B b (l ++ t) (fun g => F g ∨ w.heap.size ≤ g) w' → Fr (fun g => g = b ∨ F g) w w' → k (.tuple (List.toArray [.int .i64 (t.length : Int), .nilIface])) w') :
    Cl Tryz.prog 171 [.pointer (some ⟨b, 0, none⟩), .string (mkS t)] w k := by
  obtain ⟨i0, hi, hz0, hz1, hz2⟩ := info_u8
  refine f171_ok ?_
  unfold f171
  obtain ⟨p, v, hp, hBb, hb0, hown0, hne, hF⟩ := h
  refine check_v hb0 hp fun w3 hbk f3 => ?_
  have hown : w3.ownsRow B 5 1 v l.length (bys l) := hown0.kept (row := some b) ⟨f3.os, f3.tape, f3.output, f3.size, fun k hk hn => f3.blk k hk (fun e => hn (by rw [e]))⟩ (.inr hne)
  have hB3 : B ≤ w3.heap.size := by have := f3.size; omega
  obtain ⟨s, rfl, hs⟩ := own_sl hown
  refine ⟨_, rfl, s, by rw [add_mk, Lib.cell_of_heap hbk]; rfl, ?_⟩
  have hsz : (mkS t).size = t.length := by simp [mkS, ByteArray.size]
  obtain ⟨v', w10, hr, hown', g10, hn'⟩ := append_str_fp (P := Tryz.prog) (t := 141) (u := 9) (ty := 141) (e := 5) (by kernel_rfl) (by kernel_rfl) hi hz0 hz1 hz2 hown (mkS t) (by omega) hB3
  obtain ⟨s', rfl, _⟩ := own_sl hown'
  have eb : bys l ++ Lib.strCells (mkS t) = bys (l ++ t) := by simp [bys, Lib.strCells, mkS]
  rw [eb, hsz] at hown'
  obtain ⟨p1, p2, p3⟩ := put_specF (m := l ++ t) hBb hbk hown hne hF (f3.mono fun _ _ h => .inl h) (Fr.refl _ _) g10 (by rw [List.length_append]; exact hown') (fun g hg => by
    rcases hn' g hg with h | h
    · exact .inl (hF g h)
    · right; have := f3.size; omega)
  refine ⟨s', w10, hr, _, rfl, by rw [add_mk]; exact p1, by rw [add_mk]; exact p2, ?_⟩
  intro w12 e12
  rw [add_mk] at e12
  obtain ⟨q1, q2⟩ := p3 w12 e12
  exact hk _ q1 q2
end
end Go.Proofs.YthpeengmcjpknaaGreatDoor
