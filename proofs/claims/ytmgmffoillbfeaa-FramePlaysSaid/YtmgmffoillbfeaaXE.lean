/- The two readers play alike. -/
import Derived.Test.YtmgmffoillbfeaaXD
set_option linter.unusedSimpArgs false
set_option linter.unusedVariables false
namespace Go.Proofs.Ytmgmffoillbfeaa
open Go.V Go.RowKit

/-- The two readers side by side. -/
def Tw (w0 : World) (bx cy : Nat) (r q : RS) (w : World) : Prop := ∃ X Y, Rep 45 67 w bx r X ∧ Rep 52 74 w cy q Y ∧ Like r q ∧ Ok r ∧ (∀ g, Y g → ¬ X g) ∧ (∀ g, X g → w0.heap.size ≤ g) ∧ (∀ g, Y g → w0.heap.size ≤ g) ∧ Fr Non w0 w
theorem Like.tail {r q : RS} (h : Like r q) : Like { r with evs := r.evs.tail } { q with evs := q.evs.tail } := ⟨h.st, by simp [h.evs], h.skip, h.most, h.inp, h.out⟩
theorem upS {w0 w : World} {X X' : Nat → Prop} (h : ∀ g, X' g → X g ∨ w.heap.size ≤ g) (hX : ∀ g, X g → w0.heap.size ≤ g) (f : Fr Non w0 w) : ∀ g, X' g → w0.heap.size ≤ g := fun g hg => by
  rcases h g hg with h | h
  · exact hX g h
  · have := f.size; omega
section
variable {w0 w : World} {bx cy : Nat} {r q : RS} {k : Value → World → Prop}
theorem Tw.drew (h : Tw w0 bx cy r q w) : Tw w0 bx cy r q w.drew := by
  obtain ⟨X, Y, h1, h2, h3, h4, h5, h6, h7, h8⟩ := h
  exact ⟨X, Y, h1.drew, h2.drew, h3, h4, h5, h6, h7, h8.drew⟩
theorem Tw.fr (h : Tw w0 bx cy r q w) : Fr Non w0 w := by
  obtain ⟨X, Y, h1, h2, h3, h4, h5, h6, h7, h8⟩ := h
  exact h8
theorem tw_feed (h : Tw w0 bx cy r q w) (s : Str) (hs : (s.length : Int) + r.evs.length + r.skip ≤ 1000000000)
    (hk : ∀ w', Fr Non w0 w' → (∀ k2 : Value → World → Prop, (∀ w'', Tw w0 bx cy (fd r s) (qfd q s) w'' → k2 (.tuple #[]) w'') → Cl Try.prog 19 [.pointer (some ⟨cy, 0, none⟩), .string (mkS s)] w' k2) → k (.tuple #[]) w') :
    Cl Try.prog 13 [.pointer (some ⟨bx, 0, none⟩), .string (mkS s)] w k := by
  obtain ⟨X, Y, h1, h2, h3, h4, h5, h6, h7, h8⟩ := h
  refine feed_spec s h1 h4 hs fun w1 X1 x1 f1 hX1 => ?_
  have g1 : Fr Non w0 w1 := upN h8 f1 h6
  have y1 := h2.fr f1 (fun g hg => h5 g hg)
  have d1 : ∀ g, Y g → ¬ X1 g := dj hX1 h5 (fun g hg => h2.lt hg)
  have u1 := upS hX1 h6 h8
  refine hk w1 g1 fun k2 hk2 => ?_
  refine qfeed_spec s h3 h4 y1 hs fun w2 Y2 y2 f2 hY2 => hk2 w2 ?_
  have x2 := x1.fr f2 (fun g hg hy => d1 g hy hg)
  refine ⟨X1, Y2, x2, y2, h3.fd s h4, (h4.fd s).1, ?_, u1, upS hY2 h7 g1, upN g1 f2 h7⟩
  intro g hg hX
  rcases hY2 g hg with h | h
  · exact d1 g h hX
  · have := x1.lt hX; omega
theorem tw_reset (h : Tw w0 bx cy r q w)
    (hk : ∀ w', Fr Non w0 w' → (∀ k2 : Value → World → Prop, (∀ w'', Tw w0 bx cy (rst r) (qrst q) w'' → k2 (.tuple #[]) w'') → Cl Try.prog 23 [.pointer (some ⟨cy, 0, none⟩)] w' k2) → k (.tuple #[]) w') :
    Cl Try.prog 22 [.pointer (some ⟨bx, 0, none⟩)] w k := by
  obtain ⟨X, Y, h1, h2, h3, h4, h5, h6, h7, h8⟩ := h
  refine reset_spec h1 h4 fun w1 X1 x1 f1 hX1 => ?_
  have g1 : Fr Non w0 w1 := upN h8 f1 h6
  have y1 := h2.fr f1 (fun g hg => h5 g hg)
  have d1 : ∀ g, Y g → ¬ X1 g := dj hX1 h5 (fun g hg => h2.lt hg)
  have u1 := upS hX1 h6 h8
  refine hk w1 g1 fun k2 hk2 => ?_
  refine qreset_spec y1 (by rw [h3.st]; exact h4.s0) (by rw [h3.st]; exact h4.s1) fun w2 Y2 y2 f2 hY2 => hk2 w2 ?_
  have x2 := x1.fr f2 (fun g hg hy => d1 g hy hg)
  refine ⟨X1, Y2, x2, y2, h3.rst h4, ?_, ?_, u1, upS hY2 h7 g1, upN g1 f2 h7⟩
  · exact ⟨by simp [rst], by simp [rst], by have := lim_pos r.most; simp [rst]; omega, h4.k⟩
  intro g hg hX
  rcases hY2 g hg with h | h
  · exact d1 g h hX
  · have := x1.lt hX; omega
theorem tw_next (h : Tw w0 bx cy r q w)
    (hk : ∀ w', Fr Non w0 w' → (∀ k2 : Value → World → Prop, (∀ w'', Tw w0 bx cy { r with evs := r.evs.tail } { q with evs := q.evs.tail } w'' → k2 (nxt r.evs) w'') → Cl Try.prog 21 [.pointer (some ⟨cy, 0, none⟩)] w' k2) → k (nxt r.evs) w') :
    Cl Try.prog 20 [.pointer (some ⟨bx, 0, none⟩)] w k := by
  obtain ⟨X, Y, h1, h2, h3, h4, h5, h6, h7, h8⟩ := h
  refine next_spec h1 fun w1 x1 f1 => ?_
  have g1 : Fr Non w0 w1 := upN h8 f1 h6
  have y1 := h2.fr f1 (fun g hg => h5 g hg)
  refine hk w1 g1 fun k2 hk2 => ?_
  refine qnext_spec y1 fun w2 y2 f2 => ?_
  have x2 := x1.fr f2 (fun g hg hy => h5 g hy hg)
  rw [h3.evs]
  refine hk2 w2 ⟨X, Y, x2, y2, h3.tail, ⟨h4.s0, h4.s1, h4.i, h4.k⟩, h5, h6, h7, upN g1 f2 h7⟩
end
theorem nxt_tuple (l : List (Str × Int)) : ∃ (a : Str) (n : Int) (o : Bool), nxt l = .tuple (List.toArray [.string (mkS a), .int .i64 n, .bool o]) ∧ (o = false → l = []) := by
  cases l with
  | nil => exact ⟨[], 0, false, rfl, fun _ => rfl⟩
  | cons x l => exact ⟨x.1, x.2, true, rfl, fun h => by cases h⟩
/-- An element of the list of what is done. -/
def OpAt (w : World) (l : Sl) (i : Nat) (kd : Int) (dt : Str) : Prop := ∃ a, l.base = some a ∧ w.cell? (a.add (i * 2)) = some (.int .i64 kd) ∧ w.cell? ((a.add (i * 2)).add 1) = some (.string (mkS dt))
theorem OpAt.fr {w w' : World} {l : Sl} {i : Nat} {kd : Int} {dt : Str} (h : OpAt w l i kd dt) (e : Fr Non w w') : OpAt w' l i kd dt := by
  obtain ⟨a, h1, h2, h3⟩ := h
  exact ⟨a, h1, fr_cell e h2 (fun h => h), fr_cell e h3 (fun h => h)⟩
set_option maxHeartbeats 2000000 in
theorem plays_spec {w : World} {k : Value → World → Prop} (most : Int) (zero : Bool) (l : Sl) (kd : Nat → Int) (dt : Nat → Str) (hl : ∀ i, i < l.len → OpAt w l i (kd i) (dt i)) (hk : ∀ w', Fr Non w w' → k (.bool true) w') :
    Cl Try.prog 6 [.int .i64 most, .bool zero, .slice l.base l.len l.cap] w k := by
  refine f6_ok ?_
  unfold f6
  refine ⟨fun _ => alive_spec fun w1 f1 => ⟨_, rfl, hk _ f1⟩, fun hlen => ?_⟩
  have hlen := of_decide_eq_false hlen
  refine alive_spec fun w1 f1 => ⟨true, rfl, fun h => by simp at h, fun _ => ?_⟩
  refine new_spec most fun w2 x2 f2 => ⟨_, rfl, ?_⟩
  have g2 := upN f1 f2 (fun g hg => hg.elim)
  refine qnew_spec most fun w3 y3 f3 => ⟨_, rfl, ?_⟩
  have g3 := upN g2 f3 (fun g hg => hg.elim)
  have s1 := f1.size
  have z1 : w1.heap.size < w2.heap.size := x2.lt rfl
  have z2 : w2.heap.size < w3.heap.size := y3.lt rfl
  have like0 : ∀ m, Like (rnew m) (rnew (lim m)) := fun m => ⟨rfl, rfl, rfl, rfl, fun _ => rfl, fun _ => rfl⟩
  refine ⟨fun rr qq w19 => ∃ bx cy r q, rr = some ⟨bx, 0, none⟩ ∧ qq = some ⟨cy, 0, none⟩ ∧ Tw w bx cy r q w19 ∧ r.skip + r.evs.length ≤ 0, ?_, ?_, ?_⟩
  · rintro rr qq w19 ⟨bx, cy, r0, q0, rfl, rfl, htw0, hb0⟩
    let St : Nat → World → Prop := fun j w' => ∃ r q, Tw w bx cy r q w' ∧ r.skip + r.evs.length ≤ 6000 * j
    refine ⟨fun m i w' => ∃ j : Nat, i = j ∧ j ≤ l.len ∧ m = l.len - j ∧ St j w', ⟨l.len, 0, rfl, by omega, by omega, r0, q0, htw0, by omega⟩, ?_⟩
    rintro m i w4 ⟨j, rfl, hj, rfl, r, q, htw, hbd⟩
    refine ⟨fun h => ?_, fun h => ?_⟩
    · have hjl : j < l.len := by have := of_decide_eq_true h; omega
      have rd : ∀ {w' : World}, Fr Non w w' → ∃ a, l.base = some a ∧ w'.cell? (a.add (((j : Int)).toNat * 2)) = some (.int .i64 (kd j)) ∧ w'.cell? ((a.add (((j : Int)).toNat * 2)).add 1) = some (.string (mkS (dt j))) := fun hf => (hl j hjl).fr hf
      obtain ⟨a, ha, hc0, hc1⟩ := rd htw.fr
      refine ⟨a, ha, ⟨by omega, by omega⟩, dt j, hc1, fun _ => hk _ htw.fr, fun hd => ?_⟩
      have hd := of_decide_eq_false hd
      have hok : Ok r := by obtain ⟨X, Y, h1, h2, h3, h4, _⟩ := htw; exact h4
      have hk0 := hok.k
      refine ⟨St (j + 1), ?_, a, ha, ⟨by omega, by omega⟩, kd j, hc0, fun h1 => ?_, fun h1 => ⟨fun h2 => ?_, fun h2 => ⟨fun h3 => ?_, fun h3 => ?_⟩⟩⟩
      · rintro w5 ⟨r5, q5, htw5, hbd5⟩
        refine ⟨fun v w' => v = false ∧ St (j + 1) w', ?_, ?_⟩
        · rintro v w6 ⟨rfl, hS⟩
          refine ⟨fun h => by simp at h, fun _ => ⟨l.len - (j + 1), by omega, j + 1, by rw [w64_id (by omega) (by omega)]; push_cast; rfl, by omega, rfl, hS⟩⟩
        · rintro w6 rfl
          have htw6 := htw5.drew
          have htw6' := htw6
          obtain ⟨X, Y, x6, y6, hlk, ho6, _, _, _, _⟩ := htw6
          refine inside_spec x6 ⟨_, rfl, qinside_spec y6 ⟨_, rfl, ?_⟩⟩
          refine ⟨fun h => by rw [hlk.st] at h; simp at h, fun _ => ?_⟩
          obtain ⟨iq, eq, hbq⟩ := y6.c2
          refine ⟨_, rfl, q5.skip, by rw [add_mk]; exact hbq.cell rfl, ?_⟩
          refine skipped_spec x6 ⟨Ext.refl _, _, rfl, ?_, r5, q5, htw6', hbd5⟩
          rw [hlk.skip]; simp
      · -- bytes come
        refine ⟨a, ha, ⟨by omega, by omega⟩, dt j, hc1, ?_⟩
        obtain ⟨ok1, sk1, ev1, mo1⟩ := hok.fd (dt j)
        refine tw_feed htw (dt j) (by omega) fun w5 g5 hq => ?_
        obtain ⟨a, ha, hc0, hc1⟩ := rd g5
        refine ⟨a, ha, ⟨by omega, by omega⟩, dt j, hc1, hq _ fun w6 htw6 => ⟨_, _, htw6, ?_⟩⟩
        push_cast
        omega
      · -- the next event
        refine tw_next htw fun w5 g5 hq => ?_
        obtain ⟨x, n, o, hn, ho⟩ := nxt_tuple r.evs
        refine ⟨x, n, o, hn, hq _ fun w6 htw6 => ⟨x, n, o, hn, ?_⟩⟩
        have hS6 : St (j + 1) w6 := ⟨_, _, htw6, by simp only [List.length_tail]; push_cast; omega⟩
        exact ⟨fun v w' => v = false ∧ St (j + 1) w', fun v w' ⟨e, hS⟩ => ⟨fun h => absurd (e ▸ h) (by simp), fun _ => hS⟩, fun h => by simp at h, fun _ => ⟨fun h => by simp at h, fun _ => ⟨by simp, hS6⟩⟩⟩
      · -- a reset
        refine tw_reset htw fun w5 g5 hq => hq _ fun w6 htw6 => ⟨_, _, htw6, ?_⟩
        have : (rst r).evs.length ≤ 1 := by rw [(rst_evs hok).1]; split <;> omega
        have : (rst r).skip = r.skip := rfl
        push_cast
        omega
      · exact ⟨r, q, htw, by push_cast; omega⟩
    · refine ⟨fun w' => Fr Non w w', fun w' hf => hk _ hf, ?_⟩
      refine ⟨fun m v w' => ∃ j2 : Nat, v = j2 ∧ j2 ≤ 3000 ∧ m = 3000 - j2 ∧ ∃ r q, Tw w bx cy r q w', ⟨3000, 0, rfl, by omega, by omega, r, q, htw⟩, ?_⟩
      rintro m2 v w5 ⟨j2, rfl, hj2, rfl, r5, q5, htw5⟩
      refine ⟨fun h => ?_, fun _ => htw5.fr⟩
      have h := of_decide_eq_true h
      refine tw_next htw5 fun w6 g6 hq => ?_
      obtain ⟨x, n, o, hn, ho⟩ := nxt_tuple r5.evs
      refine ⟨x, n, o, hn, hq _ fun w7 htw7 => ⟨x, n, o, hn, ?_⟩⟩
      refine ⟨fun v w' => v = false ∧ w' = w7, ?_, fun h => by simp at h, fun _ => ⟨fun h => by simp at h, fun _ => ⟨by simp, rfl⟩⟩⟩
      rintro v w8 ⟨rfl, rfl⟩
      refine ⟨fun h => by simp at h, fun _ => ⟨fun _ => htw7.fr, fun _ => ?_⟩⟩
      exact ⟨3000 - (j2 + 1), by omega, j2 + 1, by rw [w64_id (by omega) (by omega)]; push_cast; rfl, by omega, rfl, _, _, htw7⟩
  · rintro hz b20 w4 rfl hw4
    have x4 : Rep 45 67 w4 w3.heap.size (rnew 0) (fun g => g = w3.heap.size) := hw4 ▸ Rep.mk' w3 45 67 0
    have f4 : Fr Non w3 w4 := hw4 ▸ (Fr.refl Non w3).alloc _
    have g4 := upN g3 f4 (fun g hg => hg.elim)
    have z4 : w3.heap.size < w4.heap.size := x4.lt rfl
    refine qnew_spec 0 fun w5 y5 f5 => ⟨_, rfl, _, _, _, _, rfl, rfl, ⟨_, _, x4.fr f5 (fun _ _ h => h), y5, like0 0, rnew_ok 0, fun g hg e => by omega, fun g hg => by omega, fun g hg => by omega, upN g4 f5 (fun g hg => hg.elim)⟩, by simp [rnew]⟩
  · intro hz
    exact ⟨_, _, _, _, rfl, rfl, ⟨_, _, x2.fr f3 (fun _ _ h => h), y3, like0 most, rnew_ok most, fun g hg e => by omega, fun g hg => by omega, fun g hg => by omega, g3⟩, by simp [rnew]⟩
end Go.Proofs.Ytmgmffoillbfeaa
