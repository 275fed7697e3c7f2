/- What is known of memory: whole blocks; what stays; slices that are owned; appending; maps. -/
import Derived.Test.YthpeengmcjpknaaGreatDoorPVQ
import Derived.Lib.AppendStr
set_option linter.unusedSimpArgs false
set_option linter.unusedVariables false
namespace Go.V
open Go.RowKit
def Blk (w : World) (b : Nat) (T : TypeId) (cs : List Value) : Prop := w.heap[b]? = some (.cells cs.toArray T (0, 0))
structure Fr (F : Nat → Prop) (w w' : World) : Prop where
  os : w'.os = w.os
  tape : w'.tape = w.tape
  output : w'.output = w.output
  size : w.heap.size ≤ w'.heap.size
  blk : ∀ b, b < w.heap.size → ¬ F b → w'.heap[b]? = w.heap[b]?
def Non : Nat → Prop := fun _ => False
section
variable {w w' w1 w2 : World} {b : Nat} {T : TypeId} {cs : List Value} {F G : Nat → Prop}
theorem Blk.lt (h : Blk w b T cs) : b < w.heap.size := (Array.getElem?_eq_some_iff.1 h).1
theorem Blk.cell (h : Blk w b T cs) {i : Nat} {v : Value} (hi : cs[i]? = some v) : w.cell? ⟨b, i, none⟩ = some v := by
  unfold World.cell?; rw [h]; simpa using hi
theorem Blk.isS (h : Blk w b T cs) {i : Nat} (hi : i < cs.length) : (w.cell? ⟨b, i, none⟩).isSome = true := by
  rw [h.cell (List.getElem?_eq_getElem hi)]; rfl
theorem Blk.free (h : Blk w b T cs) (i : Nat) : w.frozen? ⟨b, i, none⟩ = false := by
  unfold World.frozen?; rw [h]; simp
theorem Blk.set (h : Blk w b T cs) (i : Nat) (v : Value) : Blk (w.setCell ⟨b, i, none⟩ v) b T (cs.set i v) := by
  unfold Blk at *
  simp only [World.setCell, Array.getElem?_modify, if_true, h, Option.map_some]
  simp
theorem Blk.ne (h : Blk w b T cs) {a : Addr} (hn : a.block ≠ b) (v : Value) : Blk (w.setCell a v) b T cs := by
  unfold Blk at *
  rw [Below.heap_setCell _ _ _ _ (Ne.symm hn)]; exact h
theorem Blk.alloc (h : Blk w b T cs) (o : Obj) : Blk (w.alloc o) b T cs := by
  have := h.lt; unfold Blk at *; rw [Below.heap_alloc w o b this]; exact h
theorem Blk.new (w : World) (cs : List Value) (T : TypeId) : Blk (w.alloc (.cells cs.toArray T)) w.heap.size T cs := heap_alloc_new w _
theorem Blk.fr (h : Blk w b T cs) (e : Fr F w w') (hb : ¬ F b) : Blk w' b T cs := by have := h.lt; unfold Blk at *; rw [e.blk b this hb]; exact h
theorem Blk.ats (h : Blk w b T cs) : ∀ (l : List Value) (o i : Nat), (∀ j v, l[j]? = some v → cs[o + i + j]? = some v) → cellsAt w ⟨b, o, none⟩ i l := by
  intro l
  induction l with
  | nil => intro o i _; trivial
  | cons v l ih =>
    intro o i hl
    refine ⟨?_, ih o (i + 1) fun j u hu => ?_⟩
    · have : (⟨b, o, none⟩ : Addr).add i = ⟨b, o + i, none⟩ := by unfold Addr.add; split <;> simp_all
      rw [this]; exact h.cell (by simpa using hl 0 v rfl)
    · have := hl (j + 1) u (by simpa using hu); rw [show o + (i + 1) + j = o + i + (j + 1) from by omega]; exact this
theorem add_zero (a : Addr) : a.add 0 = a := rfl
theorem add_mk (b o n : Nat) : (⟨b, o, none⟩ : Addr).add n = ⟨b, o + n, none⟩ := by unfold Addr.add; split <;> simp_all
theorem Fr.refl (F : Nat → Prop) (w : World) : Fr F w w := ⟨rfl, rfl, rfl, Nat.le_refl _, fun _ _ _ => rfl⟩
theorem Fr.trans (h : Fr F w w1) (k : Fr G w1 w2) (hG : ∀ b, b < w.heap.size → G b → F b) : Fr F w w2 :=
  ⟨k.os.trans h.os, k.tape.trans h.tape, k.output.trans h.output, Nat.le_trans h.size k.size, fun b hb hf => (k.blk b (Nat.lt_of_lt_of_le hb h.size) (fun g => hf (hG b hb g))).trans (h.blk b hb hf)⟩
theorem Fr.trans' (h : Fr F w w1) (k : Fr F w1 w2) : Fr F w w2 := h.trans k fun _ _ h => h
theorem Fr.mono (h : Fr F w w1) (hG : ∀ b, b < w.heap.size → F b → G b) : Fr G w w1 := ⟨h.os, h.tape, h.output, h.size, fun b hb hg => h.blk b hb (fun f => hg (hG b hb f))⟩
theorem Fr.alloc (h : Fr F w w1) (o : Obj) : Fr F w (w1.alloc o) := h.trans' ⟨rfl, rfl, rfl, by simp, fun b hb _ => Below.heap_alloc w1 o b hb⟩
theorem Fr.drew (h : Fr F w w1) : Fr F w w1.drew := h.trans' ⟨rfl, rfl, rfl, Nat.le_refl _, fun _ _ _ => rfl⟩
theorem Fr.set (h : Fr F w w1) {a : Addr} (ha : a.block < w.heap.size → F a.block) (v : Value) : Fr F w (w1.setCell a v) :=
  ⟨h.os, h.tape, h.output, by simpa [World.setCell] using h.size, fun b hb hf => by rw [Below.heap_setCell _ _ _ _ (fun e => hf (by subst e; exact ha hb))]; exact h.blk b hb hf⟩
theorem Fr.ext (h : Fr Non w w1) : Ext w w1 := ⟨h.size, fun b hb => h.blk b hb (fun f => f)⟩
theorem Fr.below (h : Fr Non w w1) : Below w.heap.size w w1 := ⟨h.os, h.tape, h.output, h.size, fun b hb => h.blk b hb (fun f => f)⟩
end
theorem setCells_at {b : Nat} {T : TypeId} : ∀ (vs : List Value) (cs : List Value) (i : Nat) (w : World), Blk w b T cs → i + vs.length ≤ cs.length →
    Blk (setCells w ⟨b, 0, none⟩ i vs) b T (cs.take i ++ vs ++ cs.drop (i + vs.length)) ∧ (setCells w ⟨b, 0, none⟩ i vs).heap.size = w.heap.size ∧ (∀ c, c ≠ b → (setCells w ⟨b, 0, none⟩ i vs).heap[c]? = w.heap[c]?) ∧
      (setCells w ⟨b, 0, none⟩ i vs).os = w.os ∧ (setCells w ⟨b, 0, none⟩ i vs).tape = w.tape ∧ (setCells w ⟨b, 0, none⟩ i vs).output = w.output
  | [], cs, i, w, h, _ => by simpa [setCells] using h
  | v :: vs, cs, i, w, h, hl => by
    rw [setCells, add_mk, Nat.zero_add]
    simp only [List.length_cons] at hl
    have := setCells_at vs (cs.set i v) (i + 1) (w.setCell ⟨b, i, none⟩ v) (h.set i v) (by simp; omega)
    obtain ⟨h1, h2, h3, h4, h5, h6⟩ := this
    refine ⟨?_, by rw [h2]; simp, fun c hc => (h3 c hc).trans (Below.heap_setCell _ _ _ _ hc), h4, h5, h6⟩
    have e : (cs.set i v).take (i + 1) ++ vs ++ (cs.set i v).drop (i + 1 + vs.length) = cs.take i ++ v :: vs ++ cs.drop (i + (vs.length + 1)) := by
      have e1 : (cs.set i v).take (i + 1) = cs.take i ++ [v] := by
        rw [List.take_succ_eq_append_getElem (by simp; omega)]
        simp [List.take_set_of_le]
      rw [e1, List.drop_set_of_lt (by omega), show i + 1 + vs.length = i + (vs.length + 1) from by omega]
      simp
    rw [e] at h1; exact h1
theorem mayCells_of {w : World} {b : Nat} {T : TypeId} {cs : List Value} (h : Blk w b T cs) (i m : Nat) (hl : i + m ≤ cs.length) : mayCells w ⟨b, 0, none⟩ i m := by
  intro j h1 h2
  rw [add_mk, Nat.zero_add]
  exact ⟨h.isS (by omega), h.free j⟩
theorem Blk.setAll {w : World} {b : Nat} {T : TypeId} {cs vs : List Value} (h : Blk w b T cs) (hl : vs.length = cs.length) : Blk (setCells w ⟨b, 0, none⟩ 0 vs) b T vs := by
  have := (setCells_at vs cs 0 w h (by omega)).1
  rw [List.take_zero, List.nil_append, Nat.zero_add, List.drop_of_length_le (by omega), List.append_nil] at this; exact this
theorem Fr.setAll {F : Nat → Prop} {w w1 : World} {b : Nat} {T : TypeId} {cs vs : List Value} (hf : Fr F w w1) (h : Blk w1 b T cs) (hl : vs.length = cs.length) (hb : b < w.heap.size → F b) : Fr F w (setCells w1 ⟨b, 0, none⟩ 0 vs) := by
  obtain ⟨_, h2, h3, h4, h5, h6⟩ := setCells_at vs cs 0 w1 h (by omega)
  exact ⟨h4.trans hf.os, h5.trans hf.tape, h6.trans hf.output, by rw [h2]; exact hf.size, fun c hc hF => by
    rw [h3 c (fun e => hF (e ▸ hb (e ▸ hc)))]; exact hf.blk c hc hF⟩
structure SlAt (w : World) (T : TypeId) (sz : Nat) (s : Sl) (xs : List Value) (g : Nat) : Prop where
  len : xs.length = s.len * sz
  le : s.len ≤ s.cap
  has : ∃ off cs, s.base = some ⟨g, off, none⟩ ∧ Blk w g T cs ∧ off + s.cap * sz ≤ cs.length ∧ (cs.drop off).take (s.len * sz) = xs
def SlOk (w : World) (T : TypeId) (sz : Nat) (s : Sl) (xs : List Value) (F : Nat → Prop) : Prop :=
  (s.base = none ∧ s.len = 0 ∧ s.cap = 0 ∧ xs = []) ∨ ∃ g, F g ∧ SlAt w T sz s xs g
section
variable {w w' : World} {T : TypeId} {sz : Nat} {s : Sl} {xs : List Value} {F : Nat → Prop} {g : Nat}
theorem SlAt.cells (h : SlAt w T sz s xs g) {j : Nat} {v : Value} (hj : xs[j]? = some v) : ∃ off, s.base = some ⟨g, off, none⟩ ∧ w.cell? ⟨g, off + j, none⟩ = some v := by
  obtain ⟨off, cs, hb, hB, hl, ht⟩ := h.has
  refine ⟨off, hb, hB.cell ?_⟩
  rw [← ht, List.getElem?_take] at hj
  split at hj
  · rw [List.getElem?_drop] at hj; exact hj
  · cases hj
theorem SlAt.fr (h : SlAt w T sz s xs g) {G : Nat → Prop} (e : Fr G w w') (hg : ¬ G g) : SlAt w' T sz s xs g := by
  obtain ⟨off, cs, hb, hB, hl, ht⟩ := h.has
  exact ⟨h.len, h.le, off, cs, hb, hB.fr e hg, hl, ht⟩
theorem SlAt.lt (h : SlAt w T sz s xs g) : g < w.heap.size := by
  obtain ⟨off, cs, hb, hB, hl, ht⟩ := h.has; exact hB.lt
theorem SlOk.fr (h : SlOk w T sz s xs F) {G : Nat → Prop} (e : Fr G w w') (hg : ∀ g, F g → ¬ G g) : SlOk w' T sz s xs F := by
  rcases h with h | ⟨g, hF, h⟩
  · exact .inl h
  · exact .inr ⟨g, hF, h.fr e (hg g hF)⟩
theorem SlOk.mono (h : SlOk w T sz s xs F) {G : Nat → Prop} (hg : ∀ g, F g → G g) : SlOk w T sz s xs G := by
  rcases h with h | ⟨g, hF, h⟩
  · exact .inl h
  · exact .inr ⟨g, hg g hF, h⟩
theorem SlOk.len (h : SlOk w T sz s xs F) : xs.length = s.len * sz := by
  rcases h with ⟨_, h, _, rfl⟩ | ⟨g, hF, h⟩
  · rw [h]; simp
  · exact h.len
theorem SlOk.nil (w : World) (T : TypeId) (sz : Nat) (F : Nat → Prop) : SlOk w T sz ⟨none, 0, 0⟩ [] F := .inl ⟨rfl, rfl, rfl, rfl⟩
theorem SlOk.at (h : SlOk w T sz s xs F) {j : Nat} {v : Value} (hj : xs[j]? = some v) : ∃ a, s.base = some a ∧ w.cell? (a.add j) = some v := by
  rcases h with ⟨_, _, _, rfl⟩ | ⟨g, hF, h⟩
  · simp at hj
  · obtain ⟨off, hb, hc⟩ := h.cells hj
    exact ⟨_, hb, by rw [add_mk]; exact hc⟩
end
section
variable {P : Program} {w : World} {t e : TypeId} {i : TypeInfo} {z : Value}
theorem setCells_row {g : Nat} {T : TypeId} : ∀ (vs cs : List Value) (k : Nat) (off : Nat) (w : World), Blk w g T cs → off + k + vs.length ≤ cs.length → (∀ v ∈ vs, v.oneCell' = true) →
    (storeCells ⟨g, off, none⟩ vs k).run P w = .ok () (setCells w ⟨g, off, none⟩ k vs)
  | vs, cs, k, off, w, h, hl, h1 => run_storeCells' vs k w h1 (fun j h1 h2 => by
      rw [add_mk]; exact ⟨h.isS (by omega), h.free _⟩)
theorem setCells_off {b : Nat} {T : TypeId} : ∀ (vs : List Value) (cs : List Value) (o i : Nat) (w : World), Blk w b T cs → o + i + vs.length ≤ cs.length →
    Blk (setCells w ⟨b, o, none⟩ i vs) b T (cs.take (o + i) ++ vs ++ cs.drop (o + i + vs.length)) ∧ Fr (fun c => c = b) w (setCells w ⟨b, o, none⟩ i vs)
  | [], cs, o, i, w, h, _ => by simpa [setCells] using ⟨h, Fr.refl _ w⟩
  | v :: vs, cs, o, i, w, h, hl => by
    rw [setCells, add_mk]
    simp only [List.length_cons] at hl
    obtain ⟨h1, h2⟩ := setCells_off vs (cs.set (o + i) v) o (i + 1) (w.setCell ⟨b, o + i, none⟩ v) (h.set (o + i) v) (by simp; omega)
    refine ⟨?_, ((Fr.refl (fun c => c = b) w).set (a := ⟨b, o + i, none⟩) (fun _ => rfl) v).trans' h2⟩
    have e : (cs.set (o + i) v).take (o + (i + 1)) ++ vs ++ (cs.set (o + i) v).drop (o + (i + 1) + vs.length) = cs.take (o + i) ++ v :: vs ++ cs.drop (o + i + (vs.length + 1)) := by
      have e1 : (cs.set (o + i) v).take (o + (i + 1)) = cs.take (o + i) ++ [v] := by
        rw [show o + (i + 1) = (o + i) + 1 from by omega, List.take_succ_eq_append_getElem (by simp; omega)]
        simp [List.take_set_of_le]
      rw [e1, List.drop_set_of_lt (by omega), show o + (i + 1) + vs.length = o + i + (vs.length + 1) from by omega]
      simp
    rw [List.length_cons, ← e]; exact h1
theorem grown_blk {w : World} {e : TypeId} (xs : List Value) : Blk (w.drew.alloc (.cells xs.toArray e)) w.heap.size e xs := heap_alloc_new w.drew _
theorem toList_zeroCells_len (z : Array Value) (n : Nat) : (Builtin.zeroCells z n).toList.length = n * z.size := by
  have := size_zeroCells z n; simpa using this
theorem run_append {s : Sl} {xs news : List Value} {F : Nat → Prop} {a : Option Addr} {m c : Nat} (ht : P.underlying t = some (.slice e)) (hi : P.info? e = some i) (hz : i.zero = some z) (hzs : z.cells.size = i.size) (hsz : 0 < i.size)
    (hs : SlOk w e i.size s xs F) (hl : news.length = m * i.size) (hnews : (a = none ∧ m = 0) ∨ ∃ ad, a = some ad ∧ ∀ j u, news[j]? = some u → w.cell? (ad.add j) = some u) (h1 : ∀ u ∈ news, u.oneCell' = true)
    (hbytes : (s.len + m) * i.bytes ≤ 140737488355328) (hmax : s.len + m ≤ 4611686018427387904) (ty : TypeId) :
    ∃ s' w', (Builtin.append_ #[t, t] ty #[.slice s.base s.len s.cap, .slice a m c]).run P w = .ok (.slice (Sl.base s') s'.len s'.cap) w' ∧
      SlOk w' e i.size s' (xs ++ news) (fun g => F g ∨ g = w.heap.size) ∧ s'.len = s.len + m ∧ Fr F w w' := by
  have hf0 : a = none ∧ m = 0 → ∀ u, (Builtin.firstCells i.size m (.slice a m c)).run P u = .ok #[] u := by
    rintro ⟨rfl, rfl⟩ u; simp [Builtin.firstCells]
  have hnil : m = 0 → news = [] := fun h => List.eq_nil_of_length_eq_zero (by rw [hl, h, Nat.zero_mul])
  have hfirst : (Builtin.firstCells i.size m (.slice a m c)).run P w = .ok news.toArray w := by
    rcases hnews with ⟨ha, hm⟩ | ⟨ad, ha, hn⟩
    · rw [hf0 ⟨ha, hm⟩, hnil hm]
    · subst ha; exact run_firstCells_some (P := P) w i.size m ad m c news hl hn
  have made : ∀ (old : List Value) (cap' : Nat), old.length = s.len * i.size → s.len + m ≤ cap' → SlOk (w.drew.alloc (.cells (old.toArray ++ news.toArray ++ Builtin.zeroCells z.cells (cap' - (s.len + m))) e)) e i.size ⟨some ⟨w.heap.size, 0, none⟩, s.len + m, cap'⟩ (old ++ news) (fun g => F g ∨ g = w.heap.size) := by
    intro old cap' ho hc
    refine .inr ⟨w.heap.size, .inr rfl, by simp [ho, hl, Nat.add_mul], hc, 0, old ++ news ++ (Builtin.zeroCells z.cells (cap' - (s.len + m))).toList, rfl, ?_, ?_, ?_⟩
    · have := grown_blk (w := w) (e := e) (old ++ news ++ (Builtin.zeroCells z.cells (cap' - (s.len + m))).toList)
      have e1 : (old ++ news ++ (Builtin.zeroCells z.cells (cap' - (s.len + m))).toList).toArray = old.toArray ++ news.toArray ++ Builtin.zeroCells z.cells (cap' - (s.len + m)) := by
        apply Array.ext'; simp
      rw [e1] at this; exact this
    · simp only [Nat.zero_add, List.length_append, ho, hl, toList_zeroCells_len, hzs]
      rw [← Nat.add_mul, ← Nat.add_mul]
      exact Nat.mul_le_mul_right _ (by omega)
    · rw [List.drop_zero, List.append_assoc, ← List.append_assoc]
      rw [show (s.len + m) * i.size = (old ++ news).length from by simp [ho, hl, Nat.add_mul]]
      exact List.take_left
  rcases hs with ⟨hb, h0, hc0, rfl⟩ | ⟨g, hF, hA⟩
  · obtain ⟨base, len, cap⟩ := s
    simp only at hb h0 hc0
    subst hb h0 hc0
    by_cases hm : m = 0
    · refine ⟨⟨none, 0, 0⟩, w, ?_, ?_, by simp [hm], Fr.refl _ _⟩
      · have hr : (Builtin.firstCells i.size m (.slice a m c)).run P w = .ok #[] w := by rw [hfirst, hnil hm]
        subst hm
        simp [Builtin.append_, run_underlying ht, sizeOf, typeInfo, hi, Builtin.lenOf, hr]
      · rw [hnil hm]; exact .inl ⟨rfl, rfl, rfl, rfl⟩
    · rcases hnews with ⟨ha, hm'⟩ | ⟨ad, ha, hn⟩
      · exact absurd hm' hm
      · subst ha
        have hr := run_append_nil (P := P) w t ty e i z ht hi hz ad m c news hl hn (by omega) (by simp only [Nat.zero_add] at hmax; omega) (by simp only [Nat.zero_add] at hbytes; omega)
        have hm2 := made [] (grownCap w m 0 e) (by simp) (by simpa using grownCap_ge w m 0 e)
        refine ⟨⟨some ⟨w.heap.size, 0, none⟩, m, grownCap w m 0 e⟩, _, hr, ?_, by simp, ((Fr.refl F w).drew).alloc _⟩
        simpa using hm2
  · obtain ⟨off, cs, hb, hB, hle, htk⟩ := hA.has
    by_cases hroom : s.len + m ≤ s.cap
    · have hlen : off + s.len * i.size + news.length ≤ cs.length := by
        rw [hl, Nat.add_assoc, ← Nat.add_mul]
        exact Nat.le_trans (Nat.add_le_add_left (Nat.mul_le_mul_right _ hroom) _) hle
      have hst := setCells_row (P := P) news cs 0 (off + s.len * i.size) w hB (by omega) h1
      obtain ⟨hB2, hfr⟩ := setCells_off news cs (off + s.len * i.size) 0 w hB (by omega)
      refine ⟨⟨s.base, s.len + m, s.cap⟩, _, ?_, .inr ⟨g, .inl hF, ?_, hroom, off, _, hb, hB2, ?_, ?_⟩, rfl, hfr.mono (fun b _ e => e ▸ hF)⟩
      · simp only [Builtin.append_, List.getElem?_toArray, List.getElem?_cons_zero, List.getElem?_cons_succ, Sem.run_bind, run_underlying ht, Result.andThen_ok, sizeOf, typeInfo, hi, run_program, Sem.run_pure, Builtin.lenOf]
        simp [hroom, hfirst, hb, add_mk, hst]
      · rw [List.length_append, hA.len, hl, Nat.add_mul]
      · simp only [List.length_append, List.length_take, List.length_drop]; omega
      · have e1 : (cs.take (off + s.len * i.size)).drop off = xs := by
          rw [List.drop_take, Nat.add_sub_cancel_left]; exact htk
        rw [Nat.add_zero, List.append_assoc, List.drop_append_of_le_length (by simp; omega), e1]
        rw [← List.append_assoc, show (s.len + m) * i.size = (xs ++ news).length from by rw [List.length_append, hA.len, hl, Nat.add_mul]]
        exact List.take_left
    · have hmpos : 0 < m := by have := hA.le; omega
      rcases hnews with ⟨ha, hm'⟩ | ⟨ad, ha, hn⟩
      · omega
      · subst ha
        have holds : ∀ j v, xs[j]? = some v → w.cell? ((⟨g, off, none⟩ : Addr).add j) = some v := by
          intro j v hv
          obtain ⟨off', hb', hc⟩ := hA.cells hv
          rw [hb] at hb'; cases hb'
          rw [add_mk]; exact hc
        have hr := run_append_grow (P := P) w t ty e i z ht hi hz ⟨g, off, none⟩ s.len s.cap xs hA.len holds ad m c news hl hn (by omega) (by omega) (growslice_fits (by omega) hbytes)
        rw [hb]
        exact ⟨⟨some ⟨w.heap.size, 0, none⟩, s.len + m, grownCap w (s.len + m) s.cap e⟩, _, hr, made xs _ hA.len (grownCap_ge w _ _ e), rfl, ((Fr.refl F w).drew).alloc _⟩
def Bts (P : Program) (t : TypeId) (b : Nat) : Prop := (P.info? t).map (·.bytes) = some b
theorem Bts.mk {t : TypeId} {b : Nat} (h : (P.info? t).map (·.bytes) = some b) : Bts P t b := h
theorem append_own {s : Sl} {xs news : List Value} {F : Nat → Prop} {a : Option Addr} {m c sz by_ : Nat} (ht : P.underlying t = some (.slice e)) (hs : Sz P e sz) (hz : Zr P e z) (hb : Bts P e by_) (hzs : z.cells.size = sz) (hsz : 0 < sz)
    (ho : SlOk w e sz s xs F) (hl : news.length = m * sz) (hnews : (a = none ∧ m = 0) ∨ ∃ ad, a = some ad ∧ ∀ j u, news[j]? = some u → w.cell? (ad.add j) = some u) (h1 : ∀ u ∈ news, u.oneCell' = true)
    (hbytes : (s.len + m) * by_ ≤ 140737488355328) (hmax : s.len + m ≤ 4611686018427387904) (ty : TypeId) :
    ∃ s' w', (Builtin.append_ #[t, t] ty #[.slice s.base s.len s.cap, .slice a m c]).run P w = .ok (.slice (Sl.base s') s'.len s'.cap) w' ∧
      SlOk w' e sz s' (xs ++ news) (fun g => F g ∨ g = w.heap.size) ∧ s'.len = s.len + m ∧ Fr F w w' := by
  unfold Sz at hs; unfold Zr at hz; unfold Bts at hb
  obtain ⟨i, hi, rfl⟩ := Option.map_eq_some_iff.1 hs
  obtain ⟨i2, hi2, hz2⟩ := Option.bind_eq_some_iff.1 hz
  obtain ⟨i3, hi3, hb3⟩ := Option.map_eq_some_iff.1 hb
  rw [hi] at hi2 hi3
  cases hi2; cases hi3; subst hb3
  exact run_append (P := P) ht hi hz2 hzs hsz ho hl hnews h1 hbytes hmax ty
def bys (l : Str) : List Value := l.map fun b => .int .u8 (b.toNat : Int)
theorem SlOk.bytes {w : World} {T : TypeId} {s : Sl} {l : Str} {F : Nat → Prop} (h : SlOk w T 1 s (bys l) F) : bytesAt w s l := by
  have hlen := h.len
  simp only [bys, List.length_map, Nat.mul_one] at hlen
  rcases h with ⟨hb, _, _, hx⟩ | ⟨g, hF, h⟩
  · exact .inl ⟨hb, by simpa [bys] using hx⟩
  · obtain ⟨off, cs, hb, hB, hle, ht⟩ := h.has
    refine .inr ⟨_, hb, hlen, fun i hi => ?_⟩
    have hg : (bys l)[i]? = some (.int .u8 ((l.getD i 0).toNat : Int)) := by
      simp [bys, List.getElem?_eq_getElem (show i < l.length by omega)]
    obtain ⟨off', hb', hc⟩ := h.cells hg
    rw [hb] at hb'; cases hb'
    rw [add_mk]; exact hc
theorem Blk.bytes {w : World} {b : Nat} {T : TypeId} {l : Str} (h : Blk w b T (bys l)) {m c : Nat} (hm : m = l.length) : bytesAt w ⟨some ⟨b, 0, none⟩, m, c⟩ l := by
  refine .inr ⟨_, rfl, hm.symm, fun i hi => ?_⟩
  simp only at hi
  rw [add_mk, Nat.zero_add]
  refine h.cell ?_
  simp [bys, List.getElem?_eq_getElem (show i < l.length by omega)]
theorem w64_id {x : Int} (h0 : -9223372036854775808 ≤ x) (h1 : x ≤ 9223372036854775807) : IntKind.i64.wrap x = x := by rw [IntKind.wrap_i64]; omega
end
end Go.V
set_option linter.unusedSimpArgs false
set_option linter.unusedVariables false
set_option linter.unusedSectionVars false
namespace Go.V
open Go.RowKit
structure Keys (P : Program) (kt : TypeId) {K : Type} [DecidableEq K] (ek : K → Value) : Prop where
  chk : ∀ e k u, (Instr.checkKey e 10000 kt (ek k)).run P u = .ok () u
  eq : ∀ k k' u, (Op.equal kt (ek k) (ek k')).run P u = .ok (decide (k = k')) u
  desc : ∃ d, P.underlying kt = some d ∧ ((∀ k k', Instr.sameNow d (ek k) (ek k') = some (decide (k = k'))) ∨ (∀ k k', Instr.sameNow d (ek k) (ek k') = none))
  bits : ∀ k, Instr.sameBits 10000 (ek k) (ek k) = true
def lk {K V : Type} [DecidableEq K] : List (K × V) → K → Option V
  | [], _ => none
  | (k', v) :: l, k => if k = k' then some v else lk l k
def ins {K V : Type} [DecidableEq K] : List (K × V) → K → V → List (K × V)
  | [], k, v => [(k, v)]
  | (k', v') :: l, k, v => if k = k' then (k', v) :: l else (k', v') :: ins l k v
theorem lk_ins {K V : Type} [DecidableEq K] (l : List (K × V)) (k : K) (v : V) (k' : K) : lk (ins l k v) k' = if k' = k then some v else lk l k' := by
  induction l with
  | nil => simp [ins, lk]
  | cons p l ih =>
    obtain ⟨a, b⟩ := p
    unfold ins
    by_cases h : k = a
    · subst h; simp only [if_true, lk]; split <;> simp_all
    · simp only [if_neg h, lk, ih]
      by_cases h2 : k' = a
      · subst h2; rw [if_pos rfl, if_pos rfl, if_neg (Ne.symm h)]
      · rw [if_neg h2, if_neg h2]
def MapAt (w : World) (r : Nat) {K V : Type} (ek : K → Value) (evv : V → Value) (l : List (K × V)) : Prop :=
  ∃ es clock, w.heap[r]? = some (.map es clock) ∧ es.toList.map (fun e => (e.key, e.val)) = l.map (fun p => (ek p.1, evv p.2)) ∧ (es.toList.map (·.born)).Nodup ∧ (∀ e ∈ es.toList, e.born < clock)
section
variable {P : Program} {kt vt mt : TypeId} {K V : Type} [DecidableEq K] {ek : K → Value} {evv : V → Value} {w w' : World} {r : Nat} {l : List (K × V)}
theorem MapAt.new (w : World) (ek : K → Value) (evv : V → Value) : MapAt (w.alloc (.map #[] 0)) w.heap.size ek evv [] := ⟨#[], 0, heap_alloc_new w _, rfl, by simp, by simp⟩
theorem MapAt.ext (h : MapAt w r ek evv l) (e : Ext w w') : MapAt w' r ek evv l := by
  obtain ⟨es, c, h1, h2⟩ := h; exact ⟨es, c, (e.2 r (Array.getElem?_eq_some_iff.1 h1).1).trans h1, h2⟩
theorem MapAt.lt (h : MapAt w r ek evv l) : r < w.heap.size := by
  obtain ⟨es, c, h1, h2⟩ := h; exact (Array.getElem?_eq_some_iff.1 h1).1
def pos {K V : Type} [DecidableEq K] : List (K × V) → K → Nat → Option (Nat × V)
  | [], _, _ => none
  | (k', v) :: l, k, i => if k = k' then some (i, v) else pos l k (i + 1)
theorem pos_lk (l : List (K × V)) (k : K) (i : Nat) : (pos l k i).map (·.2) = lk l k := by
  induction l generalizing i with
  | nil => rfl
  | cons p l ih => obtain ⟨a, b⟩ := p; unfold pos lk; split <;> simp_all
theorem run_findKey (hk : Keys P kt ek) (k : K) {es : List MapEntry} (he : es.map (fun e => (e.key, e.val)) = l.map (fun p => (ek p.1, evv p.2))) (u : World) :
    (Instr.findKey kt (ek k) es).run P u = .ok ((pos l k 0).map fun p => (p.1, evv p.2)) u := by
  obtain ⟨d, hd, hn⟩ := hk.desc
  have ask : ∀ (es : List MapEntry) (l : List (K × V)) (i : Nat), es.map (fun e => (e.key, e.val)) = l.map (fun p => (ek p.1, evv p.2)) →
      (Instr.findAsking kt (ek k) es i).run P u = .ok ((pos l k i).map fun p => (p.1, evv p.2)) u := by
    intro es
    induction es with
    | nil => intro l i h; cases l <;> simp at h; rfl
    | cons e es ih =>
      intro l i h
      cases l with
      | nil => simp at h
      | cons p l =>
        simp only [List.map_cons, List.cons.injEq, Prod.mk.injEq] at h
        obtain ⟨⟨h1, h2⟩, h3⟩ := h
        unfold Instr.findAsking pos
        simp only [h1, Sem.run_bind, hk.eq, Result.andThen_ok]
        by_cases hkk : k = p.1
        · simp [hkk, h2]
        · simp only [hkk, decide_false, Bool.false_eq_true, if_false]; exact ih l (i + 1) h3
  unfold Instr.findKey
  simp only [Sem.run_bind, run_underlying hd, Result.andThen_ok]
  rcases hn with hn | hn
  · have now : ∀ (es : List MapEntry) (l : List (K × V)) (i : Nat), es.map (fun e => (e.key, e.val)) = l.map (fun p => (ek p.1, evv p.2)) →
        Instr.findNow d (ek k) es i = some ((pos l k i).map fun p => (p.1, evv p.2)) := by
      intro es
      induction es with
      | nil => intro l i h; cases l <;> simp at h; rfl
      | cons e es ih =>
        intro l i h
        cases l with
        | nil => simp at h
        | cons p l =>
          simp only [List.map_cons, List.cons.injEq, Prod.mk.injEq] at h
          obtain ⟨⟨h1, h2⟩, h3⟩ := h
          unfold Instr.findNow pos
          simp only [h1, hn]
          by_cases hkk : k = p.1
          · simp [hkk, h2]
          · simp only [hkk, decide_false, if_false]; exact ih l (i + 1) h3
    rw [now es l 0 he]; rfl
  · cases es with
    | nil => cases l <;> simp at he; rfl
    | cons e es =>
      cases l with
      | nil => simp at he
      | cons p l =>
        have h1 : e.key = ek p.1 := by simp only [List.map_cons, List.cons.injEq, Prod.mk.injEq] at he; exact he.1.1
        have : Instr.findNow d (ek k) (e :: es) 0 = none := by unfold Instr.findNow; rw [h1, hn]
        rw [this]; exact ask _ _ 0 he
theorem run_lookupOk {z : Value} (hk : Keys P kt ek) (hm : P.underlying mt = some (.map kt vt)) (hz : Zr P vt z) (h : MapAt w r ek evv l) (k : K) :
    Rd P w (Instr.lookup mt (.map (some r)) (ek k) true) (.tuple #[((lk l k).map evv).getD z, .bool (lk l k).isSome]) := by
  intro u hu
  obtain ⟨es, c, h1, h2, _⟩ := h.ext hu
  unfold Instr.lookup
  simp only [Sem.run_bind, run_underlying hm, Result.andThen_ok]
  have hg : (getObj r).run P u = .ok (.map es c) u := by simp only [getObj, Sem.run, h1]
  simp only [hg, Result.andThen_ok, Sem.run_bind, Sem.run_pure, hk.chk, run_findKey hk k h2]
  rw [← pos_lk l k 0]
  cases pos l k 0 with
  | none => simp [run_zeroValue hz]
  | some p => simp
theorem map_setIf {w : World} {r : Nat} {o : Obj} (hr : r < w.heap.size) : ({ w with heap := w.heap.setIfInBounds r o } : World).heap[r]? = some o := by
  simp [hr]
theorem fr_setIf {w : World} {r : Nat} {o : Obj} {F : Nat → Prop} (hF : F r) : Fr F w { w with heap := w.heap.setIfInBounds r o } :=
  ⟨rfl, rfl, rfl, by simp, fun b hb hf => by
    have : r ≠ b := fun e => hf (e ▸ hF)
    simp [Array.getElem?_setIfInBounds_ne this]⟩
theorem pos_ins_some {l : List (K × V)} {k : K} {j : Nat} {x : V} {i : Nat} (h : pos l k i = some (j, x)) (v : V) : i ≤ j ∧ (∃ hj : j - i < l.length, l[j - i].1 = k) ∧ ins l k v = l.modify (j - i) (fun p => (p.1, v)) := by
  induction l generalizing i with
  | nil => cases h
  | cons p l ih =>
    obtain ⟨a, b⟩ := p
    unfold pos at h
    unfold ins
    by_cases hk : k = a
    · rw [if_pos hk] at h ⊢; cases h; subst hk; simp
    · rw [if_neg hk] at h ⊢
      obtain ⟨h1, ⟨h2, h3⟩, h4⟩ := ih h
      refine ⟨by omega, ?_, ?_⟩
      · have e : j - i = (j - (i + 1)) + 1 := by omega
        refine ⟨by simp; omega, ?_⟩
        simp only [e, List.getElem_cons_succ]; exact h3
      · rw [h4, show j - i = (j - (i + 1)) + 1 from by omega]; simp
theorem pos_none_ins {l : List (K × V)} {k : K} {i : Nat} (h : pos l k i = none) (v : V) : ins l k v = l ++ [(k, v)] := by
  induction l generalizing i with
  | nil => rfl
  | cons p l ih =>
    obtain ⟨a, b⟩ := p
    unfold pos at h
    unfold ins
    by_cases hk : k = a
    · rw [if_pos hk] at h; cases h
    · rw [if_neg hk] at h ⊢; rw [ih h]; rfl
theorem run_mapUpdate (hk : Keys P kt ek) (hm : P.underlying mt = some (.map kt vt)) (h : MapAt w r ek evv l) (k : K) (v : V) :
    ∃ w1, (Instr.mapUpdate mt (.map (some r)) (ek k) (evv v)).run P w = .ok () w1 ∧ MapAt w1 r ek evv (ins l k v) ∧ Fr (fun b => b = r) w w1 := by
  have hlt := h.lt
  obtain ⟨es, c, h1, h2, h3, h4⟩ := h
  have hg : (getObj r).run P w = .ok (.map es c) w := by simp only [getObj, Sem.run, h1]
  have hset : ∀ o, (setObj r o).run P w = .ok () { w with heap := w.heap.setIfInBounds r o } := by intro o; simp only [setObj, Sem.run, h1]
  cases hp : pos l k 0 with
  | none =>
    refine ⟨{ w with heap := w.heap.setIfInBounds r (.map (es.push { key := ek k, val := evv v, born := c }) (c + 1)) }, ?_, ⟨_, _, map_setIf hlt, ?_, ?_, ?_⟩, fr_setIf rfl⟩
    · unfold Instr.mapUpdate
      simp only [Sem.run_bind, run_underlying hm, Result.andThen_ok, hg, hk.chk, run_findKey hk k h2, hp, Option.map_none, hset]
    · rw [pos_none_ins hp]; simp [h2]
    · simp only [Array.toList_push, List.map_append, List.map_cons, List.map_nil]
      rw [List.nodup_append]
      refine ⟨h3, by simp, fun a ha b hb => ?_⟩
      simp only [List.mem_singleton] at hb
      obtain ⟨e, he, rfl⟩ := List.mem_map.1 ha
      have := h4 e he; omega
    · intro e he
      simp only [Array.toList_push, List.mem_append, List.mem_singleton] at he
      rcases he with he | rfl
      · have := h4 e he; omega
      · simp
  | some p =>
    obtain ⟨j, x⟩ := p
    obtain ⟨_, ⟨hj, hjk⟩, hins⟩ := pos_ins_some hp v
    simp only [Nat.sub_zero] at hj hjk hins
    have hsz : es.size = l.length := by have := congrArg List.length h2; simpa using this
    have hje : j < es.size := by omega
    have hkey : es[j].key = ek k := by
      have := congrArg (fun q => q[j]?) h2
      simp only [List.getElem?_map, Array.getElem?_toList, Array.getElem?_eq_getElem hje, Option.map_some, List.getElem?_eq_getElem hj, Option.some.injEq, Prod.mk.injEq] at this
      rw [this.1, hjk]
    have hstay : (Instr.keyThatStays (((es[j]?).map (·.key)).getD (ek k)) (ek k)).run P w = .ok (ek k) w := by
      rw [Array.getElem?_eq_getElem hje]; simp only [Option.map_some, Option.getD_some, hkey]
      simp [Instr.keyThatStays, hk.bits]
    refine ⟨{ w with heap := w.heap.setIfInBounds r (.map (es.modify j fun e => { e with key := ek k, val := evv v }) c) }, ?_, ⟨_, _, map_setIf hlt, ?_, ?_, ?_⟩, fr_setIf rfl⟩
    · unfold Instr.mapUpdate
      simp only [Sem.run_bind, run_underlying hm, Result.andThen_ok, hg, hk.chk, run_findKey hk k h2, hp, Option.map_some, hstay, hset]
    · rw [hins]
      apply List.ext_getElem?
      intro m
      simp only [Array.toList_modify, List.getElem?_map, List.getElem?_modify]
      have h2m := congrArg (fun q => q[m]?) h2
      simp only [List.getElem?_map] at h2m
      by_cases hmj : j = m
      · subst hmj
        have he : es.toList[j]? = some es[j] := by simp [hje]
        have hl' : l[j]? = some l[j] := List.getElem?_eq_getElem hj
        simp only [he, hl', if_true, Option.map_eq_map, Option.map_some, hjk]
      · simp only [if_neg hmj]; simpa using h2m
    · have : (es.modify j fun e => { e with key := ek k, val := evv v }).toList.map (·.born) = es.toList.map (·.born) := by
        apply List.ext_getElem?
        intro m
        simp only [Array.toList_modify, List.getElem?_map, List.getElem?_modify]
        by_cases hmj : j = m
        · subst hmj; cases es.toList[j]? <;> simp
        · simp only [if_neg hmj]; cases es.toList[m]? <;> rfl
      rw [this]; exact h3
    · intro e he
      simp only [Array.toList_modify] at he
      obtain ⟨m, hm⟩ := List.mem_iff_getElem?.1 he
      rw [List.getElem?_modify] at hm
      cases hem : es.toList[m]? with
      | none => rw [hem] at hm; simp at hm
      | some e' =>
        rw [hem] at hm
        have := h4 e' (List.mem_iff_getElem?.2 ⟨m, hem⟩)
        by_cases hmj : j = m
        · simp [hmj] at hm; rw [← hm]; exact this
        · simp [hmj] at hm; rw [← hm]; exact this
end
def chkV (P : Program) : Nat → TypeId → Value → Bool
  | 0, _, _ => false
  | d + 1, t, v => match P.underlying t, v with
    | some (.struct fs), .agg cs => fs.toList.all fun f => match partV P f.type cs f.offset with | some x => chkV P d f.type x | none => false
    | some (.int _), .int _ _ | some .string, .string _ | some .bool, .bool _ => true
    | _, _ => false
theorem run_chkV {P : Program} : ∀ (d : Nat) (t : TypeId) (v : Value), chkV P d t v = true → ∀ e m u, (Instr.checkKey e (d + m) t v).run P u = .ok () u
  | 0, _, _, h, _, _, _ => by cases h
  | d + 1, t, v, h, e, m, u => by
    rw [Nat.add_right_comm]
    unfold chkV at h
    split at h
    · rename_i fs cs hd
      unfold Instr.checkKey
      simp only [Sem.run_bind, run_underlying hd, Result.andThen_ok]
      rw [← Array.forIn_toList]
      have key : ∀ (l : List Field), (∀ f ∈ l, (match partV P f.type cs f.offset with | some x => chkV P d f.type x | none => false) = true) → ∀ (g : Field → PUnit → Sem (ForInStep PUnit)),
          (∀ f s, g f s = (if f.name ≠ "_" then do
              let x ← part f.type cs f.offset
              Instr.checkKey e (d + m) f.type x
              pure (ForInStep.yield PUnit.unit)
            else pure (ForInStep.yield PUnit.unit) : Sem (ForInStep PUnit))) → ∀ u, (forIn l PUnit.unit g).run P u = .ok PUnit.unit u := by
        intro l
        induction l with
        | nil => intro _ g hg u; rfl
        | cons f l ih =>
          intro hl g hg u
          have hf := hl f (List.mem_cons_self ..)
          split at hf
          case h_2 => cases hf
          case h_1 x hx =>
          simp only [List.forIn_cons, Sem.run_bind, hg]
          split
          · simp only [Sem.run_bind, run_partV hx, Result.andThen_ok, run_chkV d _ _ hf e m, Sem.run_pure]
            exact ih (fun f hf => hl f (List.mem_cons_of_mem _ hf)) g hg u
          · simp only [Sem.run_pure, Result.andThen_ok]
            exact ih (fun f hf => hl f (List.mem_cons_of_mem _ hf)) g hg u
      rw [key fs.toList (fun f hf => List.all_eq_true.1 h f hf) _ (fun f s => rfl) u]
      rfl
    · rename_i hd; simp [Instr.checkKey, run_underlying hd]
    · rename_i hd; simp [Instr.checkKey, run_underlying hd]
    · rename_i hd; simp [Instr.checkKey, run_underlying hd]
    · cases h
theorem bits_int (n : Nat) (k : IntKind) (a : Int) : Instr.sameBits n (.int k a) (.int k a) = true := by cases n <;> simp [Instr.sameBits]
theorem bits_str (n : Nat) (a : ByteArray) : Instr.sameBits n (.string a) (.string a) = true := by cases n <;> simp [Instr.sameBits, beq_bytes]
theorem bits_agg (l : List Value) (h : ∀ v ∈ l, ∀ n, Instr.sameBits n v v = true) : Instr.sameBits 10000 (.agg l.toArray) (.agg l.toArray) = true := by
  have : ∀ n, Instr.sameBits (n + 1) (.agg l.toArray) (.agg l.toArray) = true := by
    intro n
    unfold Instr.sameBits
    simp only [beq_self_eq_true, Bool.true_and, List.all_eq_true]
    intro p hp
    obtain ⟨x, y⟩ := p
    have h1 := List.of_mem_zip hp
    have : x = y := by
      obtain ⟨m, hm⟩ := List.mem_iff_getElem?.1 hp
      rw [List.getElem?_zip_eq_some] at hm
      have := hm.1.symm.trans hm.2; simpa using this
    subst this
    exact h x (by simpa using h1.1) n
  exact this 9999
theorem keys_of {P : Program} {kt : TypeId} {K : Type} [DecidableEq K] {ek : K → Value} {fs : Array Field} (hd : P.underlying kt = some (.struct fs)) (hc : ∀ k, chkV P 4 kt (ek k) = true) (ha : ∀ k, ∃ cs, ek k = .agg cs)
    (he : ∀ k k', eqV P 4 kt (ek k) (ek k') = some (decide (k = k'))) (hb : ∀ k, Instr.sameBits 10000 (ek k) (ek k) = true) : Keys P kt ek where
  chk e k u := run_chkV 4 kt (ek k) (hc k) e 9996 u
  eq k k' u := run_equal (he k k') (by decide) u
  desc := ⟨_, hd, .inr fun k k' => by obtain ⟨cs, h1⟩ := ha k; obtain ⟨cs', h2⟩ := ha k'; rw [h1, h2]; rfl⟩
  bits := hb
end Go.V
set_option linter.unusedSimpArgs false
set_option linter.unusedVariables false
namespace Go.V
open Go.RowKit
theorem cell_lt {w : World} {a : Addr} {v : Value} (h : w.cell? a = some v) : a.block < w.heap.size := by
  unfold World.cell? at h
  cases hb : w.heap[a.block]? with
  | none => rw [hb] at h; cases h
  | some o => exact (Array.getElem?_eq_some_iff.1 hb).1
theorem Fr.cell {F : Nat → Prop} {w w1 : World} (h : Fr F w w1) {a : Addr} {v : Value} (hc : w.cell? a = some v) (hF : ¬ F a.block) : w1.cell? a = some v := by
  have := h.blk a.block (cell_lt hc) hF
  unfold World.cell? at *
  rw [this]; exact hc
def RdL {α : Type} (sz : Nat) (E : World → Addr → α → Prop) (w : World) (s : Sl) (l : List α) : Prop :=
  s.len = l.length ∧ ∀ i (h : i < l.length), ∃ a, s.base = some a ∧ E w (a.add (i * sz)) l[i]
def RdStr (w : World) (a : Addr) (s : Str) : Prop := w.cell? a = some (.string (mkS s))
def RdSl {α : Type} (sz : Nat) (E : World → Addr → α → Prop) (w : World) (a : Addr) (l : List α) : Prop :=
  ∃ x : Sl, w.cell? a = some (.slice x.base x.len x.cap) ∧ RdL sz E w x l
def Stay {α : Type} (E : World → Addr → α → Prop) : Prop := ∀ (w w' : World) (a : Addr) (x : α), Fr Non w w' → E w a x → E w' a x
theorem RdStr.stay : Stay RdStr := fun _ _ _ _ f h => f.cell h (fun h => h)
theorem RdL.fr {α : Type} {sz : Nat} {E : World → Addr → α → Prop} (hE : Stay E) {w w' : World} {s : Sl} {l : List α} (h : RdL sz E w s l) (f : Fr Non w w') : RdL sz E w' s l :=
  ⟨h.1, fun i hi => by obtain ⟨a, h1, h2⟩ := h.2 i hi; exact ⟨a, h1, hE _ _ _ _ f h2⟩⟩
theorem RdSl.stay {α : Type} {sz : Nat} {E : World → Addr → α → Prop} (hE : Stay E) : Stay (RdSl sz E) := fun _ _ _ _ f h => by
  obtain ⟨x, h1, h2⟩ := h
  exact ⟨x, f.cell h1 (fun h => h), h2.fr hE f⟩
theorem RdL.at {α : Type} {sz : Nat} {E : World → Addr → α → Prop} {w : World} {s : Sl} {l : List α} (h : RdL sz E w s l) {i : Nat} (hi : i < l.length) : ∃ a, s.base = some a ∧ E w (a.add (i * sz)) l[i] := h.2 i hi
theorem RdL.nil {α : Type} {sz : Nat} {E : World → Addr → α → Prop} {w : World} {b : Option Addr} {c : Nat} : RdL sz E w ⟨b, 0, c⟩ ([] : List α) := ⟨rfl, fun i h => by simp at h⟩
abbrev Cmp := List Str
abbrev Rept := List Cmp
abbrev Fldt := List Rept
structure Seg where
  name : Str
  flds : List Fldt
def RC : World → Addr → Cmp → Prop := RdSl 1 RdStr
def RR : World → Addr → Rept → Prop := RdSl 1 RC
def RF : World → Addr → Fldt → Prop := RdSl 1 RR
def RSeg (w : World) (a : Addr) (g : Seg) : Prop := w.cell? a = some (.string (mkS g.name)) ∧ ∃ x : Sl, w.cell? (a.add 1) = some (.slice x.base x.len x.cap) ∧ RdL 1 RF w x g.flds
def RM : World → Sl → List Seg → Prop := RdL 2 RSeg
theorem RC.stay : Stay RC := RdSl.stay RdStr.stay
theorem RR.stay : Stay RR := RdSl.stay RC.stay
theorem RF.stay : Stay RF := RdSl.stay RR.stay
theorem block_add (a : Addr) (i : Nat) : (a.add i).block = a.block := by unfold Addr.add; split <;> rfl
theorem RSeg.stay : Stay RSeg := fun _ _ _ _ f h => by
  obtain ⟨h1, x, h2, h3⟩ := h
  exact ⟨f.cell h1 (fun h => h), x, f.cell h2 (fun h => h), h3.fr RF.stay f⟩
theorem RM.fr {w w' : World} {s : Sl} {l : List Seg} (h : RM w s l) (f : Fr Non w w') : RM w' s l := RdL.fr RSeg.stay h f
def BB : Nat := 1099511627776
def SmC (c : Cmp) : Prop := c.length ≤ BB ∧ ∀ u ∈ c, u.length ≤ BB
def SmR (r : Rept) : Prop := r.length ≤ BB ∧ ∀ c ∈ r, SmC c
def SmF (f : Fldt) : Prop := f.length ≤ BB ∧ ∀ r ∈ f, SmR r
def SmG (g : Seg) : Prop := g.name.length ≤ BB ∧ g.flds.length ≤ BB ∧ ∀ f ∈ g.flds, SmF f
def SmM (l : List Seg) : Prop := l.length ≤ BB ∧ ∀ g ∈ l, SmG g
end Go.V
set_option linter.unusedSimpArgs false
set_option linter.unusedVariables false
namespace Go.V
open Go.RowKit
abbrev EP (α : Type) := World → List Value → α → (Nat → Prop) → Prop
def ESt {α : Type} (E : EP α) : Prop := ∀ (w w' : World) (cs : List Value) (x : α) (o : Nat → Prop), (∀ b, o b → w'.heap[b]? = w.heap[b]?) → E w cs x o → E w' cs x o
def cut (xs : List Value) (sz i : Nat) : List Value := (xs.drop (i * sz)).take sz
structure OwnP {α : Type} (T : TypeId) (sz : Nat) (E : Nat → EP α) (w : World) (s : Sl) (l : List α) (F : Nat → Prop) (xs : List Value) (G : Nat → Prop) (o : Nat → Nat → Prop) : Prop where
  ok : SlOk w T sz s xs G
  len : s.len = l.length
  gl : ∀ b, G b → b < w.heap.size ∧ F b
  ol : ∀ i, i < l.length → ∀ b, o i b → b < w.heap.size ∧ F b ∧ ¬ G b
  dj : ∀ i j, i < l.length → j < l.length → i ≠ j → ∀ b, o i b → ¬ o j b
  el : ∀ i (h : i < l.length), E i w (cut xs sz i) l[i] (o i)
  one : ∀ v ∈ xs, v.oneCell' = true
def Own {α : Type} (T : TypeId) (sz : Nat) (E : Nat → EP α) (w : World) (s : Sl) (l : List α) (F : Nat → Prop) : Prop := ∃ xs G o, OwnP T sz E w s l F xs G o
section
variable {α : Type} {T : TypeId} {sz : Nat} {E E' : Nat → EP α} {w w' : World} {s : Sl} {l : List α} {F F' : Nat → Prop} {xs : List Value} {G : Nat → Prop} {o : Nat → Nat → Prop}
theorem blk_same {b : Nat} {T : TypeId} {cs : List Value} (h : Blk w b T cs) (e : w'.heap[b]? = w.heap[b]?) : Blk w' b T cs := by unfold Blk at *; rw [e]; exact h
theorem lt_same {b : Nat} (h : b < w.heap.size) (e : w'.heap[b]? = w.heap[b]?) : b < w'.heap.size := by
  rw [Array.getElem?_eq_getElem h] at e
  exact (Array.getElem?_eq_some_iff.1 e).1
theorem SlOk.same {G : Nat → Prop} (h : SlOk w T sz s xs G) (e : ∀ b, G b → w'.heap[b]? = w.heap[b]?) : SlOk w' T sz s xs G := by
  rcases h with h | ⟨g, hG, hA⟩
  · exact .inl h
  · obtain ⟨off, cs, hb, hB, hl, ht⟩ := hA.has
    exact .inr ⟨g, hG, hA.len, hA.le, off, cs, hb, blk_same hB (e g hG), hl, ht⟩
theorem Own.mono (h : Own T sz E w s l F) (hF : ∀ b, F b → F' b) : Own T sz E w s l F' := by
  obtain ⟨xs, G, o, h⟩ := h
  exact ⟨xs, G, o, h.ok, h.len, fun b hb => ⟨(h.gl b hb).1, hF b (h.gl b hb).2⟩, fun i hi b hb => ⟨(h.ol i hi b hb).1, hF b (h.ol i hi b hb).2.1, (h.ol i hi b hb).2.2⟩, h.dj, h.el, h.one⟩
theorem Own.tight (h : Own T sz E w s l F) : Own T sz E w s l (fun b => F b ∧ b < w.heap.size) := by
  obtain ⟨xs, G, o, h⟩ := h
  exact ⟨xs, G, o, h.ok, h.len, fun b hb => ⟨(h.gl b hb).1, (h.gl b hb).2, (h.gl b hb).1⟩, fun i hi b hb => ⟨(h.ol i hi b hb).1, ⟨(h.ol i hi b hb).2.1, (h.ol i hi b hb).1⟩, (h.ol i hi b hb).2.2⟩, h.dj, h.el, h.one⟩
theorem Own.same (hE : ∀ i, ESt (E i)) (h : Own T sz E w s l F) (e : ∀ b, F b → w'.heap[b]? = w.heap[b]?) : Own T sz E w' s l F := by
  obtain ⟨xs, G, o, h⟩ := h
  exact ⟨xs, G, o, h.ok.same (fun b hb => e b (h.gl b hb).2), h.len, fun b hb => ⟨lt_same (h.gl b hb).1 (e b (h.gl b hb).2), (h.gl b hb).2⟩,
    fun i hi b hb => ⟨lt_same (h.ol i hi b hb).1 (e b (h.ol i hi b hb).2.1), (h.ol i hi b hb).2⟩, h.dj,
    fun i hi => hE i _ _ _ _ _ (fun b hb => e b (h.ol i hi b hb).2.1) (h.el i hi), h.one⟩
theorem Own.fr (hE : ∀ i, ESt (E i)) (h : Own T sz E w s l F) {D : Nat → Prop} (f : Fr D w w') (hd : ∀ b, F b → ¬ D b) : Own T sz E w' s l F :=
  (h.tight.same hE (fun b hb => f.blk b hb.2 (hd b hb.1))).mono fun b hb => hb.1
theorem Own.len (h : Own T sz E w s l F) : s.len = l.length := by obtain ⟨_, _, _, h⟩ := h; exact h.len
theorem Own.nil (T : TypeId) (sz : Nat) (E : Nat → EP α) (w : World) (F : Nat → Prop) : Own T sz E w ⟨none, 0, 0⟩ ([] : List α) F :=
  ⟨[], fun _ => False, fun _ _ => False, SlOk.nil _ _ _ _, rfl, fun b h => h.elim, fun i h => by simp at h, fun i j h => by simp at h, fun i h => by simp at h, fun v h => by simp at h⟩
theorem Own.congr (h : Own T sz E w s l F) (hE : ∀ i (hi : i < l.length) w cs x o, E i w cs x o → E' i w cs x o) : Own T sz E' w s l F := by
  obtain ⟨xs, G, o, h⟩ := h
  exact ⟨xs, G, o, h.ok, h.len, h.gl, h.ol, h.dj, fun i hi => hE i hi _ _ _ _ (h.el i hi), h.one⟩
def EStr : EP Str := fun _ cs s _ => cs = [.string (mkS s)]
def ESl (T : TypeId) (sz : Nat) (E : Nat → EP α) : EP (List α) := fun w cs l o => ∃ s : Sl, cs = [.slice s.base s.len s.cap] ∧ Own T sz E w s l o
theorem EStr.st : ESt EStr := fun _ _ _ _ _ _ h => h
theorem ESl.st (hE : ∀ i, ESt (E i)) : ESt (ESl T sz E) := fun w w' cs x o e h => by
  obtain ⟨s, h1, h2⟩ := h
  exact ⟨s, h1, h2.same hE e⟩
def ESg (T : TypeId) (E : EP Fldt) : EP Seg := fun w cs g o => ∃ s : Sl, cs = [.string (mkS g.name), .slice s.base s.len s.cap] ∧ Own T 1 (fun _ => E) w s g.flds o
theorem ESg.st {E : EP Fldt} (hE : ESt E) : ESt (ESg T E) := fun w w' cs x o e h => by
  obtain ⟨s, h1, h2⟩ := h
  exact ⟨s, h1, h2.same (fun _ => hE) e⟩
theorem cut_get {sz i k : Nat} (hk : k < sz) : (cut xs sz i)[k]? = xs[i * sz + k]? := by
  unfold cut
  rw [List.getElem?_take, if_pos hk, List.getElem?_drop]
theorem OwnP.xlen (h : OwnP T sz E w s l F xs G o) : xs.length = l.length * sz := by rw [h.ok.len, h.len]
theorem OwnP.base (h : OwnP T sz E w s l F xs G o) (hsz : 0 < sz) {i : Nat} (hi : i < l.length) : ∃ a, s.base = some a ∧ G a.block ∧ a.spot = none := by
  rcases h.ok with ⟨_, h0, _, _⟩ | ⟨g, hG, hA⟩
  · have := h.len; omega
  · obtain ⟨off, cs, hb, _⟩ := hA.has
    exact ⟨_, hb, hG, rfl⟩
theorem mul_lt {i n sz k : Nat} (hi : i < n) (hk : k < sz) : i * sz + k < n * sz := by
  have : (i + 1) * sz ≤ n * sz := Nat.mul_le_mul_right _ hi
  rw [Nat.add_mul] at this; omega
theorem OwnP.cell (h : OwnP T sz E w s l F xs G o) {a : Addr} (ha : s.base = some a) {i k : Nat} {v : Value} (hv : (cut xs sz i)[k]? = some v) (hk : k < sz) : w.cell? ((a.add (i * sz)).add k) = some v := by
  rw [cut_get hk] at hv
  obtain ⟨a', ha', hc⟩ := h.ok.at hv
  rw [ha] at ha'; cases ha'
  rcases h.ok with ⟨hb, _⟩ | ⟨g, _, hA⟩
  · rw [hb] at ha; cases ha
  · obtain ⟨off, cs, hb, _⟩ := hA.has
    rw [hb] at ha; cases ha
    rw [add_mk] at hc
    rw [add_mk, add_mk, Nat.add_assoc]; exact hc
theorem Own.rd {R : World → Addr → α → Prop} (h : Own T sz E w s l F) (hsz : 0 < sz) (hR : ∀ i (hi : i < l.length) (cs : List Value) (o : Nat → Prop) (a : Addr), E i w cs l[i] o → (∀ k v, k < sz → cs[k]? = some v → w.cell? (a.add k) = some v) → R w a l[i]) : RdL sz R w s l := by
  obtain ⟨xs, G, o, h⟩ := h
  refine ⟨h.len, fun i hi => ?_⟩
  obtain ⟨a, ha, _, _⟩ := h.base hsz hi
  exact ⟨a, ha, hR i hi _ _ _ (h.el i hi) (fun k v hk hv => h.cell ha hv hk)⟩
theorem Own.rdStr {l : List Str} (h : Own T 1 (fun _ => EStr) w s l F) : RdL 1 RdStr w s l := by
  refine h.rd (by omega) fun i hi cs o a he hc => ?_
  unfold EStr at he; subst he
  exact hc 0 _ (by omega) rfl
theorem Own.rdSl {β : Type} {T' : TypeId} {E' : Nat → EP β} {R : World → Addr → β → Prop} {l : List (List β)} (h : Own T 1 (fun _ => ESl T' 1 E') w s l F) (hR : ∀ (x : Sl) (m : List β) (o : Nat → Prop), Own T' 1 E' w x m o → RdL 1 R w x m) : RdL 1 (RdSl 1 R) w s l := by
  refine h.rd (by omega) fun i hi cs o a he hc => ?_
  obtain ⟨x, rfl, hx⟩ := he
  exact ⟨x, hc 0 _ (by omega) rfl, hR x _ _ hx⟩
theorem cut_app_lt {ys : List Value} {i n : Nat} (hx : xs.length = n * sz) (hi : i < n) : cut (xs ++ ys) sz i = cut xs sz i := by
  have h1 : (i + 1) * sz ≤ n * sz := Nat.mul_le_mul_right _ hi
  rw [Nat.add_mul, Nat.one_mul] at h1
  unfold cut
  rw [List.drop_append_of_le_length (by omega), List.take_append_of_le_length (by simp; omega)]
theorem cut_app_eq {ys : List Value} {n : Nat} (hx : xs.length = n * sz) (hy : ys.length = sz) : cut (xs ++ ys) sz n = ys := by
  unfold cut
  rw [← hx, List.drop_left, ← hy, List.take_length]
theorem Own.push {P : Program} {t : TypeId} {z : Value} {by_ : Nat} (ht : P.underlying t = some (.slice T)) (hs : Sz P T sz) (hz : Zr P T z) (hb : Bts P T by_) (hzs : z.cells.size = sz) (hsz : 0 < sz) (hE : ∀ i, ESt (E i))
    (h : Own T sz E w s l F) {x : α} {cx : List Value} {ox : Nat → Prop} (hx : E l.length w cx x ox) (hl : cx.length = sz) (h1 : ∀ u ∈ cx, u.oneCell' = true) (hox : ∀ b, ox b → b < w.heap.size ∧ ¬ F b)
    {a : Addr} {c : Nat} (ha : ∀ j u, cx[j]? = some u → w.cell? (a.add j) = some u) (hbytes : (l.length + 1) * by_ ≤ 140737488355328) (hmax : l.length + 1 ≤ 4611686018427387904) (ty : TypeId) :
    ∃ s' w', (Builtin.append_ #[t, t] ty #[.slice s.base s.len s.cap, .slice (some a) 1 c]).run P w = .ok (.slice (Sl.base s') s'.len s'.cap) w' ∧
      Own T sz E w' s' (l ++ [x]) (fun b => (F b ∨ ox b ∨ w.heap.size ≤ b) ∧ b < w'.heap.size) ∧ Fr F w w' := by
  obtain ⟨xs, G, o, h⟩ := h
  have hlen := h.len
  obtain ⟨s', w', hr, hs', hlen', hf⟩ := append_own (P := P) ht hs hz hb hzs hsz h.ok (news := cx) (a := some a) (m := 1) (c := c) (by rw [hl, Nat.one_mul]) (.inr ⟨a, rfl, ha⟩) h1 (by rw [hlen]; exact hbytes) (by rw [hlen]; exact hmax) ty
  refine ⟨s', w', hr, ?_, hf.mono (fun b hb hg => (h.gl b hg).2)⟩
  have hxl := h.xlen
  rcases hs' with ⟨_, h0, _, _⟩ | ⟨g, hg, hA⟩
  · omega
  have hgl : g < w'.heap.size := hA.lt
  have keep : ∀ b, b < w.heap.size → ¬ G b → w'.heap[b]? = w.heap[b]? := fun b hb hn => hf.blk b hb hn
  have hgo : ∀ i, i < l.length → ∀ b, o i b → b ≠ g := by
    rintro i hi b hb rfl
    obtain ⟨k1, k2, k3⟩ := h.ol i hi b hb
    rcases hg with hg | hg
    · exact k3 hg
    · omega
  have hgx : ∀ b, ox b → b ≠ g := by
    rintro b hb rfl
    obtain ⟨k1, k2⟩ := hox b hb
    rcases hg with hg | hg
    · exact k2 (h.gl b hg).2
    · omega
  refine ⟨xs ++ cx, fun b => b = g, fun i => if i = l.length then ox else o i, .inr ⟨g, rfl, hA⟩, by simp; omega, ?_, ?_, ?_, ?_, ?_⟩
  · rintro b rfl
    refine ⟨hgl, ?_, hgl⟩
    rcases hg with hg | hg
    · exact .inl (h.gl b hg).2
    · exact .inr (.inr (by omega))
  · intro i hi b hb
    revert hb
    split <;> intro hb
    · obtain ⟨k1, k2⟩ := hox b hb
      have hbw : b < w'.heap.size := Nat.lt_of_lt_of_le k1 hf.size
      exact ⟨hbw, ⟨.inr (.inl hb), hbw⟩, hgx b hb⟩
    · have hi : i < l.length := by simp at hi; omega
      obtain ⟨k1, k2, k3⟩ := h.ol i hi b hb
      have hbw : b < w'.heap.size := Nat.lt_of_lt_of_le k1 hf.size
      exact ⟨hbw, ⟨.inl k2, hbw⟩, hgo i hi b hb⟩
  · intro i j hi hj hij b hb hb2
    simp at hi hj
    revert hb hb2
    split <;> intro hb
    · split <;> intro hb2
      · omega
      · have hj : j < l.length := by omega
        exact (hox b hb).2 (h.ol j hj b hb2).2.1
    · split <;> intro hb2
      · have hi : i < l.length := by omega
        exact (hox b hb2).2 (h.ol i hi b hb).2.1
      · exact h.dj i j (by omega) (by omega) hij b hb hb2
  · intro i hi
    by_cases he : i = l.length
    · subst he
      rw [if_pos rfl, cut_app_eq hxl hl]
      simp only [List.getElem_append_right (Nat.le_refl _), Nat.sub_self, List.getElem_cons_zero]
      exact hE _ _ _ _ _ _ (fun b hb => keep b (hox b hb).1 (fun hG => (hox b hb).2 (h.gl b hG).2)) hx
    · have hi' : i < l.length := by simp at hi; omega
      rw [if_neg he, cut_app_lt hxl hi', List.getElem_append_left hi']
      exact hE _ _ _ _ _ _ (fun b hb => keep b (h.ol i hi' b hb).1 (h.ol i hi' b hb).2.2) (h.el i hi')
  · intro v hv
    rcases List.mem_append.1 hv with hv | hv
    · exact h.one v hv
    · exact h1 v hv
theorem cut_set_eq {sz i k : Nat} {v : Value} (hk : k < sz) : cut (xs.set (i * sz + k) v) sz i = (cut xs sz i).set k v := by
  unfold cut
  rw [List.drop_set, if_neg (by omega), Nat.add_sub_cancel_left, List.take_set]
theorem cut_set_ne {sz i j k : Nat} {v : Value} (hk : k < sz) (hij : j ≠ i) : cut (xs.set (i * sz + k) v) sz j = cut xs sz j := by
  apply List.ext_getElem?
  intro q
  by_cases hq : q < sz
  · rw [cut_get hq, cut_get hq, List.getElem?_set_ne]
    intro e
    apply hij
    have h1 : (i * sz + k) / sz = i := by rw [Nat.mul_comm, Nat.mul_add_div (by omega), Nat.div_eq_of_lt hk, Nat.add_zero]
    have h2 : (j * sz + q) / sz = j := by rw [Nat.mul_comm, Nat.mul_add_div (by omega), Nat.div_eq_of_lt hq, Nat.add_zero]
    rw [e] at h1; omega
  · unfold cut
    rw [List.getElem?_eq_none (by simp; omega), List.getElem?_eq_none (by simp; omega)]
theorem Own.upd (hE : ∀ i, ESt (E i)) (hsz : 0 < sz) (h : Own T sz E w s l F) {i : Nat} (hi : i < l.length) :
    ∃ (a : Addr) (cx : List Value) (ox : Nat → Prop), s.base = some a ∧ F a.block ∧ a.block < w.heap.size ∧ ¬ ox a.block ∧ E i w cx l[i] ox ∧ (∀ b, ox b → F b ∧ b < w.heap.size) ∧ cx.length = sz ∧
      (∀ k v, k < sz → cx[k]? = some v → w.cell? ((a.add (i * sz)).add k) = some v) ∧
      ∀ (w' : World) (x' : α) (ox' : Nat → Prop) (k : Nat) (v : Value) (Ei : EP α), Fr ox w w' → k < sz → v.oneCell' = true → ESt Ei → Ei w' (cx.set k v) x' ox' → (∀ b, ox' b → (ox b ∨ w.heap.size ≤ b) ∧ b < w'.heap.size) →
        (w'.cell? ((a.add (i * sz)).add k)).isSome = true ∧ w'.frozen? ((a.add (i * sz)).add k) = false ∧
          Own T sz (fun j => if j = i then Ei else E j) (w'.setCell ((a.add (i * sz)).add k) v) s (l.set i x') (fun b => F b ∨ w.heap.size ≤ b) ∧ Fr F w (w'.setCell ((a.add (i * sz)).add k) v) := by
  obtain ⟨xs, G, o, h⟩ := h
  have hxl := h.xlen
  rcases h.ok with ⟨_, h0, _, _⟩ | ⟨g, hG, hA⟩
  · have := h.len; omega
  obtain ⟨off, cs, hb, hB, hle, htk⟩ := hA.has
  obtain ⟨hgl, hgF⟩ := h.gl g hG
  have hog : ∀ j, j < l.length → ¬ o j g := fun j hj hb => (h.ol j hj g hb).2.2 hG
  have hcl : (cut xs sz i).length = sz := by
    have h1 : (i + 1) * sz ≤ l.length * sz := Nat.mul_le_mul_right _ hi
    rw [Nat.add_mul, Nat.one_mul] at h1
    unfold cut; simp; omega
  refine ⟨⟨g, off, none⟩, cut xs sz i, o i, hb, hgF, hgl, hog i hi, h.el i hi, fun b hb => ⟨(h.ol i hi b hb).2.1, (h.ol i hi b hb).1⟩, hcl, fun k v hk hv => h.cell hb hv hk, ?_⟩
  intro w' x' ox' k v Ei f hk hv hEi hx' hox'
  have hsl : s.len * sz ≤ s.cap * sz := Nat.mul_le_mul_right _ hA.le
  have hlen := h.len
  have hpos : i * sz + k < l.length * sz := mul_lt hi hk
  have hB' : Blk w' g T cs := hB.fr f (hog i hi)
  rw [add_mk, add_mk, Nat.add_assoc]
  have hgw : g < w'.heap.size := hB'.lt
  rw [hlen] at hsl
  refine ⟨hB'.isS (by omega), hB'.free _, ?_, ?_⟩
  · have hSl : SlAt (w'.setCell ⟨g, off + (i * sz + k), none⟩ v) T sz s (xs.set (i * sz + k) v) g := by
      refine ⟨by simp [hA.len], hA.le, off, _, hb, hB'.set _ v, by simpa using hle, ?_⟩
      rw [List.drop_set, if_neg (by omega), Nat.add_sub_cancel_left, List.take_set, htk]
    have same : ∀ b, b ≠ g → (w'.setCell ⟨g, off + (i * sz + k), none⟩ v).heap[b]? = w'.heap[b]? := fun b hb => Below.heap_setCell _ _ _ _ hb
    have szs : (w'.setCell ⟨g, off + (i * sz + k), none⟩ v).heap.size = w'.heap.size := by simp [World.setCell]
    refine ⟨xs.set (i * sz + k) v, fun b => b = g, fun j => if j = i then ox' else o j, .inr ⟨g, rfl, hSl⟩, by simpa using h.len, ?_, ?_, ?_, ?_, ?_⟩
    · rintro b rfl
      rw [szs]; exact ⟨hgw, .inl hgF⟩
    · intro j hj b hb
      revert hb
      simp only [List.length_set] at hj
      rw [szs]
      split <;> intro hb
      · obtain ⟨k1, k2⟩ := hox' b hb
        refine ⟨k2, k1.imp (fun k1 => (h.ol i hi b k1).2.1) id, ?_⟩
        rintro rfl
        rcases k1 with k1 | k1
        · exact hog i hi k1
        · omega
      · obtain ⟨k1, k2, k3⟩ := h.ol j hj b hb
        exact ⟨Nat.lt_of_lt_of_le k1 f.size, .inl k2, fun e => hog j hj (e ▸ hb)⟩
    · intro j j2 hj hj2 hne b hb hb2
      simp only [List.length_set] at hj hj2
      revert hb hb2
      split <;> intro hb
      · rw [if_neg (by omega)]
        intro hb2
        rcases (hox' b hb).1 with k1 | k1
        · exact h.dj i j2 hi hj2 (by omega) b k1 hb2
        · have := (h.ol j2 hj2 b hb2).1; omega
      · split <;> intro hb2
        · rcases (hox' b hb2).1 with k1 | k1
          · exact h.dj i j hi hj (by omega) b k1 hb
          · have := (h.ol j hj b hb).1; omega
        · exact h.dj j j2 hj hj2 hne b hb hb2
    · intro j hj
      simp only [List.length_set] at hj
      by_cases hji : j = i
      · subst hji
        simp only [if_true, List.getElem_set_self]
        rw [cut_set_eq hk]
        refine hEi _ _ _ _ _ (fun b hob => same b fun e => ?_) hx'
        rcases (hox' b hob).1 with k1 | k1
        · exact hog j hi (e ▸ k1)
        · omega
      · simp only [if_neg hji]
        rw [cut_set_ne hk hji, List.getElem_set_ne (by omega)]
        refine hE j _ _ _ _ _ (fun b hb => ?_) (h.el j hj)
        rw [same b (fun e => hog j hj (e ▸ hb))]
        exact f.blk b (h.ol j hj b hb).1 (fun hb2 => h.dj j i hj hi hji b hb hb2)
    · intro u hu
      rcases List.mem_or_eq_of_mem_set hu with hu | rfl
      · exact h.one u hu
      · exact hv
  · exact (f.mono (fun b _ hb => (h.ol i hi b hb).2.1)).set (a := ⟨g, off + (i * sz + k), none⟩) (fun _ => hgF) v
theorem slS0 (s : Sl) (sz n : Nat) : slS s sz (0 : Int) (n : Int) = ⟨s.base, n, s.cap⟩ := by
  unfold slS
  have h0 : (0 : Int).toNat = 0 := rfl
  simp only [h0, Nat.zero_mul, Int.toNat_natCast, Nat.sub_zero]
  cases hb : s.base with
  | none => simp
  | some a => simp [add_zero]
end
end Go.V
set_option linter.unusedSimpArgs false
set_option linter.unusedVariables false
namespace Go.V
open Go.RowKit
section
variable {α : Type} {T : TypeId} {sz : Nat} {E : Nat → EP α} {w w' : World} {s : Sl} {l : List α} {F F' : Nat → Prop}
theorem Own.le (h : Own T sz E w s l F) : s.len ≤ s.cap := by
  obtain ⟨xs, G, o, h⟩ := h
  rcases h.ok with ⟨_, h1, h2, _⟩ | ⟨g, _, hA⟩
  · omega
  · exact hA.le
theorem Own.one {E : EP α} {b : Nat} {cx : List Value} {x : α} {ox : Nat → Prop} (hB : Blk w b T cx) (hl : cx.length = sz) (h1 : ∀ v ∈ cx, v.oneCell' = true) (hx : E w cx x ox) (hox : ∀ c, ox c → c < w.heap.size ∧ c ≠ b) :
    Own T sz (fun _ => E) w ⟨some ⟨b, 0, none⟩, 1, 1⟩ [x] (fun c => c = b ∨ ox c) := by
  have hc : cut cx sz 0 = cx := by unfold cut; simp [← hl]
  refine ⟨cx, fun c => c = b, fun _ => ox, .inr ⟨b, rfl, by simp [hl], Nat.le_refl _, 0, cx, rfl, hB, by simp [hl], by simp [← hl]⟩, rfl, ?_, ?_, ?_, ?_, h1⟩
  · rintro c rfl; exact ⟨hB.lt, .inl rfl⟩
  · intro i hi c hc; exact ⟨(hox c hc).1, .inr hc, (hox c hc).2⟩
  · intro i j hi hj hij; simp at hi hj; omega
  · intro i hi
    have : i = 0 := by simp at hi; omega
    subst this
    rw [hc]; exact hx
theorem cut_map {f : α → Value} {i : Nat} (hi : i < l.length) : cut (l.map f) 1 i = [f l[i]] := by
  apply List.ext_getElem?
  intro q
  by_cases hq : q < 1
  · obtain rfl : q = 0 := by omega
    rw [cut_get (by omega)]; simp [hi]
  · unfold cut
    rw [List.getElem?_eq_none (by simp; omega), List.getElem?_eq_none (by simp; omega)]
theorem copyStr {P : Program} {t : TypeId} {by_ : Nat} {l : List Str} {x : Sl} (ht : P.underlying t = some (.slice T)) (hs : Sz P T 1) (hz : Zr P T (.string (mkS []))) (hb : Bts P T by_) (hx : RdL 1 RdStr w x l) (hbytes : l.length * by_ ≤ 140737488355328) (hmax : l.length ≤ 4611686018427387904) (ty : TypeId) :
    ∃ s' w', (Builtin.append_ #[t, t] ty #[.slice none 0 0, .slice x.base x.len x.cap]).run P w = .ok (.slice (Sl.base s') s'.len s'.cap) w' ∧ Own T 1 (fun _ => EStr) w' s' l (fun b => w.heap.size ≤ b ∧ b < w'.heap.size) ∧ Fr Non w w' := by
  have hL := hx.1
  obtain ⟨s', w', hr, hs', hlen', hf⟩ := append_own (P := P) (w := w) (s := ⟨none, 0, 0⟩) (xs := []) (F := fun _ => False) (z := .string (mkS [])) ht hs hz hb rfl (by omega) (SlOk.nil _ _ _ _) (news := l.map fun s => .string (mkS s)) (a := x.base) (m := x.len) (c := x.cap) (by simp [hL])
    (by
      by_cases h0 : x.len = 0
      · cases hbb : x.base with
        | none => exact .inl ⟨rfl, h0⟩
        | some a => exact .inr ⟨a, rfl, fun j u hu => by
            have : l = [] := List.eq_nil_of_length_eq_zero (by omega)
            subst this; simp at hu⟩
      · obtain ⟨a, ha, _⟩ := hx.at (i := 0) (by omega)
        refine .inr ⟨a, ha, fun j u hu => ?_⟩
        rw [List.getElem?_map] at hu
        obtain ⟨s, hs, rfl⟩ := Option.map_eq_some_iff.1 hu
        obtain ⟨hj, rfl⟩ := List.getElem?_eq_some_iff.1 hs
        obtain ⟨a', ha', hc⟩ := hx.at hj
        rw [ha] at ha'; cases ha'
        rw [Nat.mul_one] at hc; exact hc)
    (by intro u hu; obtain ⟨s, _, rfl⟩ := List.mem_map.1 hu; rfl) (by simpa [hL] using hbytes) (by simpa [hL] using hmax) ty
  refine ⟨s', w', hr, ?_, hf.mono fun b _ h => h.elim⟩
  have hG : SlOk w' T 1 s' (l.map fun s => .string (mkS s)) (fun b => w.heap.size ≤ b ∧ b < w'.heap.size) := by
    rcases hs' with h | ⟨g, hg, hA⟩
    · exact .inl (by simpa using h)
    · exact .inr ⟨g, ⟨by rcases hg with h | h; exact h.elim; omega, hA.lt⟩, by simpa using hA⟩
  refine ⟨_, _, fun _ _ => False, hG, by simpa [hL] using hlen', fun b hb => ⟨hb.2, hb⟩, fun i hi b h => h.elim, fun i j _ _ _ b h => h.elim, fun i hi => ?_, ?_⟩
  · unfold EStr; exact cut_map hi
  · intro v hv; obtain ⟨s, _, rfl⟩ := List.mem_map.1 hv; rfl
def LentE (T : TypeId) (sz : Nat) (E E0 : EP α) (mk : α) : EP (List α) := fun w cs l o => ∃ s : Sl, cs = [.slice s.base s.len s.cap] ∧ s.len = l.length ∧ Own T sz (fun i => if i < l.length then E else E0) w ⟨s.base, s.len + 1, s.cap⟩ (l ++ [mk]) o
theorem if_st {E E0 : EP α} (h : ESt E) (h0 : ESt E0) (n : Nat) : ∀ i, ESt (if i < n then E else E0) := fun i => by split; exact h; exact h0
theorem LentE.st {E E0 : EP α} {mk : α} (h : ESt E) (h0 : ESt E0) : ESt (LentE T sz E E0 mk) := fun w w' cs x o e hx => by
  obtain ⟨s, h1, h2, h3⟩ := hx
  exact ⟨s, h1, h2, h3.same (if_st h h0 _) e⟩
theorem Own.lend {P : Program} {t : TypeId} {z : Value} {by_ : Nat} {E E0 : EP α} {mk : α} (ht : P.underlying t = some (.slice T)) (hs : Sz P T sz) (hz : Zr P T z) (hb : Bts P T by_) (hzs : z.cells.size = sz) (hsz : 0 < sz) (hE : ESt E) (hE0 : ESt E0)
    (h : Own T sz (fun _ => E) w s l F) {cx : List Value} {ox : Nat → Prop} (hx : E0 w cx mk ox) (hl : cx.length = sz) (h1 : ∀ u ∈ cx, u.oneCell' = true) (hox : ∀ b, ox b → b < w.heap.size ∧ ¬ F b)
    {a : Addr} {c : Nat} (ha : ∀ j u, cx[j]? = some u → w.cell? (a.add j) = some u) (hbytes : (l.length + 1) * by_ ≤ 140737488355328) (hmax : l.length + 1 ≤ 4611686018427387904) (ty : TypeId) :
    ∃ s' w', (Builtin.append_ #[t, t] ty #[.slice s.base s.len s.cap, .slice (some a) 1 c]).run P w = .ok (.slice (Sl.base s') s'.len s'.cap) w' ∧ s.len = l.length ∧ l.length ≤ s'.cap ∧
      slS s' sz (0 : Int) (s.len : Int) = ⟨s'.base, l.length, s'.cap⟩ ∧ LentE T sz E E0 mk w' [.slice s'.base l.length s'.cap] l (fun b => (F b ∨ ox b ∨ w.heap.size ≤ b) ∧ b < w'.heap.size) ∧ Fr F w w' := by
  have h' : Own T sz (fun i => if i < l.length then E else E0) w s l F := h.congr fun i hi w cs x o he => by rw [if_pos hi]; exact he
  obtain ⟨s', w', hr, ho, hf⟩ := h'.push ht hs hz hb hzs hsz (if_st hE hE0 _) (x := mk) (cx := cx) (ox := ox) (by rw [if_neg (by omega)]; exact hx) hl h1 hox (a := a) (c := c) ha hbytes hmax ty
  have hl' := ho.len
  simp only [List.length_append, List.length_cons, List.length_nil, Nat.zero_add] at hl'
  have hle := ho.le
  refine ⟨s', w', hr, h.len, by omega, by rw [h.len, slS0], ⟨⟨s'.base, l.length, s'.cap⟩, rfl, rfl, ?_⟩, hf⟩
  have : (⟨s'.base, l.length + 1, s'.cap⟩ : Sl) = s' := by rw [← hl']
  rw [this]; exact ho
def LRd (sz : Nat) (R : World → Addr → α → Prop) (M : World → Addr → Prop) (w : World) (s : Sl) (l : List α) : Prop :=
  RdL sz R w s l ∧ s.len + 1 ≤ s.cap ∧ ∃ a, s.base = some a ∧ M w (a.add (l.length * sz))
theorem LentE.rd {E E0 : EP α} {mk : α} {R : World → Addr → α → Prop} {M : World → Addr → Prop} {cs : List Value} {o : Nat → Prop} (hsz : 0 < sz) (h : LentE T sz E E0 mk w cs l o)
    (hR : ∀ (x : α) (cs : List Value) (o : Nat → Prop) (a : Addr), E w cs x o → (∀ k v, k < sz → cs[k]? = some v → w.cell? (a.add k) = some v) → R w a x)
    (hM : ∀ (cs : List Value) (o : Nat → Prop) (a : Addr), E0 w cs mk o → (∀ k v, k < sz → cs[k]? = some v → w.cell? (a.add k) = some v) → M w a) : ∃ s : Sl, cs = [.slice s.base s.len s.cap] ∧ LRd sz R M w s l := by
  obtain ⟨s, hcs, hl, h⟩ := h
  refine ⟨s, hcs, ?_⟩
  have hle := h.le
  obtain ⟨xs, G, o, h⟩ := h
  have hlen := h.len
  simp only [List.length_append, List.length_cons, List.length_nil, Nat.zero_add] at hlen
  obtain ⟨a, ha, _, _⟩ := h.base hsz (i := l.length) (by simp)
  refine ⟨⟨hl, fun i hi => ⟨a, ha, ?_⟩⟩, hle, a, ha, ?_⟩
  · have := h.el i (by simp; omega)
    rw [if_pos hi, List.getElem_append_left hi] at this
    exact hR _ _ _ _ this (fun k v hk hv => h.cell ha hv hk)
  · have := h.el l.length (by simp)
    rw [if_neg (by omega)] at this
    simp only [List.getElem_append_right (Nat.le_refl _), Nat.sub_self, List.getElem_cons_zero] at this
    exact hM _ _ _ this (fun k v hk hv => h.cell ha hv hk)
theorem LRd.fr {R : World → Addr → α → Prop} {M : World → Addr → Prop} (hR : Stay R) (hM : ∀ (w w' : World) (a : Addr), Fr Non w w' → M w a → M w' a) (h : LRd sz R M w s l) (f : Fr Non w w') : LRd sz R M w' s l :=
  ⟨h.1.fr hR f, h.2.1, let ⟨a, h1, h2⟩ := h.2.2; ⟨a, h1, hM _ _ _ f h2⟩⟩
end
end Go.V
set_option linter.unusedSimpArgs false
set_option linter.unusedVariables false
namespace Go.V
open Go.RowKit
def mrk : Str := [109, 97, 114, 107]
section
variable {α : Type} {sz : Nat} {w w' : World} {s : Sl} {l : List α}
theorem RdL.imp {R R' : World → Addr → α → Prop} (h : RdL sz R w s l) (hi : ∀ a x, R w a x → R' w a x) : RdL sz R' w s l :=
  ⟨h.1, fun i hi' => let ⟨a, h1, h2⟩ := h.2 i hi'; ⟨a, h1, hi _ _ h2⟩⟩
end
def RLC (w : World) (a : Addr) (c : Cmp) : Prop := ∃ x : Sl, w.cell? a = some (.slice x.base x.len x.cap) ∧ LRd 1 RdStr (fun w a => RdStr w a mrk) w x c
def RLR (w : World) (a : Addr) (c : Rept) : Prop := ∃ x : Sl, w.cell? a = some (.slice x.base x.len x.cap) ∧ LRd 1 RLC (fun w a => RC w a [mrk]) w x c
def RLF (w : World) (a : Addr) (c : Fldt) : Prop := ∃ x : Sl, w.cell? a = some (.slice x.base x.len x.cap) ∧ LRd 1 RLR (fun w a => RR w a [[mrk]]) w x c
def RLG (w : World) (a : Addr) (g : Seg) : Prop := w.cell? a = some (.string (mkS g.name)) ∧ ∃ x : Sl, w.cell? (a.add 1) = some (.slice x.base x.len x.cap) ∧ LRd 1 RLF (fun w a => RF w a [[[mrk]]]) w x g.flds
def RLM (w : World) (s : Sl) (l : List Seg) : Prop := LRd 2 RLG (fun w a => w.cell? a = some (.string (mkS mrk))) w s l
theorem RLC.stay : Stay RLC := fun _ _ _ _ f h => let ⟨x, h1, h2⟩ := h; ⟨x, f.cell h1 (fun h => h), h2.fr RdStr.stay (fun _ _ _ f h => RdStr.stay _ _ _ _ f h) f⟩
theorem RLR.stay : Stay RLR := fun _ _ _ _ f h => let ⟨x, h1, h2⟩ := h; ⟨x, f.cell h1 (fun h => h), h2.fr RLC.stay (fun _ _ _ f h => RC.stay _ _ _ _ f h) f⟩
theorem RLF.stay : Stay RLF := fun _ _ _ _ f h => let ⟨x, h1, h2⟩ := h; ⟨x, f.cell h1 (fun h => h), h2.fr RLR.stay (fun _ _ _ f h => RR.stay _ _ _ _ f h) f⟩
theorem RLG.stay : Stay RLG := fun _ _ _ _ f h => let ⟨h0, x, h1, h2⟩ := h; ⟨f.cell h0 (fun h => h), x, f.cell h1 (fun h => h), h2.fr RLF.stay (fun _ _ _ f h => RF.stay _ _ _ _ f h) f⟩
theorem RLM.fr {w w' : World} {s : Sl} {l : List Seg} (h : RLM w s l) (f : Fr Non w w') : RLM w' s l := LRd.fr RLG.stay (fun _ _ _ f h => f.cell h (fun h => h)) h f
theorem RLC.c {w : World} {a : Addr} {c : Cmp} (h : RLC w a c) : RC w a c := let ⟨x, h1, h2⟩ := h; ⟨x, h1, h2.1⟩
theorem RLR.c {w : World} {a : Addr} {c : Rept} (h : RLR w a c) : RR w a c := let ⟨x, h1, h2⟩ := h; ⟨x, h1, h2.1.imp fun _ _ h => h.c⟩
theorem RLF.c {w : World} {a : Addr} {c : Fldt} (h : RLF w a c) : RF w a c := let ⟨x, h1, h2⟩ := h; ⟨x, h1, h2.1.imp fun _ _ h => h.c⟩
theorem RLG.c {w : World} {a : Addr} {g : Seg} (h : RLG w a g) : RSeg w a g := let ⟨h0, x, h1, h2⟩ := h; ⟨h0, x, h1, h2.1.imp fun _ _ h => h.c⟩
theorem RLM.c {w : World} {s : Sl} {l : List Seg} (h : RLM w s l) : RM w s l := h.1.imp fun _ _ h => h.c
end Go.V
set_option linter.unusedSimpArgs false
set_option linter.unusedVariables false
namespace Go.V
open Go.RowKit
abbrev RP (α : Type) := World → Addr → α → Prop
def RdLD {α : Type} (D : Nat → Prop) (sz : Nat) (E : RP α) (w : World) (s : Sl) (l : List α) : Prop :=
  s.len = l.length ∧ ∀ i (h : i < l.length), ∃ a, s.base = some a ∧ D a.block ∧ E w (a.add (i * sz)) l[i]
def RdSlD {α : Type} (D : Nat → Prop) (sz : Nat) (E : RP α) : RP (List α) := fun w a l => ∃ x : Sl, w.cell? a = some (.slice x.base x.len x.cap) ∧ RdLD D sz E w x l
def Kp {α : Type} (D : Nat → Prop) (E : RP α) : Prop := ∀ (w w' : World) (a : Addr) (x : α), (∀ b, D b → w'.heap[b]? = w.heap[b]?) → D a.block → E w a x → E w' a x
section
variable {α : Type} {D D' : Nat → Prop} {sz : Nat} {E E' : RP α} {w w' : World} {s : Sl} {l : List α}
theorem cell_same {a : Addr} (e : w'.heap[a.block]? = w.heap[a.block]?) : w'.cell? a = w.cell? a := by unfold World.cell?; rw [e]
theorem RdStr.kp : Kp D RdStr := fun w w' a x e hd h => by unfold RdStr at *; rw [cell_same (e _ hd)]; exact h
theorem RdLD.kp (hE : Kp D E) (e : ∀ b, D b → w'.heap[b]? = w.heap[b]?) (h : RdLD D sz E w s l) : RdLD D sz E w' s l :=
  ⟨h.1, fun i hi => let ⟨a, h1, h2, h3⟩ := h.2 i hi; ⟨a, h1, h2, hE _ _ _ _ e (by rw [block_add]; exact h2) h3⟩⟩
theorem RdSlD.kp (hE : Kp D E) : Kp D (RdSlD D sz E) := fun w w' a x e hd h =>
  let ⟨y, h1, h2⟩ := h; ⟨y, by rw [cell_same (e _ hd)]; exact h1, h2.kp hE e⟩
theorem RdLD.imp (h : RdLD D sz E w s l) (hD : ∀ b, D b → D' b) (hE : ∀ a x, E w a x → E' w a x) : RdLD D' sz E' w s l :=
  ⟨h.1, fun i hi => let ⟨a, h1, h2, h3⟩ := h.2 i hi; ⟨a, h1, hD _ h2, hE _ _ h3⟩⟩
theorem RdSlD.imp {a : Addr} (h : RdSlD D sz E w a l) (hD : ∀ b, D b → D' b) (hE : ∀ a x, E w a x → E' w a x) : RdSlD D' sz E' w a l := let ⟨y, h1, h2⟩ := h; ⟨y, h1, h2.imp hD hE⟩
theorem RdLD.rd {R : RP α} (h : RdLD D sz E w s l) (hE : ∀ a x, E w a x → R w a x) : RdL sz R w s l :=
  ⟨h.1, fun i hi => let ⟨a, h1, _, h3⟩ := h.2 i hi; ⟨a, h1, hE _ _ h3⟩⟩
theorem RdL.all {R : RP α} (h : RdL sz R w s l) (hE : ∀ a x, R w a x → a.block < w.heap.size ∧ E w a x) : RdLD (fun b => b < w.heap.size) sz E w s l :=
  ⟨h.1, fun i hi => let ⟨a, h1, h3⟩ := h.2 i hi; ⟨a, h1, by have := (hE _ _ h3).1; rw [block_add] at this; exact this, (hE _ _ h3).2⟩⟩
theorem RdLD.nil {b : Option Addr} {c : Nat} : RdLD D sz E w ⟨b, 0, c⟩ ([] : List α) := ⟨rfl, fun i h => by simp at h⟩
end
def RCD (D : Nat → Prop) : RP Cmp := RdSlD D 1 RdStr
def RRD (D : Nat → Prop) : RP Rept := RdSlD D 1 (RCD D)
def RFD (D : Nat → Prop) : RP Fldt := RdSlD D 1 (RRD D)
def RGD (D : Nat → Prop) : RP Seg := fun w a g => w.cell? a = some (.string (mkS g.name)) ∧ ∃ x : Sl, w.cell? (a.add 1) = some (.slice x.base x.len x.cap) ∧ RdLD D 1 (RFD D) w x g.flds
def RMD (D : Nat → Prop) (w : World) (s : Sl) (l : List Seg) : Prop := RdLD D 2 (RGD D) w s l
section
variable {D D' : Nat → Prop} {w w' : World}
theorem RCD.kp : Kp D (RCD D) := RdSlD.kp RdStr.kp
theorem RRD.kp : Kp D (RRD D) := RdSlD.kp RCD.kp
theorem RFD.kp : Kp D (RFD D) := RdSlD.kp RRD.kp
theorem RGD.kp : Kp D (RGD D) := fun w w' a x e hd h =>
  let ⟨h0, y, h1, h2⟩ := h; ⟨by rw [cell_same (e _ hd)]; exact h0, y, by rw [cell_same (e _ (by rw [block_add]; exact hd))]; exact h1, h2.kp RFD.kp e⟩
theorem RCD.mono {a : Addr} {x : Cmp} (h : RCD D w a x) (hD : ∀ b, D b → D' b) : RCD D' w a x := RdSlD.imp h hD fun _ _ h => h
theorem RRD.mono {a : Addr} {x : Rept} (h : RRD D w a x) (hD : ∀ b, D b → D' b) : RRD D' w a x := RdSlD.imp h hD fun _ _ h => RCD.mono h hD
theorem RFD.mono {a : Addr} {x : Fldt} (h : RFD D w a x) (hD : ∀ b, D b → D' b) : RFD D' w a x := RdSlD.imp h hD fun _ _ h => RRD.mono h hD
theorem RCD.c {a : Addr} {x : Cmp} (h : RCD D w a x) : RC w a x := let ⟨y, h1, h2⟩ := h; ⟨y, h1, h2.rd fun _ _ h => h⟩
theorem RRD.c {a : Addr} {x : Rept} (h : RRD D w a x) : RR w a x := let ⟨y, h1, h2⟩ := h; ⟨y, h1, h2.rd fun _ _ h => h.c⟩
theorem RFD.c {a : Addr} {x : Fldt} (h : RFD D w a x) : RF w a x := let ⟨y, h1, h2⟩ := h; ⟨y, h1, h2.rd fun _ _ h => h.c⟩
theorem RGD.c {a : Addr} {x : Seg} (h : RGD D w a x) : RSeg w a x := let ⟨h0, y, h1, h2⟩ := h; ⟨h0, y, h1, h2.rd fun _ _ h => h.c⟩
theorem RMD.c {s : Sl} {l : List Seg} (h : RMD D w s l) : RM w s l := h.rd fun _ _ h => h.c
theorem RdStr.lt {a : Addr} {x : Str} (h : RdStr w a x) : a.block < w.heap.size := cell_lt h
theorem RC.d {a : Addr} {x : Cmp} (h : RC w a x) : a.block < w.heap.size ∧ RCD (fun b => b < w.heap.size) w a x := let ⟨y, h1, h2⟩ := h; ⟨cell_lt h1, y, h1, h2.all fun _ _ h => ⟨RdStr.lt h, h⟩⟩
theorem RR.d {a : Addr} {x : Rept} (h : RR w a x) : a.block < w.heap.size ∧ RRD (fun b => b < w.heap.size) w a x := let ⟨y, h1, h2⟩ := h; ⟨cell_lt h1, y, h1, h2.all fun _ _ h => h.d⟩
theorem RF.d {a : Addr} {x : Fldt} (h : RF w a x) : a.block < w.heap.size ∧ RFD (fun b => b < w.heap.size) w a x := let ⟨y, h1, h2⟩ := h; ⟨cell_lt h1, y, h1, h2.all fun _ _ h => h.d⟩
theorem RSeg.d {a : Addr} {x : Seg} (h : RSeg w a x) : a.block < w.heap.size ∧ RGD (fun b => b < w.heap.size) w a x := let ⟨h0, y, h1, h2⟩ := h; ⟨cell_lt h0, h0, y, h1, h2.all fun _ _ h => h.d⟩
theorem RM.d {s : Sl} {l : List Seg} (h : RM w s l) : RMD (fun b => b < w.heap.size) w s l := RdL.all h fun _ _ h => h.d
end
def Sls {α : Type} (R : World → Sl → List α → Prop) (w : World) (xs : List Value) (l : List (List α)) : Prop :=
  xs.length = l.length ∧ ∀ i (h : i < l.length), ∃ z : Sl, xs[i]? = some (.slice z.base z.len z.cap) ∧ R w z l[i]
section
variable {α : Type} {D : Nat → Prop} {w : World} {s : Sl} {E : RP α}
theorem RdLD.sls {l : List (List α)} (h : RdLD D 1 (RdSlD D 1 E) w s l) : ∃ xs : List Value, Sls (RdLD D 1 E) w xs l ∧ (∀ v ∈ xs, v.oneCell' = true) ∧ xs.length = s.len ∧ ∀ j v, xs[j]? = some v → ∃ a, s.base = some a ∧ w.cell? (a.add j) = some v := by
  have each : ∀ i : Fin l.length, ∃ z : Sl, (∃ a, s.base = some a ∧ w.cell? (a.add i.val) = some (.slice z.base z.len z.cap)) ∧ RdLD D 1 E w z l[i.val] := fun i => by
    obtain ⟨a, h1, _, z, h3, h4⟩ := h.2 i.val i.isLt
    rw [Nat.mul_one] at h3
    exact ⟨z, ⟨a, h1, h3⟩, h4⟩
  have g : ∀ i (hi : i < l.length), (List.ofFn fun i => Value.slice (each i).choose.base (each i).choose.len (each i).choose.cap)[i]? = some (.slice (each ⟨i, hi⟩).choose.base (each ⟨i, hi⟩).choose.len (each ⟨i, hi⟩).choose.cap) := fun i hi => by simp [hi]
  refine ⟨List.ofFn fun i => .slice (each i).choose.base (each i).choose.len (each i).choose.cap, ⟨by simp, fun i hi => ⟨(each ⟨i, hi⟩).choose, g i hi, (each ⟨i, hi⟩).choose_spec.2⟩⟩, ?_, by simp [h.1], ?_⟩
  · intro v hv
    obtain ⟨i, rfl⟩ := List.mem_ofFn.1 hv
    rfl
  · intro j v hv
    have hj : j < l.length := by have := (List.getElem?_eq_some_iff.1 hv).1; simpa using this
    rw [g j hj] at hv; cases hv
    exact (each ⟨j, hj⟩).choose_spec.1
end
section
variable {P : Program} {t e : TypeId} {w : World}
theorem clone_cells {z : Value} {sz by_ : Nat} (ht : P.underlying t = some (.slice e)) (hs : Sz P e sz) (hz : Zr P e z) (hb : Bts P e by_) (hzs : z.cells.size = sz) (hsz : 0 < sz) {x : Sl} {xs : List Value} (hl : xs.length = x.len * sz)
    (hx : ∀ j v, xs[j]? = some v → ∃ a, x.base = some a ∧ w.cell? (a.add j) = some v) (h1 : ∀ v ∈ xs, v.oneCell' = true) (hn : x.base.isNone = false) (hbytes : x.len * by_ ≤ 140737488355328) (hmax : x.len ≤ 4611686018427387904)
    {b2 : Nat} {w3 : World} (hb2 : b2 = w.heap.size) (hw3 : w3 = w.alloc (.cells (List.toArray []) e)) (ty : TypeId) :
    ∃ s' w', (Builtin.append_ #[t, t] ty #[.slice (some ⟨b2, 0, none⟩) 0 0, .slice x.base x.len x.cap]).run P w3 = .ok (.slice (Sl.base s') s'.len s'.cap) w' ∧ SlOk w' e sz s' xs (fun b => w.heap.size ≤ b ∧ b < w'.heap.size) ∧ s'.len = x.len ∧ Fr Non w w' := by
  have f3 : Fr Non w w3 := hw3 ▸ (Fr.refl Non w).alloc _
  have hB : Blk w3 b2 e [] := hb2 ▸ hw3 ▸ Blk.new w [] e
  have hS : SlOk w3 e sz ⟨some ⟨b2, 0, none⟩, 0, 0⟩ [] (fun b => b = b2) := .inr ⟨b2, rfl, by simp, Nat.le_refl _, 0, [], rfl, hB, by simp, by simp⟩
  obtain ⟨a, ha⟩ : ∃ a, x.base = some a := by cases hxb : x.base with
    | none => rw [hxb] at hn; cases hn
    | some a => exact ⟨a, rfl⟩
  obtain ⟨s', w', hr, hs', hlen', hf⟩ := append_own (P := P) ht hs hz hb hzs hsz hS (news := xs) (a := x.base) (m := x.len) (c := x.cap) hl (.inr ⟨a, ha, fun j u hu => by
    obtain ⟨a', ha', hc⟩ := hx j u hu
    rw [ha] at ha'; cases ha'
    exact f3.cell hc (fun h => h)⟩) h1 (by simpa using hbytes) (by simpa using hmax) ty
  refine ⟨s', w', hr, ?_, by simpa using hlen', upN f3 hf (fun g hg => by omega)⟩
  have z3 := f3.size
  rcases hs' with h | ⟨g, hg, hA⟩
  · exact .inl (by simpa using h)
  · exact .inr ⟨g, ⟨by rcases hg with h | h <;> omega, hA.lt⟩, by simpa using hA⟩
  where upN {w w1 w2 : World} {F : Nat → Prop} (h : Fr Non w w1) (k : Fr F w1 w2) (hF : ∀ g, F g → w.heap.size ≤ g) : Fr Non w w2 := h.trans k fun b hb hf => by have := hF b hf; omega
theorem push_cell {z : Value} {sz by_ : Nat} (ht : P.underlying t = some (.slice e)) (hs : Sz P e sz) (hz : Zr P e z) (hb : Bts P e by_) (hzs : z.cells.size = sz) (hsz : 0 < sz) {F : Nat → Prop} {s : Sl} {xs : List Value} (h : SlOk w e sz s xs F) {cx : List Value} (hl : cx.length = sz) (h1 : ∀ v ∈ cx, v.oneCell' = true)
    (hbytes : (s.len + 1) * by_ ≤ 140737488355328) (hmax : s.len + 1 ≤ 4611686018427387904) {b : Nat} {w1 : World} (hb1 : b = w.heap.size) (hw1 : w1 = w.alloc (.cells (List.toArray cx) e)) (hF : ∀ g, F g → g < w.heap.size) (c : Nat) (ty : TypeId) :
    ∃ s' w', (Builtin.append_ #[t, t] ty #[.slice s.base s.len s.cap, .slice (some ⟨b, 0, none⟩) 1 c]).run P w1 = .ok (.slice (Sl.base s') s'.len s'.cap) w' ∧ SlOk w' e sz s' (xs ++ cx) (fun g => (F g ∨ w.heap.size ≤ g) ∧ g < w'.heap.size) ∧ s'.len = s.len + 1 ∧ Fr F w w' := by
  have f1 : Fr Non w w1 := hw1 ▸ (Fr.refl Non w).alloc _
  have hB : Blk w1 b e cx := hb1 ▸ hw1 ▸ Blk.new w cx e
  obtain ⟨s', w', hr, hs', hlen', hf⟩ := append_own (P := P) ht hs hz hb hzs hsz (h.fr f1 (fun _ _ h => h)) (news := cx) (a := some ⟨b, 0, none⟩) (m := 1) (c := c) (by rw [hl, Nat.one_mul]) (.inr ⟨_, rfl, fun j u hu => by rw [add_mk, Nat.zero_add]; exact hB.cell hu⟩) h1 hbytes hmax ty
  have z1 := f1.size
  refine ⟨s', w', hr, ?_, hlen', (f1.mono fun b _ h => h.elim).trans' hf⟩
  rcases hs' with ⟨h1, h2, h3, h4⟩ | ⟨g, hg, hA⟩
  · omega
  · exact .inr ⟨g, ⟨by rcases hg with h | h; exact .inl h; exact .inr (by omega), hA.lt⟩, hA⟩
theorem SlOk.setv {T : TypeId} {sz : Nat} {s : Sl} {xs : List Value} {F : Nat → Prop} (h : SlOk w T sz s xs F) {j : Nat} (hj : j < xs.length) (v : Value) : ∃ a, s.base = some a ∧ F a.block ∧ (w.cell? (a.add j)).isSome = true ∧ w.frozen? (a.add j) = false ∧ SlOk (w.setCell (a.add j) v) T sz s (xs.set j v) F := by
  rcases h with ⟨_, _, _, rfl⟩ | ⟨g, hF, hA⟩
  · simp at hj
  · obtain ⟨off, cs, hb, hB, hle, htk⟩ := hA.has
    have hx := hA.len
    have hsl : s.len * sz ≤ s.cap * sz := Nat.mul_le_mul_right _ hA.le
    refine ⟨_, hb, hF, by rw [add_mk]; exact hB.isS (by omega), by rw [add_mk]; exact hB.free _, .inr ⟨g, hF, by simp [hA.len], hA.le, off, cs.set (off + j) v, hb, by rw [add_mk]; exact hB.set _ v, by simpa using hle, ?_⟩⟩
    rw [List.drop_set, if_neg (by omega), Nat.add_sub_cancel_left, List.take_set, htk]
theorem Sls.rd {α : Type} {D : Nat → Prop} {E : RP α} {T : TypeId} {s : Sl} {xs : List Value} {l : List (List α)} {F : Nat → Prop} (hS : SlOk w T 1 s xs F) (h : Sls (RdLD D 1 E) w xs l) (hF : ∀ b, F b → D b) : RdLD D 1 (RdSlD D 1 E) w s l := by
  have hl := hS.len
  have h1 := h.1
  refine ⟨by omega, fun i hi => ?_⟩
  obtain ⟨z, hz, hZ⟩ := h.2 i hi
  obtain ⟨a, ha, hc⟩ := hS.at hz
  refine ⟨a, ha, hF _ ?_, z, by rw [Nat.mul_one]; exact hc, hZ⟩
  rcases hS with ⟨hb, _⟩ | ⟨g, hg, hA⟩
  · rw [hb] at ha; cases ha
  · obtain ⟨off, cs, hb, _⟩ := hA.has
    rw [hb] at ha; cases ha; exact hg
end
def wthN {α : Type} (n : Nat) (g : List α → List α) (l : List (List α)) : List (List α) :=
  (l ++ List.replicate (n - l.length) []).set (n - 1) (g ((l ++ List.replicate (n - l.length) []).getD (n - 1) []))
theorem wthN_len {α : Type} (n : Nat) (g : List α → List α) (l : List (List α)) : (wthN n g l).length = max n l.length := by
  unfold wthN; simp; omega
end Go.V
set_option linter.unusedSimpArgs false
set_option linter.unusedVariables false
namespace Go.V
open Go.RowKit
section
variable {α : Type} {T : TypeId} {sz : Nat} {E : Nat → EP α} {w : World} {s : Sl} {l : List α} {F : Nat → Prop}
theorem cut_take {xs : List Value} {i n : Nat} (hi : i < n) : cut (xs.take (n * sz)) sz i = cut xs sz i := by
  have h1 : (i + 1) * sz ≤ n * sz := Nat.mul_le_mul_right _ hi
  rw [Nat.add_mul, Nat.one_mul] at h1
  unfold cut
  rw [List.drop_take, List.take_take, Nat.min_eq_left (by omega)]
theorem Own.take (h : Own T sz E w s l F) {n : Nat} (hn : n ≤ l.length) : Own T sz E w ⟨s.base, n, s.cap⟩ (l.take n) F := by
  obtain ⟨xs, G, o, h⟩ := h
  have hxl := h.xlen
  have hlen := h.len
  have hnm : n * sz ≤ l.length * sz := Nat.mul_le_mul_right _ hn
  have hl : (l.take n).length = n := by simp; omega
  refine ⟨xs.take (n * sz), G, o, ?_, hl.symm, h.gl, fun i hi => h.ol i (by omega), fun i j hi hj => h.dj i j (by omega) (by omega), fun i hi => ?_, fun v hv => h.one v (List.mem_of_mem_take hv)⟩
  · rcases h.ok with ⟨h1, h2, h3, h4⟩ | ⟨g, hG, hA⟩
    · have : n = 0 := by omega
      subst this
      exact .inl ⟨h1, rfl, h3, by simp [h4]⟩
    · obtain ⟨off, cs, hb, hB, hle, htk⟩ := hA.has
      have h5 := hA.le
      refine .inr ⟨g, hG, by simp; omega, by simp only; omega, off, cs, hb, hB, hle, ?_⟩
      simp only
      rw [← htk, List.take_take, Nat.min_eq_left (by rw [hlen]; exact hnm)]
  · rw [cut_take (by omega), List.getElem_take]
    exact h.el i (by omega)
end
def trimT {α : Type} (l : List (List α)) : List (List α) := (l.reverse.dropWhile List.isEmpty).reverse
theorem trimT_snoc {α : Type} (l : List (List α)) (x : List α) : trimT (l ++ [x]) = if x.isEmpty = true then trimT l else l ++ [x] := by
  unfold trimT
  rw [List.reverse_append, List.reverse_singleton, List.singleton_append, List.dropWhile_cons]
  split
  · rfl
  · simp
theorem trimT_len {α : Type} (l : List (List α)) : (trimT l).length ≤ l.length := by
  unfold trimT
  have := (List.dropWhile_sublist List.isEmpty (l := l.reverse)).length_le
  simpa using this
theorem trimT_mem {α : Type} {l : List (List α)} {x : List α} (h : x ∈ trimT l) : x ∈ l := by
  unfold trimT at h
  rw [List.mem_reverse] at h
  have := (List.dropWhile_sublist List.isEmpty (l := l.reverse)).mem h
  simpa using this
def canC (c : Cmp) : Cmp := trimT c
def canR (r : Rept) : Rept := trimT (r.map canC)
def canF (f : Fldt) : Fldt := trimT (f.map canR)
def canS (l : List Fldt) : List Fldt := trimT (l.map canF)
def canG (g : Seg) : Seg := ⟨g.name, canS g.flds⟩
def canM (l : List Seg) : List Seg := l.map canG
end Go.V
set_option linter.unusedSimpArgs false
set_option linter.unusedVariables false
namespace Go.V
open Go.RowKit
def fitsC (c : Cmp) : Bool := decide (c.length ≤ 50)
def fitsR (r : Rept) : Bool := decide (r.length ≤ 50) && r.all fitsC
def fitsF (f : Fldt) : Bool := decide (f.length ≤ 50) && f.all fitsR
def fitsG (g : Seg) : Bool := decide (g.flds.length ≤ 100) && g.flds.all fitsF
def mayB (c : Int) : Bool := !(decide (c < 33) || (decide (126 < c) || ((decide (97 ≤ c) && decide (c ≤ 122)) || ((decide (65 ≤ c) && decide (c ≤ 90)) || (decide (48 ≤ c) && decide (c ≤ 57))))))
def signsB (ds : List Int) : Bool := (List.range ds.length).all fun i => mayB (ds.getD i 0) && !(ds.take i).contains (ds.getD i 0)
def msh : Str := [77, 83, 72]
theorem allR_take {p : Nat → Bool} {n j : Nat} (hj : j < n) (h : p j = false) : (List.range n).all p = false := by
  rw [Bool.eq_false_iff]; intro ha
  have := List.all_eq_true.1 ha j (List.mem_range.2 hj)
  rw [h] at this; cases this
theorem allR_all {p : Nat → Bool} {n : Nat} (h : ∀ i, i < n → p i = true) : (List.range n).all p = true := by
  rw [List.all_eq_true]; intro i hi; exact h i (List.mem_range.1 hi)
end Go.V
set_option linter.unusedSimpArgs false
set_option linter.unusedVariables false
namespace Go.V
open Go.RowKit
theorem mem_takeWhile {α : Type} {p : α → Bool} : ∀ {l : List α} {x : α}, x ∈ l.takeWhile p → p x = true
  | a :: l, x, h => by
    rw [List.takeWhile_cons] at h
    split at h
    · rcases List.mem_cons.1 h with rfl | h
      · assumption
      · exact mem_takeWhile h
    · cases h
theorem trimT_split {α : Type} (l : List (List α)) : ∃ e : List (List α), l = trimT l ++ e ∧ ∀ x ∈ e, x.isEmpty = true := by
  refine ⟨(l.reverse.takeWhile List.isEmpty).reverse, ?_, fun x hx => mem_takeWhile (by simpa using hx)⟩
  unfold trimT
  rw [← List.reverse_append, List.takeWhile_append_dropWhile, List.reverse_reverse]
theorem trimT_at {α : Type} {l : List (List α)} {j : Nat} (hj : j < l.length) (h : l[j].isEmpty = false) : ∃ h2 : j < (trimT l).length, (trimT l)[j] = l[j] := by
  obtain ⟨e, he, hall⟩ := trimT_split l
  by_cases hlt : j < (trimT l).length
  · refine ⟨hlt, ?_⟩
    have : l[j]? = (trimT l)[j]? := by
      conv => lhs; rw [he]
      rw [List.getElem?_append_left hlt]
    rw [List.getElem?_eq_getElem hj, List.getElem?_eq_getElem hlt] at this
    exact (Option.some.inj this).symm
  · exfalso
    have : l[j]? = e[j - (trimT l).length]? := by
      conv => lhs; rw [he]
      rw [List.getElem?_append_right (by omega)]
    rw [List.getElem?_eq_getElem hj] at this
    have hm := List.mem_of_getElem? this.symm
    rw [hall _ hm] at h; cases h
theorem fitsC_can {c : Cmp} (h : fitsC c = true) : fitsC (canC c) = true := by
  unfold fitsC canC at *
  have := trimT_len c
  simp at *; omega
theorem all_trim {α β : Type} {p : List β → Bool} {g : List α → List β} {l : List (List α)} (h : l.all (fun x => p (g x)) = true) : (trimT (l.map g)).all p = true := by
  rw [List.all_eq_true]
  intro x hx
  obtain ⟨y, hy, rfl⟩ := List.mem_map.1 (trimT_mem hx)
  exact List.all_eq_true.1 h y hy
theorem trim_map_len {α β : Type} (g : List α → List β) (l : List (List α)) : (trimT (l.map g)).length ≤ l.length := by
  have := trimT_len (l.map g); simpa using this
theorem fitsR_can {r : Rept} (h : fitsR r = true) : fitsR (canR r) = true := by
  unfold fitsR canR at *
  simp only [Bool.and_eq_true, decide_eq_true_eq] at *
  have := trim_map_len canC r
  refine ⟨by omega, all_trim ?_⟩
  rw [List.all_eq_true] at *
  exact fun x hx => fitsC_can (h.2 x hx)
theorem fitsF_can {f : Fldt} (h : fitsF f = true) : fitsF (canF f) = true := by
  unfold fitsF canF at *
  simp only [Bool.and_eq_true, decide_eq_true_eq] at *
  have := trim_map_len canR f
  refine ⟨by omega, all_trim ?_⟩
  rw [List.all_eq_true] at *
  exact fun x hx => fitsR_can (h.2 x hx)
theorem fitsG_can {g : Seg} (h : fitsG g = true) : fitsG (canG g) = true := by
  unfold fitsG canG canS at *
  simp only [Bool.and_eq_true, decide_eq_true_eq] at *
  have := trim_map_len canF g.flds
  refine ⟨by omega, all_trim ?_⟩
  rw [List.all_eq_true] at *
  exact fun x hx => fitsF_can (h.2 x hx)
theorem can_one {s : Str} (h : s.isEmpty = false) : canF [[[s]]] = [[[s]]] := by
  have h1 : canC [s] = [s] := by
    unfold canC; rw [show [s] = ([] : Cmp) ++ [s] from rfl, trimT_snoc, if_neg (by rw [h]; simp)]
  have h2 : canR [[s]] = [[s]] := by
    unfold canR; rw [List.map_cons, h1, List.map_nil, show [[s]] = ([] : Rept) ++ [[s]] from rfl, trimT_snoc, if_neg (by simp)]
  unfold canF; rw [List.map_cons, h2, List.map_nil, show [[[s]]] = ([] : Fldt) ++ [[[s]]] from rfl, trimT_snoc, if_neg (by simp)]
theorem canS_at {l : List Fldt} {j : Nat} {s : Str} (hj : j < l.length) (he : l[j] = [[[s]]]) (h : s.isEmpty = false) : ∃ h2 : j < (canS l).length, (canS l)[j] = [[[s]]] := by
  unfold canS
  have hm : (l.map canF)[j]'(by simpa using hj) = [[[s]]] := by rw [List.getElem_map, he, can_one h]
  obtain ⟨h2, h3⟩ := trimT_at (l := l.map canF) (j := j) (by simpa using hj) (by rw [hm]; rfl)
  exact ⟨h2, by rw [h3, hm]⟩
end Go.V
set_option linter.unusedSimpArgs false
set_option linter.unusedVariables false
namespace Go.V
open Go.RowKit
def nth1 {α : Type} (l : List (List α)) (n : Nat) : List α := l.getD (n - 1) []
theorem nth1_map {α β : Type} (g : List α → List β) (hg : g [] = []) (l : List (List α)) (n : Nat) : nth1 (l.map g) n = g (nth1 l n) := by
  unfold nth1
  rw [List.getD_eq_getElem?_getD, List.getD_eq_getElem?_getD, List.getElem?_map]
  cases l[n - 1]? <;> simp [hg]
theorem nth1_trim {α : Type} (l : List (List α)) (n : Nat) : nth1 (trimT l) n = nth1 l n := by
  unfold nth1
  rw [List.getD_eq_getElem?_getD, List.getD_eq_getElem?_getD]
  obtain ⟨e, he, hall⟩ := trimT_split l
  by_cases h : n - 1 < (trimT l).length
  · have : l[n - 1]? = (trimT l)[n - 1]? := by
      conv => lhs; rw [he]
      rw [List.getElem?_append_left h]
    rw [this]
  · have : l[n - 1]? = e[n - 1 - (trimT l).length]? := by
      conv => lhs; rw [he]
      rw [List.getElem?_append_right (by omega)]
    rw [this, List.getElem?_eq_none (by omega)]
    cases hx : e[n - 1 - (trimT l).length]? with
    | none => rfl
    | some x =>
      have := hall x (List.mem_of_getElem? hx)
      rw [List.isEmpty_iff] at this; rw [this]; rfl
theorem trimT_last {α : Type} {l : List (List α)} (h : trimT l ≠ []) : ∃ i x, trimT l = i ++ [x] ∧ x ≠ [] := by
  unfold trimT at *
  cases hd : l.reverse.dropWhile List.isEmpty with
  | nil => rw [hd] at h; simp at h
  | cons x r =>
    refine ⟨r.reverse, x, by simp, ?_⟩
    have := List.head_dropWhile_not List.isEmpty (l := l.reverse) (by rw [hd]; simp)
    simp only [hd, List.head_cons] at this
    intro e; subst e; simp at this
theorem trimT_ext {α : Type} {l l' : List (List α)} (h : ∀ n, 1 ≤ n → nth1 l n = nth1 l' n) : trimT l = trimT l' := by
  have h2 : ∀ n, 1 ≤ n → nth1 (trimT l) n = nth1 (trimT l') n := fun n hn => by rw [nth1_trim, nth1_trim]; exact h n hn
  have len : ∀ {a b : List (List α)}, (∀ n, 1 ≤ n → nth1 (trimT a) n = nth1 (trimT b) n) → (trimT a).length ≤ (trimT b).length := by
    intro a b hab
    by_cases ha : trimT a = []
    · rw [ha]; simp
    · obtain ⟨i, x, he, hx⟩ := trimT_last ha
      have := hab (i.length + 1) (by omega)
      rw [he] at this ⊢
      unfold nth1 at this
      rw [List.getD_eq_getElem?_getD, List.getD_eq_getElem?_getD, Nat.add_sub_cancel, List.getElem?_append_right (Nat.le_refl _)] at this
      simp only [Nat.sub_self, List.getElem?_cons_zero, Option.getD_some] at this
      by_cases hlt : i.length < (trimT b).length
      · simp; omega
      · rw [List.getElem?_eq_none (by omega)] at this
        exact absurd this hx
  have hl : (trimT l).length = (trimT l').length := Nat.le_antisymm (len h2) (len fun n hn => (h2 n hn).symm)
  apply List.ext_getElem hl
  intro i h3 h4
  have := h2 (i + 1) (by omega)
  unfold nth1 at this
  rw [List.getD_eq_getElem?_getD, List.getD_eq_getElem?_getD, Nat.add_sub_cancel, List.getElem?_eq_getElem h3, List.getElem?_eq_getElem h4] at this
  exact this
theorem nth1_wth {α : Type} {n : Nat} (hn : 1 ≤ n) (g : List α → List α) (l : List (List α)) {k : Nat} (hk : 1 ≤ k) : nth1 (wthN n g l) k = if k = n then g (nth1 l n) else nth1 l k := by
  unfold nth1 wthN
  have hlen : n - 1 < (l ++ List.replicate (n - l.length) ([] : List α)).length := by simp; omega
  have hgrow : ∀ j, (l ++ List.replicate (n - l.length) ([] : List α)).getD j [] = l.getD j [] := by
    intro j
    rw [List.getD_eq_getElem?_getD, List.getD_eq_getElem?_getD]
    by_cases hj : j < l.length
    · rw [List.getElem?_append_left hj]
    · rw [List.getElem?_append_right (by omega), List.getElem?_eq_none (l := l) (by omega), List.getElem?_replicate]
      split <;> rfl
  by_cases h : k = n
  · subst h
    rw [if_pos rfl, List.getD_eq_getElem?_getD, List.getElem?_set_self hlen, hgrow]; rfl
  · rw [if_neg h, List.getD_eq_getElem?_getD, List.getElem?_set_ne (by omega), ← List.getD_eq_getElem?_getD, hgrow]
def gC (c : Cmp) (s : Nat) : Str := nth1 c s
def gR (r : Rept) (c s : Nat) : Str := gC (nth1 r c) s
def gF (f : Fldt) (r c s : Nat) : Str := gR (nth1 f r) c s
def gS (l : List Fldt) (f r c s : Nat) : Str := gF (nth1 l f) r c s
theorem canC_nil : canC [] = [] := rfl
theorem canR_nil : canR [] = [] := rfl
theorem canF_nil : canF [] = [] := rfl
theorem gC_can (c : Cmp) (s : Nat) : gC (canC c) s = gC c s := nth1_trim c s
theorem gR_can (r : Rept) (c s : Nat) : gR (canR r) c s = gR r c s := by
  unfold gR canR; rw [nth1_trim, nth1_map canC canC_nil, gC_can]
theorem gF_can (f : Fldt) (r c s : Nat) : gF (canF f) r c s = gF f r c s := by
  unfold gF canF; rw [nth1_trim, nth1_map canR canR_nil, gR_can]
theorem gS_can (l : List Fldt) (f r c s : Nat) : gS (canS l) f r c s = gS l f r c s := by
  unfold gS canS; rw [nth1_trim, nth1_map canF canF_nil, gF_can]
theorem canC_ext {c c' : Cmp} (h : ∀ s, 1 ≤ s → gC c s = gC c' s) : canC c = canC c' := trimT_ext h
theorem canR_ext {r r' : Rept} (h : ∀ c s, 1 ≤ c → 1 ≤ s → gR r c s = gR r' c s) : canR r = canR r' :=
  trimT_ext fun n hn => by rw [nth1_map canC canC_nil, nth1_map canC canC_nil]; exact canC_ext fun s hs => h n s hn hs
theorem canF_ext {f f' : Fldt} (h : ∀ r c s, 1 ≤ r → 1 ≤ c → 1 ≤ s → gF f r c s = gF f' r c s) : canF f = canF f' :=
  trimT_ext fun n hn => by rw [nth1_map canR canR_nil, nth1_map canR canR_nil]; exact canR_ext fun c s hc hs => h n c s hn hc hs
theorem canS_ext {l l' : List Fldt} (h : ∀ f r c s, 1 ≤ f → 1 ≤ r → 1 ≤ c → 1 ≤ s → gS l f r c s = gS l' f r c s) : canS l = canS l' :=
  trimT_ext fun n hn => by rw [nth1_map canF canF_nil, nth1_map canF canF_nil]; exact canF_ext fun r c s hr hc hs => h n r c s hn hr hc hs
end Go.V
set_option linter.unusedSimpArgs false
set_option linter.unusedVariables false
namespace Go.V
open Go.RowKit
section
variable {P : Program} {w : World} {B : Nat} {e : TypeId} {v : Value} {n : Nat} {xs : List Value}
theorem append_str_fp {t u ty : TypeId} {i : TypeInfo} (ht : P.underlying t = some (.slice e)) (hu : P.underlying u = some .string) (hi : P.info? e = some i) (hz : i.zero = some (.int .u8 0)) (hsize : i.size = 1) (hby : i.bytes = 1)
    (hown : w.ownsRow B e 1 v n xs) (s : ByteArray) (hbytes : n + s.size ≤ 140737488355328) (hB : B ≤ w.heap.size) :
    ∃ v' w', (Builtin.append_ #[t, u] ty #[v, .string s]).run P w = .ok v' w' ∧ w'.ownsRow B e 1 v' (n + s.size) (xs ++ Lib.strCells s) ∧ w.grownBy w' v.ownBlock ∧ ∀ g, v'.ownBlock = some g → v.ownBlock = some g ∨ w.heap.size ≤ g := by
  obtain ⟨v', w', hr, h1, h2, h3⟩ := Lib.run_append_own_string (P := P) w B t u ty e i ht hu hi hz hsize hby v n xs hown s (by unfold maxLen; omega) hbytes hB
  refine ⟨v', w', hr, h1, h2, ?_⟩
  have hxl : xs.length = n := by simpa using hown.1
  rcases hown.2 with ⟨rfl, rfl⟩ | ⟨g, cap, cur, rfl, hbg, hg, hnc, hcm, hcs, htake⟩
  · intro g hg
    rcases h1.2 with ⟨rfl, _⟩ | ⟨g', cap', cur', rfl, _, hg', _⟩
    · simp [Value.ownBlock] at hg
    · by_cases hm : s.size = 0
      · have := h3.2 ⟨rfl, hm⟩
        cases this
      · have hr2 := run_append_nil_string (P := P) w t u ty e i (.int .u8 0) ht hu hi hz s (by omega) (by omega) (by rw [hby]; omega)
        have hq := hr.symm.trans hr2
        simp only [Result.ok.injEq, Value.slice.injEq, Option.some.injEq, Addr.mk.injEq] at hq
        simp only [Value.ownBlock, Option.some.injEq] at hg
        right
        have := hq.1.1.1
        omega
  · intro g2 hg2
    by_cases hroom : n + s.size ≤ cap
    · have hr2 := Lib.run_append_room_string (P := P) w t u ty e i ht hu hi hsize g n cap cur hg s hroom (by omega)
      have hq := hr.symm.trans hr2
      simp only [Result.ok.injEq] at hq
      rw [hq.1] at hg2
      left
      simpa [Value.ownBlock] using hg2
    · have holds : ∀ j u, xs[j]? = some u → w.cell? ((⟨g, 0, none⟩ : Addr).add j) = some u := hown.cells (g := g) rfl
      have hr2 := Lib.run_append_grow_string (P := P) w t u ty e i (.int .u8 0) ht hu hi hz ⟨g, 0, none⟩ n cap xs (by rw [hsize]; simpa using hxl) holds s (by omega) (by omega) (by rw [hby]; exact growslice_fits (by omega) (by omega))
      have hq := hr.symm.trans hr2
      simp only [Result.ok.injEq] at hq
      rw [hq.1] at hg2
      right
      simp only [Value.ownBlock, Option.some.injEq] at hg2
      omega
theorem append_fp {t ty : TypeId} {i : TypeInfo} {z : Value} {sz by_ : Nat} (ht : P.underlying t = some (.slice e)) (hi : P.info? e = some i) (hz : i.zero = some z) (hsize : i.size = sz) (hby : i.bytes = by_) (hzs : z.cells.size = sz) (hsz : 0 < sz)
    (hown : w.ownsRow B e sz v n xs) (a : Addr) (m c : Nat) (news : List Value) (hl : news.length = m * sz) (hnews : ∀ j u, news[j]? = some u → w.cell? (a.add j) = some u) (h1 : ∀ u ∈ news, u.oneCell' = true) (hm : 0 < m)
    (h63 : n + m ≤ 4611686018427387904) (hbytes : (n + m) * by_ ≤ 140737488355328) (hB : B ≤ w.heap.size) :
    ∃ v' w', (Builtin.append_ #[t, t] ty #[v, .slice (some a) m c]).run P w = .ok v' w' ∧ w'.ownsRow B e sz v' (n + m) (xs ++ news) ∧ w.grownBy w' v.ownBlock ∧ ∀ g, v'.ownBlock = some g → v.ownBlock = some g ∨ w.heap.size ≤ g := by
  obtain ⟨v', w', hr, q1, q2, q3⟩ := run_append_own (P := P) w B t ty e i z sz by_ ht hi hz hsize hby hzs hsz v n xs hown a m c news hl hnews h1 (by unfold maxLen; omega) hbytes hB
  refine ⟨v', w', hr, q1, q2, ?_⟩
  subst hsize hby
  rcases hown.2 with ⟨rfl, rfl⟩ | ⟨g, cap, cur, rfl, hbg, hg, hnc, hcm, hcs, htake⟩
  · intro g hg
    have hr2 := run_append_nil (P := P) w t ty e i z ht hi hz a m c news hl hnews (by omega) (by omega) (by simp only [Nat.zero_add] at hbytes; omega)
    have hq := hr.symm.trans hr2
    simp only [Result.ok.injEq] at hq
    rw [hq.1] at hg
    simp only [Value.ownBlock, Option.some.injEq] at hg
    right; omega
  · intro g2 hg2
    by_cases hroom : n + m ≤ cap
    · have hfit : n * i.size + news.length ≤ cur.size := by rw [hl, hcs, ← Nat.add_mul]; exact Nat.mul_le_mul_right _ hroom
      have hr2 := run_append_room (P := P) w t ty e i ht hi g n cap cur hg a m c news hl hnews h1 hroom hfit
      have hq := hr.symm.trans hr2
      simp only [Result.ok.injEq] at hq
      rw [hq.1] at hg2
      left
      simpa [Value.ownBlock] using hg2
    · have holds : ∀ j u, xs[j]? = some u → w.cell? ((⟨g, 0, none⟩ : Addr).add j) = some u := hown.cells (g := g) rfl
      have hr2 := run_append_grow (P := P) w t ty e i z ht hi hz ⟨g, 0, none⟩ n cap xs hown.1 holds a m c news hl hnews (by omega) (by omega) (growslice_fits (by omega) hbytes)
      have hq := hr.symm.trans hr2
      simp only [Result.ok.injEq] at hq
      rw [hq.1] at hg2
      right
      simp only [Value.ownBlock, Option.some.injEq] at hg2
      omega
end
end Go.V
