/- What is known of memory: whole blocks; what stays; slices that are owned; appending; maps. -/
import Derived.Test.YtpkkbbdffhcpaaaDoorV2
set_option linter.unusedSimpArgs false
set_option linter.unusedVariables false
namespace Go.V
open Go.RowKit

/-- Block b is a row of cells of type T that hold these values. -/
def Blk (w : World) (b : Nat) (T : TypeId) (cs : List Value) : Prop := w.heap[b]? = some (.cells cs.toArray T (0, 0))
/-- What the blocks outside of F held they hold still; the streams are as they were. -/
structure Fr (F : Nat → Prop) (w w' : World) : Prop where
  os : w'.os = w.os
  tape : w'.tape = w.tape
  output : w'.output = w.output
  size : w.heap.size ≤ w'.heap.size
  blk : ∀ b, b < w.heap.size → ¬ F b → w'.heap[b]? = w.heap[b]?
def Non : Nat → Prop := fun _ => False

section
variable {w w' w1 w2 : World} {b : Nat} {T : TypeId} {cs : List Value} {F G : Nat → Prop}
theorem Blk.lt (h : Blk w b T cs) : b < w.heap.size := (Array.getElem?_eq_some_iff.1 h).1
theorem Blk.cell (h : Blk w b T cs) {i : Nat} {v : Value} (hi : cs[i]? = some v) : w.cell? ⟨b, i, none⟩ = some v := by
  unfold World.cell?; rw [h]; simpa using hi
theorem Blk.isS (h : Blk w b T cs) {i : Nat} (hi : i < cs.length) : (w.cell? ⟨b, i, none⟩).isSome = true := by
  rw [h.cell (List.getElem?_eq_getElem hi)]; rfl
theorem Blk.free (h : Blk w b T cs) (i : Nat) : w.frozen? ⟨b, i, none⟩ = false := by
  unfold World.frozen?; rw [h]; simp
theorem Blk.set (h : Blk w b T cs) (i : Nat) (v : Value) : Blk (w.setCell ⟨b, i, none⟩ v) b T (cs.set i v) := by
  unfold Blk at *
  simp only [World.setCell, Array.getElem?_modify, if_true, h, Option.map_some]
  simp
theorem Blk.ne (h : Blk w b T cs) {a : Addr} (hn : a.block ≠ b) (v : Value) : Blk (w.setCell a v) b T cs := by
  unfold Blk at *
  rw [Below.heap_setCell _ _ _ _ (Ne.symm hn)]; exact h
theorem Blk.alloc (h : Blk w b T cs) (o : Obj) : Blk (w.alloc o) b T cs := by
  have := h.lt; unfold Blk at *; rw [Below.heap_alloc w o b this]; exact h
theorem Blk.new (w : World) (cs : List Value) (T : TypeId) : Blk (w.alloc (.cells cs.toArray T)) w.heap.size T cs := heap_alloc_new w _
theorem Blk.drew (h : Blk w b T cs) : Blk w.drew b T cs := h
theorem Blk.ext (h : Blk w b T cs) (e : Ext w w') : Blk w' b T cs := by have := h.lt; unfold Blk at *; rw [e.2 b this]; exact h
theorem Blk.fr (h : Blk w b T cs) (e : Fr F w w') (hb : ¬ F b) : Blk w' b T cs := by have := h.lt; unfold Blk at *; rw [e.blk b this hb]; exact h
theorem Blk.ats (h : Blk w b T cs) : ∀ (l : List Value) (o i : Nat), (∀ j v, l[j]? = some v → cs[o + i + j]? = some v) → cellsAt w ⟨b, o, none⟩ i l := by
  intro l
  induction l with
  | nil => intro o i _; trivial
  | cons v l ih =>
    intro o i hl
    refine ⟨?_, ih o (i + 1) fun j u hu => ?_⟩
    · have : (⟨b, o, none⟩ : Addr).add i = ⟨b, o + i, none⟩ := by unfold Addr.add; split <;> simp_all
      rw [this]; exact h.cell (by simpa using hl 0 v rfl)
    · have := hl (j + 1) u (by simpa using hu); rw [show o + (i + 1) + j = o + i + (j + 1) from by omega]; exact this
theorem add_zero (a : Addr) : a.add 0 = a := rfl
theorem add_mk (b o n : Nat) : (⟨b, o, none⟩ : Addr).add n = ⟨b, o + n, none⟩ := by unfold Addr.add; split <;> simp_all

theorem Fr.refl (F : Nat → Prop) (w : World) : Fr F w w := ⟨rfl, rfl, rfl, Nat.le_refl _, fun _ _ _ => rfl⟩
theorem Fr.trans (h : Fr F w w1) (k : Fr G w1 w2) (hG : ∀ b, b < w.heap.size → G b → F b) : Fr F w w2 :=
  ⟨k.os.trans h.os, k.tape.trans h.tape, k.output.trans h.output, Nat.le_trans h.size k.size, fun b hb hf => (k.blk b (Nat.lt_of_lt_of_le hb h.size) (fun g => hf (hG b hb g))).trans (h.blk b hb hf)⟩
theorem Fr.trans' (h : Fr F w w1) (k : Fr F w1 w2) : Fr F w w2 := h.trans k fun _ _ h => h
theorem Fr.mono (h : Fr F w w1) (hG : ∀ b, b < w.heap.size → F b → G b) : Fr G w w1 := ⟨h.os, h.tape, h.output, h.size, fun b hb hg => h.blk b hb (fun f => hg (hG b hb f))⟩
theorem Fr.alloc (h : Fr F w w1) (o : Obj) : Fr F w (w1.alloc o) := h.trans' ⟨rfl, rfl, rfl, by simp, fun b hb _ => Below.heap_alloc w1 o b hb⟩
theorem Fr.drew (h : Fr F w w1) : Fr F w w1.drew := h.trans' ⟨rfl, rfl, rfl, Nat.le_refl _, fun _ _ _ => rfl⟩
theorem Fr.set (h : Fr F w w1) {a : Addr} (ha : a.block < w.heap.size → F a.block) (v : Value) : Fr F w (w1.setCell a v) :=
  ⟨h.os, h.tape, h.output, by simpa [World.setCell] using h.size, fun b hb hf => by rw [Below.heap_setCell _ _ _ _ (fun e => hf (by subst e; exact ha hb))]; exact h.blk b hb hf⟩
theorem Fr.ext (h : Fr Non w w1) : Ext w w1 := ⟨h.size, fun b hb => h.blk b hb (fun f => f)⟩
theorem Fr.below (h : Fr Non w w1) : Below w.heap.size w w1 := ⟨h.os, h.tape, h.output, h.size, fun b hb => h.blk b hb (fun f => f)⟩
theorem Fr.heap (h : Fr F w w1) {o : Obj} (hb : w.heap[b]? = some o) (hf : ¬ F b) : w1.heap[b]? = some o := by
  rw [h.blk b (Array.getElem?_eq_some_iff.1 hb).1 hf]; exact hb
end

/-- A new block that is filled at once. -/
theorem setCells_at {b : Nat} {T : TypeId} : ∀ (vs : List Value) (cs : List Value) (i : Nat) (w : World), Blk w b T cs → i + vs.length ≤ cs.length →
    Blk (setCells w ⟨b, 0, none⟩ i vs) b T (cs.take i ++ vs ++ cs.drop (i + vs.length)) ∧ (setCells w ⟨b, 0, none⟩ i vs).heap.size = w.heap.size ∧ (∀ c, c ≠ b → (setCells w ⟨b, 0, none⟩ i vs).heap[c]? = w.heap[c]?) ∧
      (setCells w ⟨b, 0, none⟩ i vs).os = w.os ∧ (setCells w ⟨b, 0, none⟩ i vs).tape = w.tape ∧ (setCells w ⟨b, 0, none⟩ i vs).output = w.output
  | [], cs, i, w, h, _ => by simpa [setCells] using h
  | v :: vs, cs, i, w, h, hl => by
    rw [setCells, add_mk, Nat.zero_add]
    simp only [List.length_cons] at hl
    have := setCells_at vs (cs.set i v) (i + 1) (w.setCell ⟨b, i, none⟩ v) (h.set i v) (by simp; omega)
    obtain ⟨h1, h2, h3, h4, h5, h6⟩ := this
    refine ⟨?_, by rw [h2]; simp, fun c hc => (h3 c hc).trans (Below.heap_setCell _ _ _ _ hc), h4, h5, h6⟩
    have e : (cs.set i v).take (i + 1) ++ vs ++ (cs.set i v).drop (i + 1 + vs.length) = cs.take i ++ v :: vs ++ cs.drop (i + (vs.length + 1)) := by
      have e1 : (cs.set i v).take (i + 1) = cs.take i ++ [v] := by
        rw [List.take_succ_eq_append_getElem (by simp; omega)]
        simp [List.take_set_of_le]
      rw [e1, List.drop_set_of_lt (by omega), show i + 1 + vs.length = i + (vs.length + 1) from by omega]
      simp
    rw [e] at h1; exact h1
theorem mayCells_of {w : World} {b : Nat} {T : TypeId} {cs : List Value} (h : Blk w b T cs) (i m : Nat) (hl : i + m ≤ cs.length) : mayCells w ⟨b, 0, none⟩ i m := by
  intro j h1 h2
  rw [add_mk, Nat.zero_add]
  exact ⟨h.isS (by omega), h.free j⟩
theorem Blk.setAll {w : World} {b : Nat} {T : TypeId} {cs vs : List Value} (h : Blk w b T cs) (hl : vs.length = cs.length) : Blk (setCells w ⟨b, 0, none⟩ 0 vs) b T vs := by
  have := (setCells_at vs cs 0 w h (by omega)).1
  rw [List.take_zero, List.nil_append, Nat.zero_add, List.drop_of_length_le (by omega), List.append_nil] at this; exact this
theorem Fr.setAll {F : Nat → Prop} {w w1 : World} {b : Nat} {T : TypeId} {cs vs : List Value} (hf : Fr F w w1) (h : Blk w1 b T cs) (hl : vs.length = cs.length) (hb : b < w.heap.size → F b) : Fr F w (setCells w1 ⟨b, 0, none⟩ 0 vs) := by
  obtain ⟨_, h2, h3, h4, h5, h6⟩ := setCells_at vs cs 0 w1 h (by omega)
  exact ⟨h4.trans hf.os, h5.trans hf.tape, h6.trans hf.output, by rw [h2]; exact hf.size, fun c hc hF => by
    rw [h3 c (fun e => hF (e ▸ hb (e ▸ hc)))]; exact hf.blk c hc hF⟩

/-! ### Slices -/
/-- The cells of a slice, from its beginning, as many as it has elements; its block. -/
structure SlAt (w : World) (T : TypeId) (sz : Nat) (s : Sl) (xs : List Value) (g : Nat) : Prop where
  len : xs.length = s.len * sz
  le : s.len ≤ s.cap
  has : ∃ off cs, s.base = some ⟨g, off, none⟩ ∧ Blk w g T cs ∧ off + s.cap * sz ≤ cs.length ∧ (cs.drop off).take (s.len * sz) = xs
/-- A slice that is nil, or has such cells. -/
def SlOk (w : World) (T : TypeId) (sz : Nat) (s : Sl) (xs : List Value) (F : Nat → Prop) : Prop :=
  (s.base = none ∧ s.len = 0 ∧ s.cap = 0 ∧ xs = []) ∨ ∃ g, F g ∧ SlAt w T sz s xs g

section
variable {w w' : World} {T : TypeId} {sz : Nat} {s : Sl} {xs : List Value} {F : Nat → Prop} {g : Nat}
theorem SlAt.cells (h : SlAt w T sz s xs g) {j : Nat} {v : Value} (hj : xs[j]? = some v) : ∃ off, s.base = some ⟨g, off, none⟩ ∧ w.cell? ⟨g, off + j, none⟩ = some v := by
  obtain ⟨off, cs, hb, hB, hl, ht⟩ := h.has
  refine ⟨off, hb, hB.cell ?_⟩
  rw [← ht, List.getElem?_take] at hj
  split at hj
  · rw [List.getElem?_drop] at hj; exact hj
  · cases hj
theorem SlAt.fr (h : SlAt w T sz s xs g) {G : Nat → Prop} (e : Fr G w w') (hg : ¬ G g) : SlAt w' T sz s xs g := by
  obtain ⟨off, cs, hb, hB, hl, ht⟩ := h.has
  exact ⟨h.len, h.le, off, cs, hb, hB.fr e hg, hl, ht⟩
theorem SlAt.lt (h : SlAt w T sz s xs g) : g < w.heap.size := by
  obtain ⟨off, cs, hb, hB, hl, ht⟩ := h.has; exact hB.lt
theorem SlOk.fr (h : SlOk w T sz s xs F) {G : Nat → Prop} (e : Fr G w w') (hg : ∀ g, F g → ¬ G g) : SlOk w' T sz s xs F := by
  rcases h with h | ⟨g, hF, h⟩
  · exact .inl h
  · exact .inr ⟨g, hF, h.fr e (hg g hF)⟩
theorem SlOk.mono (h : SlOk w T sz s xs F) {G : Nat → Prop} (hg : ∀ g, F g → G g) : SlOk w T sz s xs G := by
  rcases h with h | ⟨g, hF, h⟩
  · exact .inl h
  · exact .inr ⟨g, hg g hF, h⟩
theorem SlOk.len (h : SlOk w T sz s xs F) : xs.length = s.len * sz := by
  rcases h with ⟨_, h, _, rfl⟩ | ⟨g, hF, h⟩
  · rw [h]; simp
  · exact h.len
theorem SlOk.nil (w : World) (T : TypeId) (sz : Nat) (F : Nat → Prop) : SlOk w T sz ⟨none, 0, 0⟩ [] F := .inl ⟨rfl, rfl, rfl, rfl⟩
/-- A cell of it, by its number. -/
theorem SlOk.at (h : SlOk w T sz s xs F) {j : Nat} {v : Value} (hj : xs[j]? = some v) : ∃ a, s.base = some a ∧ w.cell? (a.add j) = some v := by
  rcases h with ⟨_, _, _, rfl⟩ | ⟨g, hF, h⟩
  · simp at hj
  · obtain ⟨off, hb, hc⟩ := h.cells hj
    exact ⟨_, hb, by rw [add_mk]; exact hc⟩
/-- So many cells of it, side by side. -/
theorem SlOk.ats (h : SlOk w T sz s xs F) {i m : Nat} (l : List Value) (hl : ∀ j v, l[j]? = some v → xs[i + j]? = some v) (hne : i < xs.length) : ∃ a, s.base = some a ∧ cellsAt w (a.add i) 0 l := by
  rcases h with ⟨_, _, _, rfl⟩ | ⟨g, hF, h⟩
  · simp at hne
  · obtain ⟨off, cs, hb, hB, hlen, ht⟩ := h.has
    refine ⟨_, hb, ?_⟩
    rw [add_mk]
    refine hB.ats l (off + i) 0 fun j v hv => ?_
    have := hl j v hv
    rw [← ht, List.getElem?_take] at this
    split at this
    · rw [List.getElem?_drop] at this; rw [← this]; congr 1; omega
    · cases this
end

/-! ### Appending -/
section
variable {P : Program} {w : World} {t e : TypeId} {i : TypeInfo} {z : Value}
theorem setCells_row {g : Nat} {T : TypeId} : ∀ (vs cs : List Value) (k : Nat) (off : Nat) (w : World), Blk w g T cs → off + k + vs.length ≤ cs.length → (∀ v ∈ vs, v.oneCell' = true) →
    (storeCells ⟨g, off, none⟩ vs k).run P w = .ok () (setCells w ⟨g, off, none⟩ k vs)
  | vs, cs, k, off, w, h, hl, h1 => run_storeCells' vs k w h1 (fun j h1 h2 => by
      rw [add_mk]; exact ⟨h.isS (by omega), h.free _⟩)
theorem setCells_off {b : Nat} {T : TypeId} : ∀ (vs : List Value) (cs : List Value) (o i : Nat) (w : World), Blk w b T cs → o + i + vs.length ≤ cs.length →
    Blk (setCells w ⟨b, o, none⟩ i vs) b T (cs.take (o + i) ++ vs ++ cs.drop (o + i + vs.length)) ∧ Fr (fun c => c = b) w (setCells w ⟨b, o, none⟩ i vs)
  | [], cs, o, i, w, h, _ => by simpa [setCells] using ⟨h, Fr.refl _ w⟩
  | v :: vs, cs, o, i, w, h, hl => by
    rw [setCells, add_mk]
    simp only [List.length_cons] at hl
    obtain ⟨h1, h2⟩ := setCells_off vs (cs.set (o + i) v) o (i + 1) (w.setCell ⟨b, o + i, none⟩ v) (h.set (o + i) v) (by simp; omega)
    refine ⟨?_, ((Fr.refl (fun c => c = b) w).set (a := ⟨b, o + i, none⟩) (fun _ => rfl) v).trans' h2⟩
    have e : (cs.set (o + i) v).take (o + (i + 1)) ++ vs ++ (cs.set (o + i) v).drop (o + (i + 1) + vs.length) = cs.take (o + i) ++ v :: vs ++ cs.drop (o + i + (vs.length + 1)) := by
      have e1 : (cs.set (o + i) v).take (o + (i + 1)) = cs.take (o + i) ++ [v] := by
        rw [show o + (i + 1) = (o + i) + 1 from by omega, List.take_succ_eq_append_getElem (by simp; omega)]
        simp [List.take_set_of_le]
      rw [e1, List.drop_set_of_lt (by omega), show o + (i + 1) + vs.length = o + i + (vs.length + 1) from by omega]
      simp
    rw [List.length_cons, ← e]; exact h1
theorem grown_blk {w : World} {e : TypeId} (xs : List Value) : Blk (w.drew.alloc (.cells xs.toArray e)) w.heap.size e xs := heap_alloc_new w.drew _
theorem toList_zeroCells_len (z : Array Value) (n : Nat) : (Builtin.zeroCells z n).toList.length = n * z.size := by
  have := size_zeroCells z n; simpa using this

/-- Appending to a slice of one's own whatever lies in memory (its elements as cells: news). -/
theorem run_append {s : Sl} {xs news : List Value} {F : Nat → Prop} {a : Option Addr} {m c : Nat} (ht : P.underlying t = some (.slice e)) (hi : P.info? e = some i) (hz : i.zero = some z) (hzs : z.cells.size = i.size) (hsz : 0 < i.size)
    (hs : SlOk w e i.size s xs F) (hl : news.length = m * i.size) (hnews : (a = none ∧ m = 0) ∨ ∃ ad, a = some ad ∧ ∀ j u, news[j]? = some u → w.cell? (ad.add j) = some u) (h1 : ∀ u ∈ news, u.oneCell' = true)
    (hbytes : (s.len + m) * i.bytes ≤ 140737488355328) (hmax : s.len + m ≤ 4611686018427387904) (ty : TypeId) :
    ∃ s' w', (Builtin.append_ #[t, t] ty #[.slice s.base s.len s.cap, .slice a m c]).run P w = .ok (.slice (Sl.base s') s'.len s'.cap) w' ∧
      SlOk w' e i.size s' (xs ++ news) (fun g => F g ∨ g = w.heap.size) ∧ s'.len = s.len + m ∧ Fr F w w' := by
  have hf0 : a = none ∧ m = 0 → ∀ u, (Builtin.firstCells i.size m (.slice a m c)).run P u = .ok #[] u := by
    rintro ⟨rfl, rfl⟩ u; simp [Builtin.firstCells]
  have hnil : m = 0 → news = [] := fun h => List.eq_nil_of_length_eq_zero (by rw [hl, h, Nat.zero_mul])
  have hfirst : (Builtin.firstCells i.size m (.slice a m c)).run P w = .ok news.toArray w := by
    rcases hnews with ⟨ha, hm⟩ | ⟨ad, ha, hn⟩
    · rw [hf0 ⟨ha, hm⟩, hnil hm]
    · subst ha; exact run_firstCells_some (P := P) w i.size m ad m c news hl hn
  have made : ∀ (old : List Value) (cap' : Nat), old.length = s.len * i.size → s.len + m ≤ cap' → SlOk (w.drew.alloc (.cells (old.toArray ++ news.toArray ++ Builtin.zeroCells z.cells (cap' - (s.len + m))) e)) e i.size ⟨some ⟨w.heap.size, 0, none⟩, s.len + m, cap'⟩ (old ++ news) (fun g => F g ∨ g = w.heap.size) := by
    intro old cap' ho hc
    refine .inr ⟨w.heap.size, .inr rfl, by simp [ho, hl, Nat.add_mul], hc, 0, old ++ news ++ (Builtin.zeroCells z.cells (cap' - (s.len + m))).toList, rfl, ?_, ?_, ?_⟩
    · have := grown_blk (w := w) (e := e) (old ++ news ++ (Builtin.zeroCells z.cells (cap' - (s.len + m))).toList)
      have e1 : (old ++ news ++ (Builtin.zeroCells z.cells (cap' - (s.len + m))).toList).toArray = old.toArray ++ news.toArray ++ Builtin.zeroCells z.cells (cap' - (s.len + m)) := by
        apply Array.ext'; simp
      rw [e1] at this; exact this
    · simp only [Nat.zero_add, List.length_append, ho, hl, toList_zeroCells_len, hzs]
      rw [← Nat.add_mul, ← Nat.add_mul]
      exact Nat.mul_le_mul_right _ (by omega)
    · rw [List.drop_zero, List.append_assoc, ← List.append_assoc]
      rw [show (s.len + m) * i.size = (old ++ news).length from by simp [ho, hl, Nat.add_mul]]
      exact List.take_left
  rcases hs with ⟨hb, h0, hc0, rfl⟩ | ⟨g, hF, hA⟩
  · obtain ⟨base, len, cap⟩ := s
    simp only at hb h0 hc0
    subst hb h0 hc0
    by_cases hm : m = 0
    · refine ⟨⟨none, 0, 0⟩, w, ?_, ?_, by simp [hm], Fr.refl _ _⟩
      · have hr : (Builtin.firstCells i.size m (.slice a m c)).run P w = .ok #[] w := by rw [hfirst, hnil hm]
        subst hm
        simp [Builtin.append_, run_underlying ht, sizeOf, typeInfo, hi, Builtin.lenOf, hr]
      · rw [hnil hm]; exact .inl ⟨rfl, rfl, rfl, rfl⟩
    · rcases hnews with ⟨ha, hm'⟩ | ⟨ad, ha, hn⟩
      · exact absurd hm' hm
      · subst ha
        have hr := run_append_nil (P := P) w t ty e i z ht hi hz ad m c news hl hn (by omega) (by simp only [Nat.zero_add] at hmax; omega) (by simp only [Nat.zero_add] at hbytes; omega)
        have hm2 := made [] (grownCap w m 0 e) (by simp) (by simpa using grownCap_ge w m 0 e)
        refine ⟨⟨some ⟨w.heap.size, 0, none⟩, m, grownCap w m 0 e⟩, _, hr, ?_, by simp, ((Fr.refl F w).drew).alloc _⟩
        simpa using hm2
  · obtain ⟨off, cs, hb, hB, hle, htk⟩ := hA.has
    by_cases hroom : s.len + m ≤ s.cap
    · have hlen : off + s.len * i.size + news.length ≤ cs.length := by
        rw [hl, Nat.add_assoc, ← Nat.add_mul]
        exact Nat.le_trans (Nat.add_le_add_left (Nat.mul_le_mul_right _ hroom) _) hle
      have hst := setCells_row (P := P) news cs 0 (off + s.len * i.size) w hB (by omega) h1
      obtain ⟨hB2, hfr⟩ := setCells_off news cs (off + s.len * i.size) 0 w hB (by omega)
      refine ⟨⟨s.base, s.len + m, s.cap⟩, _, ?_, .inr ⟨g, .inl hF, ?_, hroom, off, _, hb, hB2, ?_, ?_⟩, rfl, hfr.mono (fun b _ e => e ▸ hF)⟩
      · simp only [Builtin.append_, List.getElem?_toArray, List.getElem?_cons_zero, List.getElem?_cons_succ, Sem.run_bind, run_underlying ht, Result.andThen_ok, sizeOf, typeInfo, hi, run_program, Sem.run_pure, Builtin.lenOf]
        simp [hroom, hfirst, hb, add_mk, hst]
      · rw [List.length_append, hA.len, hl, Nat.add_mul]
      · simp only [List.length_append, List.length_take, List.length_drop]; omega
      · have e1 : (cs.take (off + s.len * i.size)).drop off = xs := by
          rw [List.drop_take, Nat.add_sub_cancel_left]; exact htk
        rw [Nat.add_zero, List.append_assoc, List.drop_append_of_le_length (by simp; omega), e1]
        rw [← List.append_assoc, show (s.len + m) * i.size = (xs ++ news).length from by rw [List.length_append, hA.len, hl, Nat.add_mul]]
        exact List.take_left
    · have hmpos : 0 < m := by have := hA.le; omega
      rcases hnews with ⟨ha, hm'⟩ | ⟨ad, ha, hn⟩
      · omega
      · subst ha
        have holds : ∀ j v, xs[j]? = some v → w.cell? ((⟨g, off, none⟩ : Addr).add j) = some v := by
          intro j v hv
          obtain ⟨off', hb', hc⟩ := hA.cells hv
          rw [hb] at hb'; cases hb'
          rw [add_mk]; exact hc
        have hr := run_append_grow (P := P) w t ty e i z ht hi hz ⟨g, off, none⟩ s.len s.cap xs hA.len holds ad m c news hl hn (by omega) (by omega) (growslice_fits (by omega) hbytes)
        rw [hb]
        exact ⟨⟨some ⟨w.heap.size, 0, none⟩, s.len + m, grownCap w (s.len + m) s.cap e⟩, _, hr, made xs _ hA.len (grownCap_ge w _ _ e), rfl, ((Fr.refl F w).drew).alloc _⟩
/-- The same, by facts on the type. -/
def Bts (P : Program) (t : TypeId) (b : Nat) : Prop := (P.info? t).map (·.bytes) = some b
theorem Bts.mk {t : TypeId} {b : Nat} (h : (P.info? t).map (·.bytes) = some b) : Bts P t b := h
theorem append_own {s : Sl} {xs news : List Value} {F : Nat → Prop} {a : Option Addr} {m c sz by_ : Nat} (ht : P.underlying t = some (.slice e)) (hs : Sz P e sz) (hz : Zr P e z) (hb : Bts P e by_) (hzs : z.cells.size = sz) (hsz : 0 < sz)
    (ho : SlOk w e sz s xs F) (hl : news.length = m * sz) (hnews : (a = none ∧ m = 0) ∨ ∃ ad, a = some ad ∧ ∀ j u, news[j]? = some u → w.cell? (ad.add j) = some u) (h1 : ∀ u ∈ news, u.oneCell' = true)
    (hbytes : (s.len + m) * by_ ≤ 140737488355328) (hmax : s.len + m ≤ 4611686018427387904) (ty : TypeId) :
    ∃ s' w', (Builtin.append_ #[t, t] ty #[.slice s.base s.len s.cap, .slice a m c]).run P w = .ok (.slice (Sl.base s') s'.len s'.cap) w' ∧
      SlOk w' e sz s' (xs ++ news) (fun g => F g ∨ g = w.heap.size) ∧ s'.len = s.len + m ∧ Fr F w w' := by
  unfold Sz at hs; unfold Zr at hz; unfold Bts at hb
  obtain ⟨i, hi, rfl⟩ := Option.map_eq_some_iff.1 hs
  obtain ⟨i2, hi2, hz2⟩ := Option.bind_eq_some_iff.1 hz
  obtain ⟨i3, hi3, hb3⟩ := Option.map_eq_some_iff.1 hb
  rw [hi] at hi2 hi3
  cases hi2; cases hi3; subst hb3
  exact run_append (P := P) ht hi hz2 hzs hsz ho hl hnews h1 hbytes hmax ty
/-- The bytes of a slice of one's own. -/
def bys (l : Str) : List Value := l.map fun b => .int .u8 (b.toNat : Int)
theorem SlOk.bytes {w : World} {T : TypeId} {s : Sl} {l : Str} {F : Nat → Prop} (h : SlOk w T 1 s (bys l) F) : bytesAt w s l := by
  have hlen := h.len
  simp only [bys, List.length_map, Nat.mul_one] at hlen
  rcases h with ⟨hb, _, _, hx⟩ | ⟨g, hF, h⟩
  · exact .inl ⟨hb, by simpa [bys] using hx⟩
  · obtain ⟨off, cs, hb, hB, hle, ht⟩ := h.has
    refine .inr ⟨_, hb, hlen, fun i hi => ?_⟩
    have hg : (bys l)[i]? = some (.int .u8 ((l.getD i 0).toNat : Int)) := by
      simp [bys, List.getElem?_eq_getElem (show i < l.length by omega)]
    obtain ⟨off', hb', hc⟩ := h.cells hg
    rw [hb] at hb'; cases hb'
    rw [add_mk]; exact hc
/-- The bytes of a row that was just made. -/
theorem Blk.bytes {w : World} {b : Nat} {T : TypeId} {l : Str} (h : Blk w b T (bys l)) {m c : Nat} (hm : m = l.length) : bytesAt w ⟨some ⟨b, 0, none⟩, m, c⟩ l := by
  refine .inr ⟨_, rfl, hm.symm, fun i hi => ?_⟩
  simp only at hi
  rw [add_mk, Nat.zero_add]
  refine h.cell ?_
  simp [bys, List.getElem?_eq_getElem (show i < l.length by omega)]
theorem w64_id {x : Int} (h0 : -9223372036854775808 ≤ x) (h1 : x ≤ 9223372036854775807) : IntKind.i64.wrap x = x := by rw [IntKind.wrap_i64]; omega
end
end Go.V
