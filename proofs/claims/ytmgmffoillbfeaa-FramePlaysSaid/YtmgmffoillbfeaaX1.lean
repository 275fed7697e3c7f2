/- A reader of frames in memory: what it holds, and how its fields are written. -/
import Derived.Test.YtmgmffoillbfeaaF
import Derived.Test.YtmgmffoillbfeaaV4
set_option linter.unusedSimpArgs false
set_option linter.unusedVariables false
namespace Go.Proofs.Ytmgmffoillbfeaa
open Go.V Go.RowKit

/-- What a reader holds: how long a content may be, its state, the content so far, the events that were not told, how many bytes were skipped. -/
structure RS where
  most : Int
  st : Int
  inp : Str
  evs : List (Str × Int)
  skip : Int
def evc (e : Str × Int) : List Value := [.string (mkS e.1), .int .i64 e.2]
def evcs (l : List (Str × Int)) : List Value := l.flatMap evc
theorem evcs_len (l : List (Str × Int)) : (evcs l).length = l.length * 2 := by
  induction l with
  | nil => rfl
  | cons e l ih => simp only [evcs, List.flatMap_cons, List.length_append, List.length_cons] at ih ⊢; rw [ih]; simp [evc]; omega
theorem evcs_app (l m : List (Str × Int)) : evcs (l ++ m) = evcs l ++ evcs m := by simp [evcs]

/-- Block b is a reader (a struct of type T, events of type E) that holds r; its blocks are in F. -/
def Rep (T E : TypeId) (w : World) (b : Nat) (r : RS) (F : Nat → Prop) : Prop :=
  ∃ (i e : Sl) (A B : Nat → Prop), (F b ∧ ∀ g, F g → g < w.heap.size) ∧ (∀ g, A g → F g ∧ g ≠ b ∧ ¬ B g) ∧ (∀ g, B g → F g ∧ g ≠ b) ∧
    Blk w b T [.int .i64 r.most, .int .i64 r.st, .slice i.base i.len i.cap, .slice e.base e.len e.cap, .int .i64 r.skip] ∧
    SlOk w 5 1 i (bys r.inp) A ∧ SlOk w E 2 e (evcs r.evs) B

section
variable {T E : TypeId} {w w' : World} {b : Nat} {r : RS} {F G : Nat → Prop}
theorem Rep.fr (h : Rep T E w b r F) (e : Fr G w w') (hd : ∀ g, F g → ¬ G g) : Rep T E w' b r F := by
  obtain ⟨i, ev, A, B, h1, h2, h3, h4, h5, h6⟩ := h
  exact ⟨i, ev, A, B, ⟨h1.1, fun g hg => Nat.lt_of_lt_of_le (h1.2 g hg) e.size⟩, h2, h3, h4.fr e (hd b h1.1), h5.fr e (fun g hg => hd g (h2 g hg).1), h6.fr e (fun g hg => hd g (h3 g hg).1)⟩
theorem Rep.alloc (h : Rep T E w b r F) (o : Obj) : Rep T E (w.alloc o) b r F := h.fr ((Fr.refl Non w).alloc o) (fun _ _ h => h)
theorem Rep.drew (h : Rep T E w b r F) : Rep T E w.drew b r F := h.fr ((Fr.refl Non w).drew) (fun _ _ h => h)
theorem Rep.lt (h : Rep T E w b r F) {g : Nat} (hg : F g) : g < w.heap.size := by
  obtain ⟨i, ev, A, B, h1, h2⟩ := h; exact h1.2 g hg
theorem Rep.own (h : Rep T E w b r F) : F b := by
  obtain ⟨i, ev, A, B, h1, h2⟩ := h; exact h1.1
/-- The struct, field by field. -/
theorem Rep.blk (h : Rep T E w b r F) : ∃ (i e : Sl), Blk w b T [.int .i64 r.most, .int .i64 r.st, .slice i.base i.len i.cap, .slice e.base e.len e.cap, .int .i64 r.skip] ∧ bytesAt w i r.inp ∧ i.len = r.inp.length ∧ e.len = r.evs.length := by
  obtain ⟨i, ev, A, B, h1, h2, h3, h4, h5, h6⟩ := h
  refine ⟨i, ev, h4, h5.bytes, ?_, ?_⟩
  · have := h5.len; simp [bys] at this; exact this.symm
  · have := h6.len; rw [evcs_len] at this; omega
theorem setF {w : World} (b j : Nat) (v : Value) : Fr (fun g => g = b) w (w.setCell ⟨b, j, none⟩ v) := (Fr.refl (fun g => g = b) w).set (a := ⟨b, j, none⟩) (fun _ => rfl) v
theorem size_set (w : World) (a : Addr) (v : Value) : (w.setCell a v).heap.size = w.heap.size := by simp
theorem Rep.setSt (h : Rep T E w b r F) (s : Int) : Rep T E (w.setCell ⟨b, 1, none⟩ (.int .i64 s)) b { r with st := s } F := by
  obtain ⟨i, ev, A, B, h1, h2, h3, h4, h5, h6⟩ := h
  exact ⟨i, ev, A, B, by rw [size_set]; exact h1, h2, h3, h4.set 1 _, h5.fr (setF b 1 _) (fun g hg => (h2 g hg).2.1), h6.fr (setF b 1 _) (fun g hg => (h3 g hg).2)⟩
theorem Rep.setMost (h : Rep T E w b r F) (s : Int) : Rep T E (w.setCell ⟨b, 0, none⟩ (.int .i64 s)) b { r with most := s } F := by
  obtain ⟨i, ev, A, B, h1, h2, h3, h4, h5, h6⟩ := h
  exact ⟨i, ev, A, B, by rw [size_set]; exact h1, h2, h3, h4.set 0 _, h5.fr (setF b 0 _) (fun g hg => (h2 g hg).2.1), h6.fr (setF b 0 _) (fun g hg => (h3 g hg).2)⟩
theorem Rep.setSkip (h : Rep T E w b r F) (s : Int) : Rep T E (w.setCell ⟨b, 4, none⟩ (.int .i64 s)) b { r with skip := s } F := by
  obtain ⟨i, ev, A, B, h1, h2, h3, h4, h5, h6⟩ := h
  exact ⟨i, ev, A, B, by rw [size_set]; exact h1, h2, h3, h4.set 4 _, h5.fr (setF b 4 _) (fun g hg => (h2 g hg).2.1), h6.fr (setF b 4 _) (fun g hg => (h3 g hg).2)⟩
theorem Rep.clrIn (h : Rep T E w b r F) : Rep T E (w.setCell ⟨b, 2, none⟩ (.slice none 0 0)) b { r with inp := [] } F := by
  obtain ⟨i, ev, A, B, h1, h2, h3, h4, h5, h6⟩ := h
  exact ⟨⟨none, 0, 0⟩, ev, A, B, by rw [size_set]; exact h1, h2, h3, h4.set 2 _, SlOk.nil _ _ _ _, h6.fr (setF b 2 _) (fun g hg => (h3 g hg).2)⟩
theorem Rep.clrEv (h : Rep T E w b r F) : Rep T E (w.setCell ⟨b, 3, none⟩ (.slice none 0 0)) b { r with evs := [] } F := by
  obtain ⟨i, ev, A, B, h1, h2, h3, h4, h5, h6⟩ := h
  exact ⟨i, ⟨none, 0, 0⟩, A, B, by rw [size_set]; exact h1, h2, h3, h4.set 3 _, h5.fr (setF b 3 _) (fun g hg => (h2 g hg).2.1), SlOk.nil _ _ _ _⟩
/-- A row of one event, just made, is laid for the list. -/
theorem Rep.oneEv (h : Rep T E w b r F) (e : Str × Int) {g : Nat} (hg : Blk w g E (evc e)) (hF : ¬ F g) : Rep T E (w.setCell ⟨b, 3, none⟩ (.slice (some ⟨g, 0, none⟩) 1 1)) b { r with evs := [e] } (fun x => F x ∨ x = g) := by
  obtain ⟨i, ev, A, B, h1, h2, h3, h4, h5, h6⟩ := h
  have hgb : g ≠ b := fun e => hF (e ▸ h1.1)
  refine ⟨i, ⟨some ⟨g, 0, none⟩, 1, 1⟩, A, fun x => x = g, ⟨.inl h1.1, fun x hx => ?_⟩, fun x hx => ⟨.inl (h2 x hx).1, (h2 x hx).2.1, fun e => hF (e ▸ (h2 x hx).1)⟩, fun x hx => ⟨.inr hx, hx ▸ hgb⟩, h4.set 3 _, h5.fr (setF b 3 _) (fun g hg => (h2 g hg).2.1), ?_⟩
  · rw [size_set]; rcases hx with hx | rfl
    · exact h1.2 x hx
    · exact hg.lt
  · refine .inr ⟨g, rfl, by simp [evcs, evc], Nat.le_refl _, 0, _, rfl, hg.fr (setF b 3 _) hgb, by simp [evc], by simp [evcs, evc]⟩
end
/-- The same with its slices named. -/
structure RepX (T E : TypeId) (w : World) (b : Nat) (r : RS) (i e : Sl) (A B F : Nat → Prop) : Prop where
  own : F b
  lt : ∀ g, F g → g < w.heap.size
  hA : ∀ g, A g → F g ∧ g ≠ b ∧ ¬ B g
  hB : ∀ g, B g → F g ∧ g ≠ b
  blk : Blk w b T [.int .i64 r.most, .int .i64 r.st, .slice i.base i.len i.cap, .slice e.base e.len e.cap, .int .i64 r.skip]
  inp : SlOk w 5 1 i (bys r.inp) A
  evs : SlOk w E 2 e (evcs r.evs) B
theorem SlOk.restrict {w : World} {T : TypeId} {sz : Nat} {s : Sl} {xs : List Value} {F : Nat → Prop} (h : SlOk w T sz s xs F) : SlOk w T sz s xs (fun g => F g ∧ g < w.heap.size) := by
  rcases h with h | ⟨g, hF, h⟩
  · exact .inl h
  · exact .inr ⟨g, ⟨hF, h.lt⟩, h⟩
section
variable {T E : TypeId} {w w' : World} {b : Nat} {r : RS} {i e : Sl} {A B F G : Nat → Prop}
theorem Rep.x (h : Rep T E w b r F) : ∃ i e A B, RepX T E w b r i e A B F := by
  obtain ⟨i, ev, A, B, h1, h2, h3, h4, h5, h6⟩ := h; exact ⟨i, ev, A, B, h1.1, h1.2, h2, h3, h4, h5, h6⟩
theorem RepX.rep (h : RepX T E w b r i e A B F) : Rep T E w b r F := ⟨i, e, A, B, ⟨h.own, h.lt⟩, h.hA, h.hB, h.blk, h.inp, h.evs⟩
theorem RepX.fr (h : RepX T E w b r i e A B F) (f : Fr G w w') (hd : ∀ g, F g → ¬ G g) : RepX T E w' b r i e A B F :=
  ⟨h.own, fun g hg => Nat.lt_of_lt_of_le (h.lt g hg) f.size, h.hA, h.hB, h.blk.fr f (hd b h.own), h.inp.fr f (fun g hg => hd g (h.hA g hg).1), h.evs.fr f (fun g hg => hd g (h.hB g hg).1)⟩
theorem RepX.alloc (h : RepX T E w b r i e A B F) (o : Obj) : RepX T E (w.alloc o) b r i e A B F := h.fr ((Fr.refl Non w).alloc o) (fun _ _ h => h)
theorem RepX.drew (h : RepX T E w b r i e A B F) : RepX T E w.drew b r i e A B F := h.fr ((Fr.refl Non w).drew) (fun _ _ h => h)
theorem RepX.ilen (h : RepX T E w b r i e A B F) : i.len = r.inp.length := by have := h.inp.len; simp [bys] at this; exact this.symm
theorem RepX.elen (h : RepX T E w b r i e A B F) : e.len = r.evs.length := by have := h.evs.len; rw [evcs_len] at this; omega
/-- A byte is appended to the content. -/
theorem RepX.pushIn (h : RepX T E w b r i e A B F) (c : UInt8) {g : Nat} (hg : Blk w g 5 [.int .u8 (c.toNat : Int)]) (hb : r.inp.length ≤ 100000) :
    ∃ s w', (Builtin.append_ #[36, 36] 36 #[.slice i.base i.len i.cap, .slice (some ⟨g, 0, none⟩) 1 1]).run Try.prog w = .ok (.slice (Sl.base s) s.len s.cap) w' ∧ (∃ s' e', Blk w' b T [.int .i64 r.most, .int .i64 r.st, s', e', .int .i64 r.skip]) ∧ Fr F w w' ∧
      Rep T E (w'.setCell ⟨b, 2, none⟩ (.slice s.base s.len s.cap)) b { r with inp := r.inp ++ [c] } (fun g => (F g ∨ g = w.heap.size) ∧ g < w'.heap.size) := by
  have hl := h.ilen
  obtain ⟨s, w', hr, hs, hlen, hf⟩ := append_own (P := Try.prog) (t := 36) (e := 5) (sz := 1) (z := .int .u8 0) (by_ := 1) tU36 tS5 (Zr.mk (by kernel_rfl)) (Bts.mk (by kernel_rfl)) rfl (by decide) h.inp (news := [.int .u8 (c.toNat : Int)]) (a := some ⟨g, 0, none⟩) (m := 1) (c := 1) rfl
    (.inr ⟨_, rfl, fun j u hu => by rw [add_mk, Nat.zero_add]; exact hg.cell hu⟩) (by simp [Value.oneCell']) (by omega) (by omega) 36
  have hbA : ¬ A b := fun ha => (h.hA b ha).2.1 rfl
  have hblk := h.blk.fr hf hbA
  have hfF : Fr F w w' := hf.mono (fun g _ hg => (h.hA g hg).1)
  have hup : ∀ x, F x → x < w'.heap.size := fun x hx => Nat.lt_of_lt_of_le (h.lt x hx) hf.size
  refine ⟨s, w', hr, ⟨_, _, hblk⟩, hfF, s, e, (fun g => (A g ∨ g = w.heap.size) ∧ g < w'.heap.size), B, ⟨⟨.inl h.own, hup b h.own⟩, fun x hx => by rw [size_set]; exact hx.2⟩, ?_, fun x hx => ⟨⟨.inl (h.hB x hx).1, hup x (h.hB x hx).1⟩, (h.hB x hx).2⟩, hblk.set 2 _, ?_, ?_⟩
  · rintro x ⟨hx, hlt⟩
    rcases hx with hx | rfl
    · exact ⟨⟨.inl (h.hA x hx).1, hlt⟩, (h.hA x hx).2⟩
    · exact ⟨⟨.inr rfl, hlt⟩, fun e => by have := h.lt b h.own; omega, fun hB => by have := h.lt _ (h.hB _ hB).1; omega⟩
  · have := (SlOk.restrict hs).fr (setF b 2 (.slice s.base s.len s.cap)) (fun g hg => by
      rcases hg.1 with hg | rfl
      · exact (h.hA g hg).2.1
      · intro e; have := h.lt b h.own; omega)
    simpa [bys] using this
  · exact (h.evs.fr hf (fun g hg ha => (h.hA g ha).2.2 hg)).fr (setF b 2 _) (fun g hg => (h.hB g hg).2)
/-- An event is appended to the list: for the program's reader and for the document's. -/
theorem RepX.pushEv' {t : TypeId} (ht : Try.prog.underlying t = some (.slice E)) (hs : Sz Try.prog E 2) (hz : Zr Try.prog E (.agg (List.toArray [.string (mkS []), .int .i64 0]))) (hby : Bts Try.prog E 24)
    (h : RepX T E w b r i e A B F) (x : Str × Int) {g : Nat} (hg : Blk w g E (evc x)) (hb : r.evs.length ≤ 1000000000000) :
    ∃ s w', (Builtin.append_ #[t, t] t #[.slice e.base e.len e.cap, .slice (some ⟨g, 0, none⟩) 1 1]).run Try.prog w = .ok (.slice (Sl.base s) s.len s.cap) w' ∧ (∃ s' e', Blk w' b T [.int .i64 r.most, .int .i64 r.st, s', e', .int .i64 r.skip]) ∧ Fr F w w' ∧
      Rep T E (w'.setCell ⟨b, 3, none⟩ (.slice s.base s.len s.cap)) b { r with evs := r.evs ++ [x] } (fun g => (F g ∨ g = w.heap.size) ∧ g < w'.heap.size) := by
  have hl := h.elen
  obtain ⟨s, w', hr, hs, hlen, hf⟩ := append_own (P := Try.prog) (t := t) (e := E) (sz := 2) (by_ := 24) ht hs hz hby rfl (by decide) h.evs (news := evc x) (a := some ⟨g, 0, none⟩) (m := 1) (c := 1) rfl
    (.inr ⟨_, rfl, fun j u hu => by rw [add_mk, Nat.zero_add]; exact hg.cell hu⟩) (by simp [evc, Value.oneCell']) (by omega) (by omega) t
  have hbB : ¬ B b := fun ha => (h.hB b ha).2 rfl
  have hblk := h.blk.fr hf hbB
  have hfF : Fr F w w' := hf.mono (fun g _ hg => (h.hB g hg).1)
  have hup : ∀ x, F x → x < w'.heap.size := fun x hx => Nat.lt_of_lt_of_le (h.lt x hx) hf.size
  refine ⟨s, w', hr, ⟨_, _, hblk⟩, hfF, i, s, A, (fun g => (B g ∨ g = w.heap.size) ∧ g < w'.heap.size), ⟨⟨.inl h.own, hup b h.own⟩, fun x hx => by rw [size_set]; exact hx.2⟩, ?_, ?_, hblk.set 3 _, ?_, ?_⟩
  · intro x hx
    refine ⟨⟨.inl (h.hA x hx).1, hup x (h.hA x hx).1⟩, (h.hA x hx).2.1, ?_⟩
    rintro ⟨hx2 | rfl, _⟩
    · exact (h.hA x hx).2.2 hx2
    · have := h.lt _ (h.hA _ hx).1; omega
  · rintro x ⟨hx | rfl, hlt⟩
    · exact ⟨⟨.inl (h.hB x hx).1, hlt⟩, (h.hB x hx).2⟩
    · exact ⟨⟨.inr rfl, hlt⟩, fun e => by have := h.lt b h.own; omega⟩
  · exact (h.inp.fr hf (fun g hg hb => (h.hA g hg).2.2 hb)).fr (setF b 3 _) (fun g hg => (h.hA g hg).2.1)
  · have := (SlOk.restrict hs).fr (setF b 3 (.slice s.base s.len s.cap)) (fun g hg => by
      rcases hg.1 with hg | rfl
      · exact (h.hB g hg).2
      · intro e; have := h.lt b h.own; omega)
    rw [evcs_app]; simpa [evcs] using this
theorem RepX.pushEv (h : RepX T 67 w b r i e A B F) (x : Str × Int) {g : Nat} (hg : Blk w g 67 (evc x)) (hb : r.evs.length ≤ 1000000000000) :
    ∃ s w', (Builtin.append_ #[43, 43] 43 #[.slice e.base e.len e.cap, .slice (some ⟨g, 0, none⟩) 1 1]).run Try.prog w = .ok (.slice (Sl.base s) s.len s.cap) w' ∧ (∃ s' e', Blk w' b T [.int .i64 r.most, .int .i64 r.st, s', e', .int .i64 r.skip]) ∧ Fr F w w' ∧
      Rep T 67 (w'.setCell ⟨b, 3, none⟩ (.slice s.base s.len s.cap)) b { r with evs := r.evs ++ [x] } (fun g => (F g ∨ g = w.heap.size) ∧ g < w'.heap.size) :=
  RepX.pushEv' (by kernel_rfl) (Sz.mk (by kernel_rfl)) (Zr.mk (by kernel_rfl)) (Bts.mk (by kernel_rfl)) h x hg hb
theorem RepX.pushEv2 (h : RepX T 74 w b r i e A B F) (x : Str × Int) {g : Nat} (hg : Blk w g 74 (evc x)) (hb : r.evs.length ≤ 1000000000000) :
    ∃ s w', (Builtin.append_ #[50, 50] 50 #[.slice e.base e.len e.cap, .slice (some ⟨g, 0, none⟩) 1 1]).run Try.prog w = .ok (.slice (Sl.base s) s.len s.cap) w' ∧ (∃ s' e', Blk w' b T [.int .i64 r.most, .int .i64 r.st, s', e', .int .i64 r.skip]) ∧ Fr F w w' ∧
      Rep T 74 (w'.setCell ⟨b, 3, none⟩ (.slice s.base s.len s.cap)) b { r with evs := r.evs ++ [x] } (fun g => (F g ∨ g = w.heap.size) ∧ g < w'.heap.size) :=
  RepX.pushEv' (by kernel_rfl) (Sz.mk (by kernel_rfl)) (Zr.mk (by kernel_rfl)) (Bts.mk (by kernel_rfl)) h x hg hb
/-- The first event is taken off the list. -/
theorem RepX.popEv (h : RepX T E w b r i e A B F) {x : Str × Int} {l : List (Str × Int)} (hr : r.evs = x :: l) :
    (∃ a, e.base = some a ∧ cellsAt w a 0 (evc x)) ∧ Rep T E (w.setCell ⟨b, 3, none⟩ (.slice (slS e 2 1 e.len).base (slS e 2 1 e.len).len (slS e 2 1 e.len).cap)) b { r with evs := l } F := by
  have hev := h.evs
  rw [hr] at hev
  have hxs : evcs (x :: l) = evc x ++ evcs l := rfl
  have hlen : e.len = l.length + 1 := by have := h.elen; rw [hr] at this; simpa using this
  constructor
  · obtain ⟨a, ha, hc⟩ := hev.ats (i := 0) (m := 2) (evc x) (fun j v hv => by rw [Nat.zero_add, hxs, List.getElem?_append_left (List.getElem?_eq_some_iff.1 hv).1]; exact hv) (by rw [evcs_len]; simp)
    exact ⟨a, ha, hc⟩
  · refine ⟨i, slS e 2 1 e.len, A, B, ⟨h.own, fun g hg => by rw [size_set]; exact h.lt g hg⟩, h.hA, h.hB, h.blk.set 3 _, h.inp.fr (setF b 3 _) (fun g hg => (h.hA g hg).2.1), ?_⟩
    rcases hev with ⟨_, h0, _⟩ | ⟨g, hg, hA⟩
    · omega
    · obtain ⟨off, cs, hb, hB, hle, ht⟩ := hA.has
      have hcap := hA.le
      refine .inr ⟨g, hg, ?_, ?_, ?_⟩
      · rw [evcs_len]; simp [slS, hlen]
      · simp only [slS]; omega
      · have hcs : (cs.drop (off + 2)).take (l.length * 2) = evcs l := by
          have h2 := congrArg (fun q => q.drop 2) ht
          simp only [hxs] at h2
          rw [List.drop_append_of_le_length (by simp [evc]), show (evc x).drop 2 = [] from rfl, List.nil_append, List.drop_take, List.drop_drop, hlen] at h2
          rw [← h2]; congr 1; omega
        by_cases hc1 : e.cap = 1
        · refine ⟨off, cs, ?_, hB.fr (setF b 3 _) (h.hB g hg).2, ?_, ?_⟩
          · simp [slS, hc1, hb]
          · simp only [slS]; omega
          · have : l = [] := List.eq_nil_of_length_eq_zero (by omega)
            subst this; simp [slS, hlen, evcs]
        · refine ⟨off + 2, cs, ?_, hB.fr (setF b 3 _) (h.hB g hg).2, ?_, ?_⟩
          · simp [slS, hc1, hb, add_mk]
          · simp only [slS]; omega
          · simp only [slS]
            rw [show (((e.len : Int)).toNat - (1 : Int).toNat) = l.length from by omega]; exact hcs
end
end Go.Proofs.Ytmgmffoillbfeaa
