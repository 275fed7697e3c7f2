/- The document's own reader. -/
import Derived.Test.YtmgmffoillbfeaaXA
set_option linter.unusedSimpArgs false
set_option linter.unusedVariables false
namespace Go.Proofs.Ytmgmffoillbfeaa
open Go.V Go.RowKit

/-- An event of the document's reader. -/
def qev (r : RS) (t : Str) (n s : Int) : RS := { r with evs := r.evs ++ [(t, n)], inp := [], st := s }
/-- A byte comes to the document's reader. -/
def qstp (r : RS) (c : UInt8) : RS :=
  if r.st = 0 then (if c = 11 then { r with st := 1 } else { r with skip := r.skip + 1 })
  else if r.st = 1 then
    (if c = 11 then qev r [] 1 1 else if c = 28 then { r with st := 2 }
     else if r.most < (r.inp.length : Int) + 1 then { r with inp := [], st := 3 } else { r with inp := r.inp ++ [c] })
  else if r.st = 2 ∨ r.st = 4 then
    (if c = 13 ∧ ¬ r.st = 4 then qev r r.inp 0 0
     else if c = 13 then qev r [] 2 0
     else if c = 11 then qev r [] (if r.st = 4 then 2 else 1) 1
     else { qev r [] (if r.st = 4 then 2 else 1) 0 with skip := r.skip + 1 })
  else (if c = 11 then qev r [] 2 1 else if c = 28 then { r with st := 4 } else r)
def qfd (r : RS) (s : Str) : RS := s.foldl qstp r
/-- The two readers are alike. -/
structure Like (r q : RS) : Prop where
  st : q.st = r.st
  evs : q.evs = r.evs
  skip : q.skip = r.skip
  most : q.most = lim r.most
  inp : (r.st = 1 ∨ r.st = 2) → q.inp = r.inp
  out : (r.st = 0 ∨ r.st = 3 ∨ r.st = 4) → q.inp = []
theorem Like.stp {r q : RS} (h : Like r q) (ho : Ok r) (c : UInt8) : Like (stp r c) (qstp q c) := by
  obtain ⟨most, st, inp, evs, skip⟩ := r
  obtain ⟨qm, qs, qi, qe, qk⟩ := q
  obtain ⟨h1, h2, h3, h4, h5, h6⟩ := h
  obtain ⟨o1, o2, o3, o4⟩ := ho
  simp only at h1 h2 h3 h4 h5 h6 o1 o2 o3 o4
  subst h1 h2 h3 h4
  have hs : qs = 0 ∨ qs = 1 ∨ qs = 2 ∨ qs = 3 ∨ qs = 4 := by omega
  have hc : c = 11 ∨ c = 28 ∨ c = 13 ∨ (c ≠ 11 ∧ c ≠ 28 ∧ c ≠ 13) := by
    by_cases e1 : c = 11
    · exact .inl e1
    by_cases e2 : c = 28
    · exact .inr (.inl e2)
    by_cases e3 : c = 13
    · exact .inr (.inr (.inl e3))
    · exact .inr (.inr (.inr ⟨e1, e2, e3⟩))
  rcases hs with rfl | rfl | rfl | rfl | rfl
  · have := h6 (.inl rfl); subst this
    rcases hc with rfl | rfl | rfl | ⟨e1, e2, e3⟩ <;> constructor <;> simp_all [Ytmgmffoillbfeaa.stp, qstp, qev]
  · have := h5 (.inl rfl); subst this
    rcases hc with rfl | rfl | rfl | ⟨e1, e2, e3⟩
    · constructor <;> simp [Ytmgmffoillbfeaa.stp, qstp, qev]
    · constructor <;> simp [Ytmgmffoillbfeaa.stp, qstp, qev]
    · by_cases hl : (qi.length : Int) = lim most
      · have hl2 : lim most < lim most + 1 := by omega
        constructor <;> simp [Ytmgmffoillbfeaa.stp, qstp, qev, hl, hl2]
      · have hl2 : ¬ lim most < (qi.length : Int) + 1 := by omega
        constructor <;> simp [Ytmgmffoillbfeaa.stp, qstp, qev, hl, hl2]
    · by_cases hl : (qi.length : Int) = lim most
      · have hl2 : lim most < lim most + 1 := by omega
        constructor <;> simp [Ytmgmffoillbfeaa.stp, qstp, qev, hl, hl2, e1, e2]
      · have hl2 : ¬ lim most < (qi.length : Int) + 1 := by omega
        constructor <;> simp [Ytmgmffoillbfeaa.stp, qstp, qev, hl, hl2, e1, e2]
  · have := h5 (.inr rfl); subst this
    rcases hc with rfl | rfl | rfl | ⟨e1, e2, e3⟩ <;> constructor <;> simp_all [Ytmgmffoillbfeaa.stp, qstp, qev]
  · have := h6 (.inr (.inl rfl)); subst this
    rcases hc with rfl | rfl | rfl | ⟨e1, e2, e3⟩ <;> constructor <;> simp_all [Ytmgmffoillbfeaa.stp, qstp, qev]
  · have := h6 (.inr (.inr rfl)); subst this
    rcases hc with rfl | rfl | rfl | ⟨e1, e2, e3⟩ <;> constructor <;> simp_all [Ytmgmffoillbfeaa.stp, qstp, qev]
theorem Like.fd : ∀ (s : Str) {r q : RS}, Like r q → Ok r → Like (fd r s) (qfd q s)
  | [], r, q, h, _ => h
  | c :: s, r, q, h, ho => Like.fd s (h.stp ho c) (ho.stp c).1
/-- The document's reader is reset. -/
def qrst (r : RS) : RS := if r.st = 1 ∨ r.st = 2 then qev { r with evs := [] } [] 1 0 else if r.st = 3 ∨ r.st = 4 then qev { r with evs := [] } [] 2 0 else { r with evs := [] }
theorem Like.rst {r q : RS} (h : Like r q) (ho : Ok r) : Like (rst r) (qrst q) := by
  obtain ⟨most, st, inp, evs, skip⟩ := r
  obtain ⟨qm, qs, qi, qe, qk⟩ := q
  obtain ⟨h1, h2, h3, h4, h5, h6⟩ := h
  obtain ⟨o1, o2, o3, o4⟩ := ho
  simp only at h1 h2 h3 h4 h5 h6 o1 o2 o3 o4
  subst h1 h2 h3 h4
  have hs : qs = 0 ∨ qs = 1 ∨ qs = 2 ∨ qs = 3 ∨ qs = 4 := by omega
  rcases hs with rfl | rfl | rfl | rfl | rfl <;> constructor <;> simp_all [Ytmgmffoillbfeaa.rst, qrst, qev]
section
variable {w : World} {k : Value → World → Prop} {b : Nat} {r : RS} {F : Nat → Prop}
theorem Rep.c2 {T E : TypeId} (h : Rep T E w b r F) : ∃ i e : Sl, Blk w b T [.int .i64 r.most, .int .i64 r.st, .slice i.base i.len i.cap, .slice e.base e.len e.cap, .int .i64 r.skip] := by
  obtain ⟨i, e, h, _⟩ := h.blk; exact ⟨i, e, h⟩
theorem qnew_spec (m : Int) (hk : ∀ w', Rep 52 74 w' w.heap.size (rnew (lim m)) (fun g => g = w.heap.size) → Fr Non w w' → k (.pointer (some ⟨w.heap.size, 0, none⟩)) w') : Cl Try.prog 18 [.int .i64 m] w k := by
  refine f18_ok ?_
  unfold f18
  refine ⟨fun v w' => v = lim m ∧ w' = w, ?_, fun v w' => v = decide (m < 1 ∨ 32768 < m) ∧ w' = w, ?_, fun h => ⟨by have := of_decide_eq_true h; simp [this], rfl⟩, fun h => ⟨by have := of_decide_eq_false h; simp [this], rfl⟩⟩
  · rintro v w' ⟨rfl, rfl⟩ b8 w9 rfl hw9
    subst hw9
    exact hk _ (Rep.mk' w' 52 74 (lim m)) ((Fr.refl Non w').alloc _)
  · rintro v w' ⟨rfl, rfl⟩
    refine ⟨fun h => ⟨?_, rfl⟩, fun h => ⟨?_, rfl⟩⟩
    · have h := of_decide_eq_true h; simp [lim, h]
    · have h := of_decide_eq_false h; simp [lim, h]
theorem qinside_spec (h : Rep 52 74 w b r F) (hk : k (.bool (r.st != 0)) w) : Cl Try.prog 24 [.pointer (some ⟨b, 0, none⟩)] w k := by
  obtain ⟨i, e, hb⟩ := h.c2
  refine f24_ok ?_
  unfold f24
  exact ⟨_, rfl, _, by rw [add_mk]; exact hb.cell rfl, hk⟩
theorem qskip_spec (h : Rep 52 74 w b r F) (h0 : 0 ≤ r.skip) (h1 : r.skip ≤ 1000000000000) (hk : ∀ w', Rep 52 74 w' b { r with skip := r.skip + 1 } F → Fr F w w' → k (.tuple #[]) w') : Cl Try.prog 35 [.pointer (some ⟨b, 0, none⟩)] w k := by
  obtain ⟨i, e, hb⟩ := h.c2
  refine f35_ok ?_
  unfold f35
  refine ⟨_, rfl, _, by rw [add_mk]; exact hb.cell rfl, _, rfl, by rw [add_mk]; exact hb.isS (by simp), by rw [add_mk]; exact hb.free 4, ?_⟩
  rintro w5 rfl
  rw [add_mk, w64_id (by omega) (by omega)]
  exact hk _ (h.setSkip _) ((Fr.refl F w).set (a := ⟨b, 0 + 4, none⟩) (fun _ => h.own) _)
theorem qevent_spec (t : Str) (n s : Int) (h : Rep 52 74 w b r F) (hn : r.evs.length ≤ 1000000000000) (hk : ∀ w' F', Rep 52 74 w' b (qev r t n s) F' → Fr F w w' → (∀ g, F' g → F g ∨ w.heap.size ≤ g) → k (.tuple #[]) w') : Cl Try.prog 33 [.pointer (some ⟨b, 0, none⟩), .string (mkS t), .int .i64 n, .int .i64 s] w k := by
  refine f33_ok ?_
  unfold f33
  obtain ⟨i, e, A, B, hx⟩ := h.x
  have hown := h.own
  refine ⟨_, rfl, e, by rw [add_mk]; exact hx.blk.cell rfl, ?_⟩
  rintro b7 w8 rfl rfl
  obtain ⟨s', w9, hr, ⟨x1, x2, hb9⟩, hf9, hR9⟩ := (hx.alloc (.cells (List.toArray [.string (mkS t), .int .i64 n]) 74)).pushEv2 (t, n) (Blk.new _ _ _) hn
  refine ⟨s', w9, hr, _, rfl, by rw [add_mk]; exact hb9.isS (by simp), by rw [add_mk]; exact hb9.free 3, ?_⟩
  rintro w12 rfl
  rw [add_mk]
  have f0 : Fr F w (w.alloc (.cells (List.toArray [.string (mkS t), .int .i64 n]) 74)) := (Fr.refl F w).alloc _
  have f9 : Fr F w w9 := f0.trans' hf9
  have f12 : Fr F w (w9.setCell ⟨b, 0 + 3, none⟩ (.slice s'.base s'.len s'.cap)) := f9.set (a := ⟨b, 0 + 3, none⟩) (fun _ => hown) _
  obtain ⟨i2, e2, hb12⟩ := hR9.c2
  refine ⟨_, rfl, by rw [add_mk]; exact hb12.isS (by simp), by rw [add_mk]; exact hb12.free 2, ?_⟩
  rintro w14 rfl
  rw [add_mk]
  have hR14 := hR9.clrIn
  obtain ⟨i3, e3, hb14⟩ := hR14.c2
  refine ⟨_, rfl, by rw [add_mk]; exact hb14.isS (by simp), by rw [add_mk]; exact hb14.free 1, ?_⟩
  rintro w16 rfl
  rw [add_mk]
  have hR16 := hR14.setSt s
  refine hk _ _ hR16 ((f12.set (a := ⟨b, 0 + 2, none⟩) (fun _ => hown) _).set (a := ⟨b, 0 + 1, none⟩) (fun _ => hown) _) ?_
  rintro g ⟨hg | hg, _⟩
  · exact .inl hg
  · exact .inr (by simp at hg; omega)
theorem qnext_spec (h : Rep 52 74 w b r F) (hk : ∀ w', Rep 52 74 w' b { r with evs := r.evs.tail } F → Fr F w w' → k (nxt r.evs) w') : Cl Try.prog 21 [.pointer (some ⟨b, 0, none⟩)] w k := by
  refine f21_ok ?_
  unfold f21
  obtain ⟨i, e, A, B, hx⟩ := h.x
  have hel := hx.elen
  refine ⟨_, rfl, e, by rw [add_mk]; exact hx.blk.cell rfl, fun h0 => ?_, fun h0 => ?_⟩
  · have hev : r.evs = [] := List.eq_nil_of_length_eq_zero (by simp at h0; omega)
    have er : ({ r with evs := r.evs.tail } : RS) = r := by cases r; simp at hev; simp [hev]
    have := hk w (by rw [er]; exact h) (Fr.refl _ _)
    rw [hev] at this; exact this
  obtain ⟨x, l, hev⟩ : ∃ x l, r.evs = x :: l := by
    cases hr : r.evs with
    | nil => rw [hr] at hel; simp at hel h0; omega
    | cons x l => exact ⟨x, l, rfl⟩
  obtain ⟨⟨a, ha, hcell⟩, _⟩ := hx.popEv hev
  have hlen : e.len = l.length + 1 := by rw [hel, hev]; rfl
  refine ⟨_, rfl, e, by rw [add_mk]; exact hx.blk.cell rfl, a, ha, ⟨by omega, by omega⟩, x.1, x.2, hcell, ?_⟩
  rintro b9 w10 rfl rfl
  have hn := Blk.new w [.string (mkS []), .int .i64 0] 74
  refine ⟨mayCells_of hn 0 2 (by simp), ?_⟩
  rintro w11 hw11
  have hn2 : Blk w11 w.heap.size 74 (evc x) := hw11 ▸ hn.setAll (vs := evc x) rfl
  have hf11 : Fr Non w w11 := hw11 ▸ ((Fr.refl Non w).alloc _).setAll hn (vs := evc x) rfl (fun h => absurd h (Nat.lt_irrefl _))
  have hx11 := hx.fr hf11 (fun _ _ h => h)
  refine ⟨_, rfl, e, by rw [add_mk]; exact hx11.blk.cell rfl, ⟨by omega, by omega, trivial⟩, _, rfl, by rw [add_mk]; exact hx11.blk.isS (by simp), by rw [add_mk]; exact hx11.blk.free 3, ?_⟩
  rw [add_mk]
  rintro w15 rfl
  rintro w16 rfl
  have hp := (hx11.popEv hev).2
  have hne : w.heap.size ≠ b := by have := h.lt h.own; omega
  have hn3 := (hn2.fr (setF b 3 (.slice (slS e 2 1 e.len).base (slS e 2 1 e.len).len (slS e 2 1 e.len).cap)) hne).drew
  refine ⟨x.1, hn3.cell rfl, x.2, by rw [add_mk]; exact hn3.cell rfl, ?_⟩
  have := hk _ (by rw [hev]; exact hp.drew) ((((hf11.mono (fun _ _ h => h.elim)) : Fr F w w11).set (a := ⟨b, 0 + 3, none⟩) (fun _ => h.own) _).drew)
  rw [hev] at this; exact this
theorem qreset_spec (h : Rep 52 74 w b r F) (hs0 : 0 ≤ r.st) (hs1 : r.st ≤ 4) (hk : ∀ w' F', Rep 52 74 w' b (qrst r) F' → Fr F w w' → (∀ g, F' g → F g ∨ w.heap.size ≤ g) → k (.tuple #[]) w') : Cl Try.prog 23 [.pointer (some ⟨b, 0, none⟩)] w k := by
  refine f23_ok ?_
  unfold f23
  obtain ⟨i, e, hb⟩ := h.c2
  have hown := h.own
  refine ⟨_, rfl, by rw [add_mk]; exact hb.isS (by simp), by rw [add_mk]; exact hb.free 3, ?_⟩
  rintro w3 rfl
  rw [add_mk]
  have h1 := h.clrEv
  have f1 : Fr F w _ := (Fr.refl F w).set (a := ⟨b, 0 + 3, none⟩) (fun _ => hown) (.slice none 0 0)
  obtain ⟨i1, e1, hb1⟩ := h1.c2
  have up : ∀ {w' : World} {F' : Nat → Prop}, Fr F (w.setCell ⟨b, 0 + 3, none⟩ (.slice none 0 0)) w' → (∀ g, F' g → F g ∨ (w.setCell ⟨b, 0 + 3, none⟩ (.slice none 0 0)).heap.size ≤ g) → Fr F w w' ∧ ∀ g, F' g → F g ∨ w.heap.size ≤ g := fun f2 hF => ⟨f1.trans' f2, fun g hg => (hF g hg).imp id (fun h => by simpa using h)⟩
  refine ⟨_, rfl, r.st, by rw [add_mk]; exact hb1.cell rfl, fun w' => ∃ F', Rep 52 74 w' b (qrst r) F' ∧ Fr F w w' ∧ ∀ g, F' g → F g ∨ w.heap.size ≤ g, fun w7 ⟨F', a1, a2, a3⟩ => hk w7 F' a1 a2 a3, ?_⟩
  refine ⟨fun v w' => v = decide (r.st = 1 ∨ r.st = 2) ∧ w' = w.setCell ⟨b, 0 + 3, none⟩ (.slice none 0 0), ?_, fun h => ⟨by simp at h; simp [h], rfl⟩, fun h => ⟨by simp at h; rw [beq_dec]; simp [h], rfl⟩⟩
  rintro v w10 ⟨rfl, rfl⟩
  refine ⟨fun hv => ?_, fun hv => ?_⟩
  · have hv := of_decide_eq_true hv
    refine qevent_spec [] 1 0 h1 (by simp) fun w' F' a1 a2 a3 => ?_
    obtain ⟨u1, u2⟩ := up a2 a3
    exact ⟨F', by simpa [qrst, hv] using a1, u1, u2⟩
  have hv := of_decide_eq_false hv
  refine ⟨fun v w' => v = decide (r.st = 3 ∨ r.st = 4) ∧ w' = w.setCell ⟨b, 0 + 3, none⟩ (.slice none 0 0), ?_, fun h => ⟨by simp at h; simp [h], rfl⟩, fun h => ⟨by simp at h; rw [beq_dec]; simp [h], rfl⟩⟩
  rintro v w10 ⟨rfl, rfl⟩
  refine ⟨fun hv2 => ?_, fun hv2 => ?_⟩
  · have hv2 := of_decide_eq_true hv2
    refine qevent_spec [] 2 0 h1 (by simp) fun w' F' a1 a2 a3 => ?_
    obtain ⟨u1, u2⟩ := up a2 a3
    exact ⟨F', by simpa [qrst, hv, hv2] using a1, u1, u2⟩
  · have hv2 := of_decide_eq_false hv2
    exact ⟨F, by simpa [qrst, hv, hv2] using h1, f1, fun g hg => .inl hg⟩
end
section
variable {w : World} {k : Value → World → Prop} {b : Nat} {r : RS} {F : Nat → Prop}
set_option maxHeartbeats 1000000 in
theorem qone_spec (c : UInt8) (h : Rep 52 74 w b r F) (hs0 : 0 ≤ r.st) (hs1 : r.st ≤ 4) (hi : r.inp.length ≤ 100000) (he : r.evs.length ≤ 1000000000000) (hk0 : 0 ≤ r.skip) (hk1 : r.skip ≤ 1000000000)
    (hk : ∀ w' F', Rep 52 74 w' b (qstp r c) F' → Fr F w w' → (∀ g, F' g → F g ∨ w.heap.size ≤ g) → k (.tuple #[]) w') : Cl Try.prog 31 [.pointer (some ⟨b, 0, none⟩), .int .u8 (c.toNat : Int)] w k := by
  refine f31_ok ?_
  unfold f31
  have e11 : ((c.toNat : Int) == 11) = decide (c = 11) := u8_eq c 11 (by decide)
  have e28 : ((c.toNat : Int) == 28) = decide (c = 28) := u8_eq c 28 (by decide)
  have e13 : ((c.toNat : Int) == 13) = decide (c = 13) := u8_eq c 13 (by decide)
  simp only [e11, e28, e13]
  obtain ⟨i, e, A, B, hx⟩ := h.x
  have hb := hx.blk
  have hown := h.own
  have fset : ∀ (j : Nat) (v : Value), Fr F w (w.setCell ⟨b, j, none⟩ v) := fun j v => (Fr.refl F w).set (a := ⟨b, j, none⟩) (fun _ => hown) v
  have sub : ∀ g, F g → F g ∨ w.heap.size ≤ g := fun g hg => .inl hg
  refine ⟨_, rfl, r.st, by rw [add_mk]; exact hb.cell rfl, fun w' => ∃ F', Rep 52 74 w' b (qstp r c) F' ∧ Fr F w w' ∧ ∀ g, F' g → F g ∨ w.heap.size ≤ g, fun w7 ⟨F', a1, a2, a3⟩ => hk w7 F' a1 a2 a3, ?_, ?_⟩
  · intro h0
    have h0 : r.st = 0 := by simpa using h0
    refine ⟨fun hc => ?_, fun hc => ?_⟩
    · have hc := of_decide_eq_true hc
      refine ⟨_, rfl, by rw [add_mk]; exact hb.isS (by simp), by rw [add_mk]; exact hb.free 1, ?_⟩
      rintro w8 rfl
      rw [add_mk]
      exact ⟨F, by simpa [qstp, h0, hc] using h.setSt 1, fset _ _, sub⟩
    · have hc := of_decide_eq_false hc
      exact qskip_spec h hk0 (by omega) fun w' a1 a2 => ⟨F, by simpa [qstp, h0, hc] using a1, a2, sub⟩
  intro h0
  have h0 : ¬ r.st = 0 := by simpa using h0
  refine ⟨fun h1 => ?_, fun h1 => ?_⟩
  · have h1 : r.st = 1 := by simpa using h1
    refine ⟨fun hc => ?_, fun hc => ?_⟩
    · have hc := of_decide_eq_true hc
      exact qevent_spec [] 1 1 h he fun w' F' a1 a2 a3 => ⟨F', by simpa [qstp, h1, hc] using a1, a2, a3⟩
    have hc := of_decide_eq_false hc
    refine ⟨fun hc2 => ?_, fun hc2 => ?_⟩
    · have hc2 := of_decide_eq_true hc2
      refine ⟨_, rfl, by rw [add_mk]; exact hb.isS (by simp), by rw [add_mk]; exact hb.free 1, ?_⟩
      rintro w8 rfl
      rw [add_mk]
      exact ⟨F, by simpa [qstp, h1, hc, hc2] using h.setSt 2, fset _ _, sub⟩
    have hc2 := of_decide_eq_false hc2
    refine ⟨_, rfl, i, by rw [add_mk]; exact hb.cell rfl, ?_⟩
    rintro b17 w18 rfl rfl
    obtain ⟨s', w9, hr, ⟨x1, x2, hb9⟩, hf9, hR9⟩ := (hx.alloc (.cells (List.toArray [.int .u8 (c.toNat : Int)]) 5)).pushIn c (Blk.new _ _ _) hi
    refine ⟨s', w9, hr, _, rfl, by rw [add_mk]; exact hb9.isS (by simp), by rw [add_mk]; exact hb9.free 2, ?_⟩
    rintro w22 rfl
    rw [add_mk]
    rintro w23 rfl
    have f9 : Fr F w w9 := ((Fr.refl F w).alloc (.cells (List.toArray [.int .u8 (c.toNat : Int)]) 5)).trans' hf9
    have f23 : Fr F w (w9.setCell ⟨b, 0 + 2, none⟩ (.slice s'.base s'.len s'.cap)).drew := (f9.set (a := ⟨b, 0 + 2, none⟩) (fun _ => hown) _).drew
    have hR := hR9.drew
    have hsub : ∀ g, ((F g ∨ g = (w.alloc (.cells (List.toArray [.int .u8 (c.toNat : Int)]) 5)).heap.size) ∧ g < w9.heap.size) → F g ∨ w.heap.size ≤ g := by
      rintro g ⟨hg | hg, _⟩
      · exact .inl hg
      · exact .inr (by simp at hg; omega)
    obtain ⟨i2, e2, A2, B2, hx2⟩ := hR.x
    have hil := hx2.ilen
    have hil : i2.len = r.inp.length + 1 := by simpa using hil
    refine ⟨_, rfl, i2, by rw [add_mk]; exact hx2.blk.cell rfl, _, rfl, r.most, hx2.blk.cell rfl, fun hm => ?_, fun hm => ?_⟩
    · have hm := of_decide_eq_true hm
      have hm : r.most < (r.inp.length : Int) + 1 := by rw [hil] at hm; push_cast at hm; exact hm
      refine ⟨_, rfl, by rw [add_mk]; exact hx2.blk.isS (by simp), by rw [add_mk]; exact hx2.blk.free 2, ?_⟩
      rintro w29 rfl
      rw [add_mk]
      have hR29 := hR.clrIn
      obtain ⟨i3, e3, hb29⟩ := hR29.c2
      refine ⟨_, rfl, by rw [add_mk]; exact hb29.isS (by simp), by rw [add_mk]; exact hb29.free 1, ?_⟩
      rintro w31 rfl
      rw [add_mk]
      exact ⟨_, by simpa [qstp, h1, hc, hc2, hm] using hR29.setSt 3, (f23.set (a := ⟨b, 0 + 2, none⟩) (fun _ => hown) _).set (a := ⟨b, 0 + 1, none⟩) (fun _ => hown) _, hsub⟩
    · have hm := of_decide_eq_false hm
      have hm : ¬ r.most < (r.inp.length : Int) + 1 := by rw [hil] at hm; push_cast at hm; exact hm
      exact ⟨_, by simpa [qstp, h1, hc, hc2, hm] using hR, f23, hsub⟩
  have h1 : ¬ r.st = 1 := by simpa using h1
  refine ⟨fun v w' => v = decide (r.st = 2 ∨ r.st = 4) ∧ w' = w, ?_, fun h => ⟨by simp at h; simp [h], rfl⟩, fun h => ⟨by simp at h; rw [beq_dec]; simp [h], rfl⟩⟩
  rintro v w10 ⟨rfl, hw10⟩
  refine ⟨fun h24 => ?_, fun h24 => ?_⟩
  · have h24 := of_decide_eq_true h24
    refine ⟨fun kd w' => kd = (if r.st = 4 then 2 else 1) ∧ w' = w, ?_, _, rfl, r.st, by rw [add_mk, hw10]; exact hb.cell rfl, fun h => ⟨by simp at h; simp [h], hw10⟩, fun h => ⟨by simp at h; simp [h], hw10⟩⟩
    rintro kd w37 ⟨rfl, rfl⟩
    refine ⟨fun v w' => v = decide (c = 13 ∧ ¬ r.st = 4) ∧ w' = w37, ?_, fun h => ⟨?_, rfl⟩, fun h => ⟨by simp at h; simp [h], rfl⟩⟩
    · rintro v w42 ⟨rfl, rfl⟩
      refine ⟨fun h13 => ?_, fun h13 => ⟨fun hc => ?_, fun hc => ⟨fun hc2 => ?_, fun hc2 => ?_⟩⟩⟩
      · have h13 := of_decide_eq_true h13
        refine ⟨_, rfl, i, by rw [add_mk]; exact hb.cell rfl, r.inp, hx.inp.bytes, ?_⟩
        have h2 : r.st = 2 := h24.resolve_right h13.2
        exact qevent_spec r.inp 0 0 h he fun w' F' a1 a2 a3 => ⟨F', by simpa [qstp, h2, h13.1] using a1, a2, a3⟩
      · have h13 := of_decide_eq_false h13
        have hc := of_decide_eq_true hc
        have h4 : r.st = 4 := Decidable.byContradiction fun h4 => h13 ⟨hc, h4⟩
        exact qevent_spec [] 2 0 h he fun w' F' a1 a2 a3 => ⟨F', by simpa [qstp, h4, hc] using a1, a2, a3⟩
      · have hc := of_decide_eq_false hc
        have hc2 := of_decide_eq_true hc2
        exact qevent_spec [] _ 1 h he fun w' F' a1 a2 a3 => ⟨F', by simpa [qstp, h0, h1, h24, hc, hc2] using a1, a2, a3⟩
      · have hc := of_decide_eq_false hc
        have hc2 := of_decide_eq_false hc2
        refine qevent_spec [] _ 0 h he fun w' F' a1 a2 a3 => ?_
        refine qskip_spec a1 (by simpa [qev] using hk0) (by simp [qev]; omega) fun w'' c1 c2 => ⟨F', ?_, a2.trans c2 (fun g hlt hg => (a3 g hg).resolve_right (fun h => by omega)), a3⟩
        simpa [qstp, h0, h1, h24, hc, hc2, qev] using c1
    · have h := of_decide_eq_true h
      by_cases h4 : r.st = 4 <;> simp [h, h4]
  · have h24 := of_decide_eq_false h24
    have h3 : r.st = 3 := by simp only [not_or] at h24; omega
    subst hw10
    refine ⟨fun w' => ∃ r', Rep 52 74 w' b r' F ∧ Fr F w10 w' ∧ r' = (if c = 28 then { r with st := 4 } else r), ?_, fun hc => ?_, fun hc => ?_⟩
    · rintro w57 ⟨r', a1, a2, rfl⟩
      refine ⟨fun hc => ?_, fun hc => ?_⟩
      · have hc := of_decide_eq_true hc
        have hc28 : ¬ c = 28 := fun e => by rw [e] at hc; exact absurd hc (by decide)
        rw [if_neg hc28] at a1
        exact qevent_spec [] 2 1 a1 he fun w' F' c1 c2 c3 => ⟨F', by simpa [qstp, h3, hc] using c1, a2.trans' c2, fun g hg => (c3 g hg).imp id (fun h => Nat.le_trans a2.size h)⟩
      · have hc := of_decide_eq_false hc
        refine ⟨F, ?_, a2, sub⟩
        by_cases hc28 : c = 28
        · rw [if_pos hc28] at a1; simpa [qstp, h3, hc, hc28] using a1
        · rw [if_neg hc28] at a1; simpa [qstp, h3, hc, hc28] using a1
    · have hc := of_decide_eq_true hc
      refine ⟨_, rfl, by rw [add_mk]; exact hb.isS (by simp), by rw [add_mk]; exact hb.free 1, ?_⟩
      rintro w8 rfl
      rw [add_mk]
      exact ⟨_, h.setSt 4, fset _ _, by simp [hc]⟩
    · have hc := of_decide_eq_false hc
      exact ⟨r, h, Fr.refl _ _, by simp [hc]⟩
end
section
variable {w : World} {k : Value → World → Prop} {b : Nat} {r q : RS} {F : Nat → Prop}
theorem qfeed_spec (s : Str) (hl : Like r q) (ho : Ok r) (h : Rep 52 74 w b q F) (hs : (s.length : Int) + r.evs.length + r.skip ≤ 1000000000)
    (hk : ∀ w' F', Rep 52 74 w' b (qfd q s) F' → Fr F w w' → (∀ g, F' g → F g ∨ w.heap.size ≤ g) → k (.tuple #[]) w') : Cl Try.prog 19 [.pointer (some ⟨b, 0, none⟩), .string (mkS s)] w k := by
  refine f19_ok ?_
  unfold f19
  obtain ⟨i, e, hb⟩ := h.c2
  have hlm := lim_pos r.most
  have hk0 := ho.k
  have hq0 : ¬ (q.most == 0) = true := by
    intro h0
    have h0 : q.most = 0 := by simpa using h0
    have := hl.most
    omega
  refine ⟨fun w' => w' = w, ?_, _, rfl, q.most, hb.cell rfl, fun h0 => absurd h0 hq0, fun _ => rfl⟩
  rintro w4 rfl
  refine ⟨fun m v w' => ∃ j : Nat, v = j ∧ j ≤ s.length ∧ m = s.length - j ∧ ∃ G, Rep 52 74 w' b (qfd q (s.take j)) G ∧ Fr F w4 w' ∧ ∀ g, G g → F g ∨ w4.heap.size ≤ g, ⟨s.length, 0, rfl, by omega, by omega, F, h, Fr.refl _ _, fun g hg => .inl hg⟩, ?_⟩
  rintro m v w1 ⟨j, rfl, hj, rfl, G, hR, hf, hG⟩
  refine ⟨fun hlt => ?_, fun hge => ?_⟩
  · have hjl : j < s.length := by have := of_decide_eq_true hlt; omega
    refine ⟨⟨by omega, by omega⟩, ?_⟩
    have hlk := Like.fd (s.take j) hl ho
    obtain ⟨ok1, sk1, ev1, mo1⟩ := ho.fd (s.take j)
    have htk : (s.take j).length = j := by simp; omega
    rw [htk] at sk1 ev1
    have hstep : qfd q (s.take (j + 1)) = qstp (qfd q (s.take j)) (s.getD ((j : Int)).toNat 0) := by
      rw [List.take_succ_eq_append_getElem hjl, qfd, List.foldl_append]
      simp [qfd, hjl]
    have hil : (qfd q (s.take j)).inp.length ≤ 100000 := by
      have hi := ok1.i
      have hlp := lim_pos (fd r (s.take j)).most
      have h0 := ok1.s0
      have h1 := ok1.s1
      have hs5 : (fd r (s.take j)).st = 0 ∨ (fd r (s.take j)).st = 1 ∨ (fd r (s.take j)).st = 2 ∨ (fd r (s.take j)).st = 3 ∨ (fd r (s.take j)).st = 4 := by omega
      rcases hs5 with h | h | h | h | h
      · rw [hlk.out (.inl h)]; simp
      · rw [hlk.inp (.inl h)]; omega
      · rw [hlk.inp (.inr h)]; omega
      · rw [hlk.out (.inr (.inl h))]; simp
      · rw [hlk.out (.inr (.inr h))]; simp
    refine qone_spec _ hR (by rw [hlk.st]; exact ok1.s0) (by rw [hlk.st]; exact ok1.s1) hil (by rw [hlk.evs]; omega) (by rw [hlk.skip]; exact ok1.k) (by rw [hlk.skip]; omega) fun w2 G2 c1 c2 c3 => ?_
    refine ⟨s.length - (j + 1), by omega, j + 1, by rw [w64_id (by omega) (by omega)]; push_cast; rfl, by omega, rfl, G2, by rw [hstep]; exact c1, hf.trans c2 (fun g hlt hg => (hG g hg).resolve_right (fun h => by omega)), fun g hg => ?_⟩
    rcases c3 g hg with h | h
    · exact hG g h
    · exact .inr (Nat.le_trans hf.size h)
  · obtain rfl : j = s.length := by have := of_decide_eq_false hge; omega
    rw [List.take_length] at hR
    exact hk _ G hR hf hG
end
end Go.Proofs.Ytmgmffoillbfeaa
