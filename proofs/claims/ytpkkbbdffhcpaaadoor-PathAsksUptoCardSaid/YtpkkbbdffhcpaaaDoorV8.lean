/- Lists that are lent: a mark stands behind them; copies of texts; a list of one element. -/
import Derived.Test.YtpkkbbdffhcpaaaDoorV7
set_option linter.unusedSimpArgs false
set_option linter.unusedVariables false
namespace Go.V
open Go.RowKit
section
variable {α : Type} {T : TypeId} {sz : Nat} {E : Nat → EP α} {w w' : World} {s : Sl} {l : List α} {F F' : Nat → Prop}
theorem Own.le (h : Own T sz E w s l F) : s.len ≤ s.cap := by
  obtain ⟨xs, G, o, h⟩ := h
  rcases h.ok with ⟨_, h1, h2, _⟩ | ⟨g, _, hA⟩
  · omega
  · exact hA.le
/-- A list of one element, in a block of its own. -/
theorem Own.one {E : EP α} {b : Nat} {cx : List Value} {x : α} {ox : Nat → Prop} (hB : Blk w b T cx) (hl : cx.length = sz) (h1 : ∀ v ∈ cx, v.oneCell' = true) (hx : E w cx x ox) (hox : ∀ c, ox c → c < w.heap.size ∧ c ≠ b) :
    Own T sz (fun _ => E) w ⟨some ⟨b, 0, none⟩, 1, 1⟩ [x] (fun c => c = b ∨ ox c) := by
  have hc : cut cx sz 0 = cx := by unfold cut; simp [← hl]
  refine ⟨cx, fun c => c = b, fun _ => ox, .inr ⟨b, rfl, by simp [hl], Nat.le_refl _, 0, cx, rfl, hB, by simp [hl], by simp [← hl]⟩, rfl, ?_, ?_, ?_, ?_, h1⟩
  · rintro c rfl; exact ⟨hB.lt, .inl rfl⟩
  · intro i hi c hc; exact ⟨(hox c hc).1, .inr hc, (hox c hc).2⟩
  · intro i j hi hj hij; simp at hi hj; omega
  · intro i hi
    have : i = 0 := by simp at hi; omega
    subst this
    rw [hc]; exact hx
/-- Texts that are read, copied. -/
theorem cut_map {f : α → Value} {i : Nat} (hi : i < l.length) : cut (l.map f) 1 i = [f l[i]] := by
  apply List.ext_getElem?
  intro q
  by_cases hq : q < 1
  · obtain rfl : q = 0 := by omega
    rw [cut_get (by omega)]; simp [hi]
  · unfold cut
    rw [List.getElem?_eq_none (by simp; omega), List.getElem?_eq_none (by simp; omega)]
theorem copyStr {P : Program} {t : TypeId} {by_ : Nat} {l : List Str} {x : Sl} (ht : P.underlying t = some (.slice T)) (hs : Sz P T 1) (hz : Zr P T (.string (mkS []))) (hb : Bts P T by_) (hx : RdL 1 RdStr w x l) (hbytes : l.length * by_ ≤ 140737488355328) (hmax : l.length ≤ 4611686018427387904) (ty : TypeId) :
    ∃ s' w', (Builtin.append_ #[t, t] ty #[.slice none 0 0, .slice x.base x.len x.cap]).run P w = .ok (.slice (Sl.base s') s'.len s'.cap) w' ∧ Own T 1 (fun _ => EStr) w' s' l (fun b => w.heap.size ≤ b ∧ b < w'.heap.size) ∧ Fr Non w w' := by
  have hL := hx.1
  obtain ⟨s', w', hr, hs', hlen', hf⟩ := append_own (P := P) (w := w) (s := ⟨none, 0, 0⟩) (xs := []) (F := fun _ => False) (z := .string (mkS [])) ht hs hz hb rfl (by omega) (SlOk.nil _ _ _ _) (news := l.map fun s => .string (mkS s)) (a := x.base) (m := x.len) (c := x.cap) (by simp [hL])
    (by
      by_cases h0 : x.len = 0
      · cases hbb : x.base with
        | none => exact .inl ⟨rfl, h0⟩
        | some a => exact .inr ⟨a, rfl, fun j u hu => by
            have : l = [] := List.eq_nil_of_length_eq_zero (by omega)
            subst this; simp at hu⟩
      · obtain ⟨a, ha, _⟩ := hx.at (i := 0) (by omega)
        refine .inr ⟨a, ha, fun j u hu => ?_⟩
        rw [List.getElem?_map] at hu
        obtain ⟨s, hs, rfl⟩ := Option.map_eq_some_iff.1 hu
        obtain ⟨hj, rfl⟩ := List.getElem?_eq_some_iff.1 hs
        obtain ⟨a', ha', hc⟩ := hx.at hj
        rw [ha] at ha'; cases ha'
        rw [Nat.mul_one] at hc; exact hc)
    (by intro u hu; obtain ⟨s, _, rfl⟩ := List.mem_map.1 hu; rfl) (by simpa [hL] using hbytes) (by simpa [hL] using hmax) ty
  refine ⟨s', w', hr, ?_, hf.mono fun b _ h => h.elim⟩
  have hG : SlOk w' T 1 s' (l.map fun s => .string (mkS s)) (fun b => w.heap.size ≤ b ∧ b < w'.heap.size) := by
    rcases hs' with h | ⟨g, hg, hA⟩
    · exact .inl (by simpa using h)
    · exact .inr ⟨g, ⟨by rcases hg with h | h; exact h.elim; omega, hA.lt⟩, by simpa using hA⟩
  refine ⟨_, _, fun _ _ => False, hG, by simpa [hL] using hlen', fun b hb => ⟨hb.2, hb⟩, fun i hi b h => h.elim, fun i j _ _ _ b h => h.elim, fun i hi => ?_, ?_⟩
  · unfold EStr; exact cut_map hi
  · intro v hv; obtain ⟨s, _, rfl⟩ := List.mem_map.1 hv; rfl

/-! ### Lent -/
/-- A list behind which a mark stands. -/
def LentE (T : TypeId) (sz : Nat) (E E0 : EP α) (mk : α) : EP (List α) := fun w cs l o => ∃ s : Sl, cs = [.slice s.base s.len s.cap] ∧ s.len = l.length ∧ Own T sz (fun i => if i < l.length then E else E0) w ⟨s.base, s.len + 1, s.cap⟩ (l ++ [mk]) o
theorem if_st {E E0 : EP α} (h : ESt E) (h0 : ESt E0) (n : Nat) : ∀ i, ESt (if i < n then E else E0) := fun i => by split; exact h; exact h0
theorem LentE.st {E E0 : EP α} {mk : α} (h : ESt E) (h0 : ESt E0) : ESt (LentE T sz E E0 mk) := fun w w' cs x o e hx => by
  obtain ⟨s, h1, h2, h3⟩ := hx
  exact ⟨s, h1, h2, h3.same (if_st h h0 _) e⟩
/-- A mark is put behind a list. -/
theorem Own.lend {P : Program} {t : TypeId} {z : Value} {by_ : Nat} {E E0 : EP α} {mk : α} (ht : P.underlying t = some (.slice T)) (hs : Sz P T sz) (hz : Zr P T z) (hb : Bts P T by_) (hzs : z.cells.size = sz) (hsz : 0 < sz) (hE : ESt E) (hE0 : ESt E0)
    (h : Own T sz (fun _ => E) w s l F) {cx : List Value} {ox : Nat → Prop} (hx : E0 w cx mk ox) (hl : cx.length = sz) (h1 : ∀ u ∈ cx, u.oneCell' = true) (hox : ∀ b, ox b → b < w.heap.size ∧ ¬ F b)
    {a : Addr} {c : Nat} (ha : ∀ j u, cx[j]? = some u → w.cell? (a.add j) = some u) (hbytes : (l.length + 1) * by_ ≤ 140737488355328) (hmax : l.length + 1 ≤ 4611686018427387904) (ty : TypeId) :
    ∃ s' w', (Builtin.append_ #[t, t] ty #[.slice s.base s.len s.cap, .slice (some a) 1 c]).run P w = .ok (.slice (Sl.base s') s'.len s'.cap) w' ∧ s.len = l.length ∧ l.length ≤ s'.cap ∧
      slS s' sz (0 : Int) (s.len : Int) = ⟨s'.base, l.length, s'.cap⟩ ∧ LentE T sz E E0 mk w' [.slice s'.base l.length s'.cap] l (fun b => (F b ∨ ox b ∨ w.heap.size ≤ b) ∧ b < w'.heap.size) ∧ Fr F w w' := by
  have h' : Own T sz (fun i => if i < l.length then E else E0) w s l F := h.congr fun i hi w cs x o he => by rw [if_pos hi]; exact he
  obtain ⟨s', w', hr, ho, hf⟩ := h'.push ht hs hz hb hzs hsz (if_st hE hE0 _) (x := mk) (cx := cx) (ox := ox) (by rw [if_neg (by omega)]; exact hx) hl h1 hox (a := a) (c := c) ha hbytes hmax ty
  have hl' := ho.len
  simp only [List.length_append, List.length_cons, List.length_nil, Nat.zero_add] at hl'
  have hle := ho.le
  refine ⟨s', w', hr, h.len, by omega, by rw [h.len, slS0], ⟨⟨s'.base, l.length, s'.cap⟩, rfl, rfl, ?_⟩, hf⟩
  have : (⟨s'.base, l.length + 1, s'.cap⟩ : Sl) = s' := by rw [← hl']
  rw [this]; exact ho
/-- Lent lists, read. -/
def LRd (sz : Nat) (R : World → Addr → α → Prop) (M : World → Addr → Prop) (w : World) (s : Sl) (l : List α) : Prop :=
  RdL sz R w s l ∧ s.len + 1 ≤ s.cap ∧ ∃ a, s.base = some a ∧ M w (a.add (l.length * sz))
theorem LentE.rd {E E0 : EP α} {mk : α} {R : World → Addr → α → Prop} {M : World → Addr → Prop} {cs : List Value} {o : Nat → Prop} (hsz : 0 < sz) (h : LentE T sz E E0 mk w cs l o)
    (hR : ∀ (x : α) (cs : List Value) (o : Nat → Prop) (a : Addr), E w cs x o → (∀ k v, k < sz → cs[k]? = some v → w.cell? (a.add k) = some v) → R w a x)
    (hM : ∀ (cs : List Value) (o : Nat → Prop) (a : Addr), E0 w cs mk o → (∀ k v, k < sz → cs[k]? = some v → w.cell? (a.add k) = some v) → M w a) : ∃ s : Sl, cs = [.slice s.base s.len s.cap] ∧ LRd sz R M w s l := by
  obtain ⟨s, hcs, hl, h⟩ := h
  refine ⟨s, hcs, ?_⟩
  have hle := h.le
  obtain ⟨xs, G, o, h⟩ := h
  have hlen := h.len
  simp only [List.length_append, List.length_cons, List.length_nil, Nat.zero_add] at hlen
  obtain ⟨a, ha, _, _⟩ := h.base hsz (i := l.length) (by simp)
  refine ⟨⟨hl, fun i hi => ⟨a, ha, ?_⟩⟩, hle, a, ha, ?_⟩
  · have := h.el i (by simp; omega)
    rw [if_pos hi, List.getElem_append_left hi] at this
    exact hR _ _ _ _ this (fun k v hk hv => h.cell ha hv hk)
  · have := h.el l.length (by simp)
    rw [if_neg (by omega)] at this
    simp only [List.getElem_append_right (Nat.le_refl _), Nat.sub_self, List.getElem_cons_zero] at this
    exact hM _ _ _ this (fun k v hk hv => h.cell ha hv hk)
theorem LRd.fr {R : World → Addr → α → Prop} {M : World → Addr → Prop} (hR : Stay R) (hM : ∀ (w w' : World) (a : Addr), Fr Non w w' → M w a → M w' a) (h : LRd sz R M w s l) (f : Fr Non w w') : LRd sz R M w' s l :=
  ⟨h.1.fr hR f, h.2.1, let ⟨a, h1, h2⟩ := h.2.2; ⟨a, h1, hM _ _ _ f h2⟩⟩
end
end Go.V
