/- Lists of one's own, at any depth: each with the blocks that are its own. -/
import Derived.Test.YtpkkbbdffhcpaaaDoorV6
set_option linter.unusedSimpArgs false
set_option linter.unusedVariables false
namespace Go.V
open Go.RowKit

/-- What cells say, and the blocks that they own. -/
abbrev EP (α : Type) := World → List Value → α → (Nat → Prop) → Prop
/-- It holds still where its blocks do. -/
def ESt {α : Type} (E : EP α) : Prop := ∀ (w w' : World) (cs : List Value) (x : α) (o : Nat → Prop), (∀ b, o b → w'.heap[b]? = w.heap[b]?) → E w cs x o → E w' cs x o
def cut (xs : List Value) (sz i : Nat) : List Value := (xs.drop (i * sz)).take sz
structure OwnP {α : Type} (T : TypeId) (sz : Nat) (E : Nat → EP α) (w : World) (s : Sl) (l : List α) (F : Nat → Prop) (xs : List Value) (G : Nat → Prop) (o : Nat → Nat → Prop) : Prop where
  ok : SlOk w T sz s xs G
  len : s.len = l.length
  gl : ∀ b, G b → b < w.heap.size ∧ F b
  ol : ∀ i, i < l.length → ∀ b, o i b → b < w.heap.size ∧ F b ∧ ¬ G b
  dj : ∀ i j, i < l.length → j < l.length → i ≠ j → ∀ b, o i b → ¬ o j b
  el : ∀ i (h : i < l.length), E i w (cut xs sz i) l[i] (o i)
  one : ∀ v ∈ xs, v.oneCell' = true
/-- A list of one's own: in blocks of F alone. -/
def Own {α : Type} (T : TypeId) (sz : Nat) (E : Nat → EP α) (w : World) (s : Sl) (l : List α) (F : Nat → Prop) : Prop := ∃ xs G o, OwnP T sz E w s l F xs G o

section
variable {α : Type} {T : TypeId} {sz : Nat} {E E' : Nat → EP α} {w w' : World} {s : Sl} {l : List α} {F F' : Nat → Prop} {xs : List Value} {G : Nat → Prop} {o : Nat → Nat → Prop}
theorem blk_same {b : Nat} {T : TypeId} {cs : List Value} (h : Blk w b T cs) (e : w'.heap[b]? = w.heap[b]?) : Blk w' b T cs := by unfold Blk at *; rw [e]; exact h
theorem lt_same {b : Nat} (h : b < w.heap.size) (e : w'.heap[b]? = w.heap[b]?) : b < w'.heap.size := by
  rw [Array.getElem?_eq_getElem h] at e
  exact (Array.getElem?_eq_some_iff.1 e).1
theorem SlOk.same {G : Nat → Prop} (h : SlOk w T sz s xs G) (e : ∀ b, G b → w'.heap[b]? = w.heap[b]?) : SlOk w' T sz s xs G := by
  rcases h with h | ⟨g, hG, hA⟩
  · exact .inl h
  · obtain ⟨off, cs, hb, hB, hl, ht⟩ := hA.has
    exact .inr ⟨g, hG, hA.len, hA.le, off, cs, hb, blk_same hB (e g hG), hl, ht⟩
theorem Own.mono (h : Own T sz E w s l F) (hF : ∀ b, F b → F' b) : Own T sz E w s l F' := by
  obtain ⟨xs, G, o, h⟩ := h
  exact ⟨xs, G, o, h.ok, h.len, fun b hb => ⟨(h.gl b hb).1, hF b (h.gl b hb).2⟩, fun i hi b hb => ⟨(h.ol i hi b hb).1, hF b (h.ol i hi b hb).2.1, (h.ol i hi b hb).2.2⟩, h.dj, h.el, h.one⟩
theorem Own.tight (h : Own T sz E w s l F) : Own T sz E w s l (fun b => F b ∧ b < w.heap.size) := by
  obtain ⟨xs, G, o, h⟩ := h
  exact ⟨xs, G, o, h.ok, h.len, fun b hb => ⟨(h.gl b hb).1, (h.gl b hb).2, (h.gl b hb).1⟩, fun i hi b hb => ⟨(h.ol i hi b hb).1, ⟨(h.ol i hi b hb).2.1, (h.ol i hi b hb).1⟩, (h.ol i hi b hb).2.2⟩, h.dj, h.el, h.one⟩
theorem Own.same (hE : ∀ i, ESt (E i)) (h : Own T sz E w s l F) (e : ∀ b, F b → w'.heap[b]? = w.heap[b]?) : Own T sz E w' s l F := by
  obtain ⟨xs, G, o, h⟩ := h
  exact ⟨xs, G, o, h.ok.same (fun b hb => e b (h.gl b hb).2), h.len, fun b hb => ⟨lt_same (h.gl b hb).1 (e b (h.gl b hb).2), (h.gl b hb).2⟩,
    fun i hi b hb => ⟨lt_same (h.ol i hi b hb).1 (e b (h.ol i hi b hb).2.1), (h.ol i hi b hb).2⟩, h.dj,
    fun i hi => hE i _ _ _ _ _ (fun b hb => e b (h.ol i hi b hb).2.1) (h.el i hi), h.one⟩
theorem Own.fr (hE : ∀ i, ESt (E i)) (h : Own T sz E w s l F) {D : Nat → Prop} (f : Fr D w w') (hd : ∀ b, F b → ¬ D b) : Own T sz E w' s l F :=
  (h.tight.same hE (fun b hb => f.blk b hb.2 (hd b hb.1))).mono fun b hb => hb.1
theorem Own.len (h : Own T sz E w s l F) : s.len = l.length := by obtain ⟨_, _, _, h⟩ := h; exact h.len
theorem Own.nil (T : TypeId) (sz : Nat) (E : Nat → EP α) (w : World) (F : Nat → Prop) : Own T sz E w ⟨none, 0, 0⟩ ([] : List α) F :=
  ⟨[], fun _ => False, fun _ _ => False, SlOk.nil _ _ _ _, rfl, fun b h => h.elim, fun i h => by simp at h, fun i j h => by simp at h, fun i h => by simp at h, fun v h => by simp at h⟩
theorem Own.congr (h : Own T sz E w s l F) (hE : ∀ i (hi : i < l.length) w cs x o, E i w cs x o → E' i w cs x o) : Own T sz E' w s l F := by
  obtain ⟨xs, G, o, h⟩ := h
  exact ⟨xs, G, o, h.ok, h.len, h.gl, h.ol, h.dj, fun i hi => hE i hi _ _ _ _ (h.el i hi), h.one⟩

/-! ### Element kinds -/
def EStr : EP Str := fun _ cs s _ => cs = [.string (mkS s)]
def ESl (T : TypeId) (sz : Nat) (E : Nat → EP α) : EP (List α) := fun w cs l o => ∃ s : Sl, cs = [.slice s.base s.len s.cap] ∧ Own T sz E w s l o
theorem EStr.st : ESt EStr := fun _ _ _ _ _ _ h => h
theorem ESl.st (hE : ∀ i, ESt (E i)) : ESt (ESl T sz E) := fun w w' cs x o e h => by
  obtain ⟨s, h1, h2⟩ := h
  exact ⟨s, h1, h2.same hE e⟩
def ESg (T : TypeId) (E : EP Fldt) : EP Seg := fun w cs g o => ∃ s : Sl, cs = [.string (mkS g.name), .slice s.base s.len s.cap] ∧ Own T 1 (fun _ => E) w s g.flds o
theorem ESg.st {E : EP Fldt} (hE : ESt E) : ESt (ESg T E) := fun w w' cs x o e h => by
  obtain ⟨s, h1, h2⟩ := h
  exact ⟨s, h1, h2.same (fun _ => hE) e⟩

/-! ### Cells -/
theorem cut_get {sz i k : Nat} (hk : k < sz) : (cut xs sz i)[k]? = xs[i * sz + k]? := by
  unfold cut
  rw [List.getElem?_take, if_pos hk, List.getElem?_drop]
theorem OwnP.xlen (h : OwnP T sz E w s l F xs G o) : xs.length = l.length * sz := by rw [h.ok.len, h.len]
theorem OwnP.base (h : OwnP T sz E w s l F xs G o) (hsz : 0 < sz) {i : Nat} (hi : i < l.length) : ∃ a, s.base = some a ∧ G a.block ∧ a.spot = none := by
  rcases h.ok with ⟨_, h0, _, _⟩ | ⟨g, hG, hA⟩
  · have := h.len; omega
  · obtain ⟨off, cs, hb, _⟩ := hA.has
    exact ⟨_, hb, hG, rfl⟩
theorem mul_lt {i n sz k : Nat} (hi : i < n) (hk : k < sz) : i * sz + k < n * sz := by
  have : (i + 1) * sz ≤ n * sz := Nat.mul_le_mul_right _ hi
  rw [Nat.add_mul] at this; omega
theorem OwnP.cell (h : OwnP T sz E w s l F xs G o) {a : Addr} (ha : s.base = some a) {i k : Nat} {v : Value} (hv : (cut xs sz i)[k]? = some v) (hk : k < sz) : w.cell? ((a.add (i * sz)).add k) = some v := by
  rw [cut_get hk] at hv
  obtain ⟨a', ha', hc⟩ := h.ok.at hv
  rw [ha] at ha'; cases ha'
  rcases h.ok with ⟨hb, _⟩ | ⟨g, _, hA⟩
  · rw [hb] at ha; cases ha
  · obtain ⟨off, cs, hb, _⟩ := hA.has
    rw [hb] at ha; cases ha
    rw [add_mk] at hc
    rw [add_mk, add_mk, Nat.add_assoc]; exact hc
/-- Read as a list that is read alone. -/
theorem Own.rd {R : World → Addr → α → Prop} (h : Own T sz E w s l F) (hsz : 0 < sz) (hR : ∀ i (hi : i < l.length) (cs : List Value) (o : Nat → Prop) (a : Addr), E i w cs l[i] o → (∀ k v, k < sz → cs[k]? = some v → w.cell? (a.add k) = some v) → R w a l[i]) : RdL sz R w s l := by
  obtain ⟨xs, G, o, h⟩ := h
  refine ⟨h.len, fun i hi => ?_⟩
  obtain ⟨a, ha, _, _⟩ := h.base hsz hi
  exact ⟨a, ha, hR i hi _ _ _ (h.el i hi) (fun k v hk hv => h.cell ha hv hk)⟩
theorem Own.rdStr {l : List Str} (h : Own T 1 (fun _ => EStr) w s l F) : RdL 1 RdStr w s l := by
  refine h.rd (by omega) fun i hi cs o a he hc => ?_
  unfold EStr at he; subst he
  exact hc 0 _ (by omega) rfl
theorem Own.rdSl {β : Type} {T' : TypeId} {E' : Nat → EP β} {R : World → Addr → β → Prop} {l : List (List β)} (h : Own T 1 (fun _ => ESl T' 1 E') w s l F) (hR : ∀ (x : Sl) (m : List β) (o : Nat → Prop), Own T' 1 E' w x m o → RdL 1 R w x m) : RdL 1 (RdSl 1 R) w s l := by
  refine h.rd (by omega) fun i hi cs o a he hc => ?_
  obtain ⟨x, rfl, hx⟩ := he
  exact ⟨x, hc 0 _ (by omega) rfl, hR x _ _ hx⟩

/-! ### One element more -/
theorem cut_app_lt {ys : List Value} {i n : Nat} (hx : xs.length = n * sz) (hi : i < n) : cut (xs ++ ys) sz i = cut xs sz i := by
  have h1 : (i + 1) * sz ≤ n * sz := Nat.mul_le_mul_right _ hi
  rw [Nat.add_mul, Nat.one_mul] at h1
  unfold cut
  rw [List.drop_append_of_le_length (by omega), List.take_append_of_le_length (by simp; omega)]
theorem cut_app_eq {ys : List Value} {n : Nat} (hx : xs.length = n * sz) (hy : ys.length = sz) : cut (xs ++ ys) sz n = ys := by
  unfold cut
  rw [← hx, List.drop_left, ← hy, List.take_length]
theorem Own.push {P : Program} {t : TypeId} {z : Value} {by_ : Nat} (ht : P.underlying t = some (.slice T)) (hs : Sz P T sz) (hz : Zr P T z) (hb : Bts P T by_) (hzs : z.cells.size = sz) (hsz : 0 < sz) (hE : ∀ i, ESt (E i))
    (h : Own T sz E w s l F) {x : α} {cx : List Value} {ox : Nat → Prop} (hx : E l.length w cx x ox) (hl : cx.length = sz) (h1 : ∀ u ∈ cx, u.oneCell' = true) (hox : ∀ b, ox b → b < w.heap.size ∧ ¬ F b)
    {a : Addr} {c : Nat} (ha : ∀ j u, cx[j]? = some u → w.cell? (a.add j) = some u) (hbytes : (l.length + 1) * by_ ≤ 140737488355328) (hmax : l.length + 1 ≤ 4611686018427387904) (ty : TypeId) :
    ∃ s' w', (Builtin.append_ #[t, t] ty #[.slice s.base s.len s.cap, .slice (some a) 1 c]).run P w = .ok (.slice (Sl.base s') s'.len s'.cap) w' ∧
      Own T sz E w' s' (l ++ [x]) (fun b => (F b ∨ ox b ∨ w.heap.size ≤ b) ∧ b < w'.heap.size) ∧ Fr F w w' := by
  obtain ⟨xs, G, o, h⟩ := h
  have hlen := h.len
  obtain ⟨s', w', hr, hs', hlen', hf⟩ := append_own (P := P) ht hs hz hb hzs hsz h.ok (news := cx) (a := some a) (m := 1) (c := c) (by rw [hl, Nat.one_mul]) (.inr ⟨a, rfl, ha⟩) h1 (by rw [hlen]; exact hbytes) (by rw [hlen]; exact hmax) ty
  refine ⟨s', w', hr, ?_, hf.mono (fun b hb hg => (h.gl b hg).2)⟩
  have hxl := h.xlen
  rcases hs' with ⟨_, h0, _, _⟩ | ⟨g, hg, hA⟩
  · omega
  have hgl : g < w'.heap.size := hA.lt
  have keep : ∀ b, b < w.heap.size → ¬ G b → w'.heap[b]? = w.heap[b]? := fun b hb hn => hf.blk b hb hn
  have hgo : ∀ i, i < l.length → ∀ b, o i b → b ≠ g := by
    rintro i hi b hb rfl
    obtain ⟨k1, k2, k3⟩ := h.ol i hi b hb
    rcases hg with hg | hg
    · exact k3 hg
    · omega
  have hgx : ∀ b, ox b → b ≠ g := by
    rintro b hb rfl
    obtain ⟨k1, k2⟩ := hox b hb
    rcases hg with hg | hg
    · exact k2 (h.gl b hg).2
    · omega
  refine ⟨xs ++ cx, fun b => b = g, fun i => if i = l.length then ox else o i, .inr ⟨g, rfl, hA⟩, by simp; omega, ?_, ?_, ?_, ?_, ?_⟩
  · rintro b rfl
    refine ⟨hgl, ?_, hgl⟩
    rcases hg with hg | hg
    · exact .inl (h.gl b hg).2
    · exact .inr (.inr (by omega))
  · intro i hi b hb
    revert hb
    split <;> intro hb
    · obtain ⟨k1, k2⟩ := hox b hb
      have hbw : b < w'.heap.size := Nat.lt_of_lt_of_le k1 hf.size
      exact ⟨hbw, ⟨.inr (.inl hb), hbw⟩, hgx b hb⟩
    · have hi : i < l.length := by simp at hi; omega
      obtain ⟨k1, k2, k3⟩ := h.ol i hi b hb
      have hbw : b < w'.heap.size := Nat.lt_of_lt_of_le k1 hf.size
      exact ⟨hbw, ⟨.inl k2, hbw⟩, hgo i hi b hb⟩
  · intro i j hi hj hij b hb hb2
    simp at hi hj
    revert hb hb2
    split <;> intro hb
    · split <;> intro hb2
      · omega
      · have hj : j < l.length := by omega
        exact (hox b hb).2 (h.ol j hj b hb2).2.1
    · split <;> intro hb2
      · have hi : i < l.length := by omega
        exact (hox b hb2).2 (h.ol i hi b hb).2.1
      · exact h.dj i j (by omega) (by omega) hij b hb hb2
  · intro i hi
    by_cases he : i = l.length
    · subst he
      rw [if_pos rfl, cut_app_eq hxl hl]
      simp only [List.getElem_append_right (Nat.le_refl _), Nat.sub_self, List.getElem_cons_zero]
      exact hE _ _ _ _ _ _ (fun b hb => keep b (hox b hb).1 (fun hG => (hox b hb).2 (h.gl b hG).2)) hx
    · have hi' : i < l.length := by simp at hi; omega
      rw [if_neg he, cut_app_lt hxl hi', List.getElem_append_left hi']
      exact hE _ _ _ _ _ _ (fun b hb => keep b (h.ol i hi' b hb).1 (h.ol i hi' b hb).2.2) (h.el i hi')
  · intro v hv
    rcases List.mem_append.1 hv with hv | hv
    · exact h.one v hv
    · exact h1 v hv

/-! ### One element set anew -/
theorem cut_set_eq {sz i k : Nat} {v : Value} (hk : k < sz) : cut (xs.set (i * sz + k) v) sz i = (cut xs sz i).set k v := by
  unfold cut
  rw [List.drop_set, if_neg (by omega), Nat.add_sub_cancel_left, List.take_set]
theorem cut_set_ne {sz i j k : Nat} {v : Value} (hk : k < sz) (hij : j ≠ i) : cut (xs.set (i * sz + k) v) sz j = cut xs sz j := by
  apply List.ext_getElem?
  intro q
  by_cases hq : q < sz
  · rw [cut_get hq, cut_get hq, List.getElem?_set_ne]
    intro e
    apply hij
    have h1 : (i * sz + k) / sz = i := by rw [Nat.mul_comm, Nat.mul_add_div (by omega), Nat.div_eq_of_lt hk, Nat.add_zero]
    have h2 : (j * sz + q) / sz = j := by rw [Nat.mul_comm, Nat.mul_add_div (by omega), Nat.div_eq_of_lt hq, Nat.add_zero]
    rw [e] at h1; omega
  · unfold cut
    rw [List.getElem?_eq_none (by simp; omega), List.getElem?_eq_none (by simp; omega)]
/-- An element, what it owns, and what comes of it when one cell of it is set anew. -/
theorem Own.upd (hE : ∀ i, ESt (E i)) (hsz : 0 < sz) (h : Own T sz E w s l F) {i : Nat} (hi : i < l.length) :
    ∃ (a : Addr) (cx : List Value) (ox : Nat → Prop), s.base = some a ∧ F a.block ∧ a.block < w.heap.size ∧ ¬ ox a.block ∧ E i w cx l[i] ox ∧ (∀ b, ox b → F b ∧ b < w.heap.size) ∧ cx.length = sz ∧
      (∀ k v, k < sz → cx[k]? = some v → w.cell? ((a.add (i * sz)).add k) = some v) ∧
      ∀ (w' : World) (x' : α) (ox' : Nat → Prop) (k : Nat) (v : Value) (Ei : EP α), Fr ox w w' → k < sz → v.oneCell' = true → ESt Ei → Ei w' (cx.set k v) x' ox' → (∀ b, ox' b → (ox b ∨ w.heap.size ≤ b) ∧ b < w'.heap.size) →
        (w'.cell? ((a.add (i * sz)).add k)).isSome = true ∧ w'.frozen? ((a.add (i * sz)).add k) = false ∧
          Own T sz (fun j => if j = i then Ei else E j) (w'.setCell ((a.add (i * sz)).add k) v) s (l.set i x') (fun b => F b ∨ w.heap.size ≤ b) ∧ Fr F w (w'.setCell ((a.add (i * sz)).add k) v) := by
  obtain ⟨xs, G, o, h⟩ := h
  have hxl := h.xlen
  rcases h.ok with ⟨_, h0, _, _⟩ | ⟨g, hG, hA⟩
  · have := h.len; omega
  obtain ⟨off, cs, hb, hB, hle, htk⟩ := hA.has
  obtain ⟨hgl, hgF⟩ := h.gl g hG
  have hog : ∀ j, j < l.length → ¬ o j g := fun j hj hb => (h.ol j hj g hb).2.2 hG
  have hcl : (cut xs sz i).length = sz := by
    have h1 : (i + 1) * sz ≤ l.length * sz := Nat.mul_le_mul_right _ hi
    rw [Nat.add_mul, Nat.one_mul] at h1
    unfold cut; simp; omega
  refine ⟨⟨g, off, none⟩, cut xs sz i, o i, hb, hgF, hgl, hog i hi, h.el i hi, fun b hb => ⟨(h.ol i hi b hb).2.1, (h.ol i hi b hb).1⟩, hcl, fun k v hk hv => h.cell hb hv hk, ?_⟩
  intro w' x' ox' k v Ei f hk hv hEi hx' hox'
  have hsl : s.len * sz ≤ s.cap * sz := Nat.mul_le_mul_right _ hA.le
  have hlen := h.len
  have hpos : i * sz + k < l.length * sz := mul_lt hi hk
  have hB' : Blk w' g T cs := hB.fr f (hog i hi)
  rw [add_mk, add_mk, Nat.add_assoc]
  have hgw : g < w'.heap.size := hB'.lt
  rw [hlen] at hsl
  refine ⟨hB'.isS (by omega), hB'.free _, ?_, ?_⟩
  · have hSl : SlAt (w'.setCell ⟨g, off + (i * sz + k), none⟩ v) T sz s (xs.set (i * sz + k) v) g := by
      refine ⟨by simp [hA.len], hA.le, off, _, hb, hB'.set _ v, by simpa using hle, ?_⟩
      rw [List.drop_set, if_neg (by omega), Nat.add_sub_cancel_left, List.take_set, htk]
    have same : ∀ b, b ≠ g → (w'.setCell ⟨g, off + (i * sz + k), none⟩ v).heap[b]? = w'.heap[b]? := fun b hb => Below.heap_setCell _ _ _ _ hb
    have szs : (w'.setCell ⟨g, off + (i * sz + k), none⟩ v).heap.size = w'.heap.size := by simp [World.setCell]
    refine ⟨xs.set (i * sz + k) v, fun b => b = g, fun j => if j = i then ox' else o j, .inr ⟨g, rfl, hSl⟩, by simpa using h.len, ?_, ?_, ?_, ?_, ?_⟩
    · rintro b rfl
      rw [szs]; exact ⟨hgw, .inl hgF⟩
    · intro j hj b hb
      revert hb
      simp only [List.length_set] at hj
      rw [szs]
      split <;> intro hb
      · obtain ⟨k1, k2⟩ := hox' b hb
        refine ⟨k2, k1.imp (fun k1 => (h.ol i hi b k1).2.1) id, ?_⟩
        rintro rfl
        rcases k1 with k1 | k1
        · exact hog i hi k1
        · omega
      · obtain ⟨k1, k2, k3⟩ := h.ol j hj b hb
        exact ⟨Nat.lt_of_lt_of_le k1 f.size, .inl k2, fun e => hog j hj (e ▸ hb)⟩
    · intro j j2 hj hj2 hne b hb hb2
      simp only [List.length_set] at hj hj2
      revert hb hb2
      split <;> intro hb
      · rw [if_neg (by omega)]
        intro hb2
        rcases (hox' b hb).1 with k1 | k1
        · exact h.dj i j2 hi hj2 (by omega) b k1 hb2
        · have := (h.ol j2 hj2 b hb2).1; omega
      · split <;> intro hb2
        · rcases (hox' b hb2).1 with k1 | k1
          · exact h.dj i j hi hj (by omega) b k1 hb
          · have := (h.ol j hj b hb).1; omega
        · exact h.dj j j2 hj hj2 hne b hb hb2
    · intro j hj
      simp only [List.length_set] at hj
      by_cases hji : j = i
      · subst hji
        simp only [if_true, List.getElem_set_self]
        rw [cut_set_eq hk]
        refine hEi _ _ _ _ _ (fun b hob => same b fun e => ?_) hx'
        rcases (hox' b hob).1 with k1 | k1
        · exact hog j hi (e ▸ k1)
        · omega
      · simp only [if_neg hji]
        rw [cut_set_ne hk hji, List.getElem_set_ne (by omega)]
        refine hE j _ _ _ _ _ (fun b hb => ?_) (h.el j hj)
        rw [same b (fun e => hog j hj (e ▸ hb))]
        exact f.blk b (h.ol j hj b hb).1 (fun hb2 => h.dj j i hj hi hji b hb hb2)
    · intro u hu
      rcases List.mem_or_eq_of_mem_set hu with hu | rfl
      · exact h.one u hu
      · exact hv
  · exact (f.mono (fun b _ hb => (h.ol i hi b hb).2.1)).set (a := ⟨g, off + (i * sz + k), none⟩) (fun _ => hgF) v
theorem slS0 (s : Sl) (sz n : Nat) : slS s sz (0 : Int) (n : Int) = ⟨s.base, n, s.cap⟩ := by
  unfold slS
  have h0 : (0 : Int).toNat = 0 := rfl
  simp only [h0, Nat.zero_mul, Int.toNat_natCast, Nat.sub_zero]
  cases hb : s.base with
  | none => simp
  | some a => simp [add_zero]
end
end Go.V
