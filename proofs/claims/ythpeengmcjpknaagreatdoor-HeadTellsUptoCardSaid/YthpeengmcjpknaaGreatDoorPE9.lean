/- token.Parse's closures. -/
import Derived.Test.YthpeengmcjpknaaGreatDoorPE8
set_option linter.unusedSimpArgs false
set_option linter.unusedVariables false
namespace Go.Proofs.YthpeengmcjpknaaGreatDoor
open Go.V Go.RowKit
section
variable {w : World} {k : Value → World → Prop}
theorem one_spec (v : Str) (hk : ∀ (y : Sl) w', EF w' [.slice y.base y.len y.cap] (one1' v) (fun b => w.heap.size ≤ b ∧ b < w'.heap.size) → Fr Non w w' → k (.slice y.base y.len y.cap) w') : Cl Tryz.prog 160 [.string (mkS v)] w k := by
  refine f160_ok ?_
  unfold f160
  intro b2 w3 hb2 hw3 b4 w5 hb4 hw5 b6 w7 hb6 hw7
  have f3 : Fr Non w w3 := hw3 ▸ (Fr.refl Non w).alloc _
  have f5 : Fr Non w3 w5 := hw5 ▸ (Fr.refl Non w3).alloc _
  have f7 : Fr Non w5 w7 := hw7 ▸ (Fr.refl Non w5).alloc _
  have h2 : Blk w7 b2 9 [.string (mkS v)] := (((hb2 ▸ hw3 ▸ Blk.new w _ _ : Blk w3 b2 9 [.string (mkS v)])).fr f5 (fun h => h)).fr f7 (fun h => h)
  have h4 : Blk w7 b4 80 [.slice (some ⟨b2, 0, none⟩) 1 1] := ((hb4 ▸ hw5 ▸ Blk.new w3 _ _ : Blk w5 b4 80 [.slice (some ⟨b2, 0, none⟩) 1 1])).fr f7 (fun h => h)
  have h6 : Blk w7 b6 38 [.slice (some ⟨b4, 0, none⟩) 1 1] := hb6 ▸ hw7 ▸ Blk.new w5 _ _
  have s3 : w3.heap.size = w.heap.size + 1 := by rw [hw3]; simp
  have s5 : w5.heap.size = w3.heap.size + 1 := by rw [hw5]; simp
  have s7 : w7.heap.size = w5.heap.size + 1 := by rw [hw7]; simp
  have o2 : OwC w7 ⟨some ⟨b2, 0, none⟩, 1, 1⟩ [v] (fun c => c = b2 ∨ False) := Own.one h2 rfl (by intro v hv; simp at hv; subst hv; rfl) (show EStr w7 _ v (fun _ => False) from rfl) (fun c hc => hc.elim)
  have o4 : OwR w7 ⟨some ⟨b4, 0, none⟩, 1, 1⟩ [[v]] (fun c => c = b4 ∨ (c = b2 ∨ False)) := Own.one h4 rfl (by intro v hv; simp at hv; subst hv; rfl) (show EC w7 _ [v] _ from ⟨_, rfl, o2⟩) (fun c hc => by rcases hc with rfl | h; exact ⟨by omega, by omega⟩; exact h.elim)
  have o6 : OwF w7 ⟨some ⟨b6, 0, none⟩, 1, 1⟩ [[[v]]] (fun c => c = b6 ∨ (c = b4 ∨ (c = b2 ∨ False))) := Own.one h6 rfl (by intro v hv; simp at hv; subst hv; rfl) (show ER w7 _ [[v]] _ from ⟨_, rfl, o4⟩) (fun c hc => by rcases hc with rfl | rfl | h; exact ⟨by omega, by omega⟩; exact ⟨by omega, by omega⟩; exact h.elim)
  exact hk ⟨some ⟨b6, 0, none⟩, 1, 1⟩ w7 ⟨_, rfl, o6.mono fun c hc => by rcases hc with rfl | rfl | rfl | h; exact ⟨by omega, by omega⟩; exact ⟨by omega, by omega⟩; exact ⟨by omega, by omega⟩; exact h.elim⟩ ((f3.trans' f5).trans' f7)
theorem rdEsc_spec (d : Dm) (ok : OkD d) {b : Nat} {T : TypeId} (hD : Blk w b T (dvD d)) (v : Str) (hl : v.length ≤ 65536) (hk : ∀ w', Fr Non w w' → k (.string (mkS (readP d v))) w') :
    Cl Tryz.prog 155 [.string (mkS v), .pointer (some ⟨b, 0, none⟩)] w k := by
  refine f155_ok ?_
  unfold f155
  rintro w3 rfl
  have hD3 : Blk w.drew b T (dvD d) := hD
  exact ⟨_, _, _, _, _, hD3.ats (dvD d) 0 0 (fun q v hq => by simpa using hq), clone_spec v (by omega) fun w9 g9 => ⟨g9.ext, _, rfl, read_spec d ok v (by omega) fun w12 g12 => ⟨_, rfl, hk _ (((Fr.refl Non w).drew.trans' g9).trans' g12)⟩⟩⟩
theorem rdC_spec (d : Dm) (ok : OkD d) {b bl : Nat} {T T2 : TypeId} (x0 : Bool) (hD : Blk w b T (dvD d)) (hne : b ≠ bl) (hG : GMax w) (hGb : gMax ≠ bl) (hb : Blk w bl T2 [.bool x0]) (s : Str) (hl : s.length ≤ 65536)
    (hk : ∀ (y : Sl) w', EC w' [.slice y.base y.len y.cap] (rdC d s) (fun b => w.heap.size ≤ b ∧ b < w'.heap.size) → Fr (fun c => c = bl) w w' → Blk w' bl T2 [.bool (x0 || bdC d s)] → k (.slice y.base y.len y.cap) w') :
    Cl Tryz.prog 153 [.string (mkS s), .pointer (some ⟨b, 0, none⟩), .pointer (some ⟨bl, 0, none⟩)] w k := by
  refine f153_ok ?_
  unfold f153
  refine ⟨_, by rw [add_mk]; exact hD.cell rfl, cut0_spec s d.s _ (readP d) (fun _ => false) x0 hl hG hGb hb (fun v w1 x k1 f1 hb1 hvl hk1 => ?_) fun y w' hy f' hb' => ⟨y, rfl, hk y w' ⟨y, rfl, hy⟩ f' hb'⟩⟩
  refine Cv.of (caps := [.pointer (some ⟨b, 0, none⟩)]) (.mk (by kernel_rfl)) ?_
  refine rdEsc_spec d ok (hD.fr f1 hne) v (by omega) fun w2 f2 => hk1 w2 (f2.mono fun _ _ h => h.elim) ?_
  rw [Bool.or_false]
  exact hb1.fr f2 (fun h => h)
theorem rdR_spec (d : Dm) (ok : OkD d) {b bl bc : Nat} {T T2 T3 : TypeId} (x0 : Bool) (hD : Blk w b T (dvD d)) (hne : b ≠ bl) (hC : Blk w bc T3 [.func (.func 153) #[] (List.toArray [.pointer (some ⟨b, 0, none⟩), .pointer (some ⟨bl, 0, none⟩)])]) (hne2 : bc ≠ bl) (hG : GMax w) (hGb : gMax ≠ bl) (hb : Blk w bl T2 [.bool x0]) (s : Str) (hl : s.length ≤ 65536)
    (hk : ∀ (y : Sl) w', ER w' [.slice y.base y.len y.cap] (rdR d s) (fun b => w.heap.size ≤ b ∧ b < w'.heap.size) → Fr (fun c => c = bl) w w' → Blk w' bl T2 [.bool (x0 || bdR d s)] → k (.slice y.base y.len y.cap) w') :
    Cl Tryz.prog 157 [.string (mkS s), .pointer (some ⟨b, 0, none⟩), .pointer (some ⟨bl, 0, none⟩), .pointer (some ⟨bc, 0, none⟩)] w k := by
  refine f157_ok ?_
  unfold f157
  refine ⟨_, by rw [add_mk]; exact hD.cell rfl, _, hC.cell rfl, cut1_spec s d.c _ (rdC d) (bdC d) x0 hl hG hGb hb (fun v w1 x k1 f1 hb1 hvl hk1 => ?_) fun y w' hy f' hb' => ⟨y, rfl, hk y w' ⟨y, rfl, hy⟩ f' hb'⟩⟩
  refine Cv.of (caps := [.pointer (some ⟨b, 0, none⟩), .pointer (some ⟨bl, 0, none⟩)]) (.mk (by kernel_rfl)) ?_
  exact rdC_spec d ok x (hD.fr f1 hne) hne (hG.fr f1 hGb) hGb hb1 v (by omega) fun z w2 hz f2 hb2 => hk1 z w2 hz f2 hb2
theorem rdF_spec (d : Dm) (ok : OkD d) {b bl bc : Nat} {T T2 T3 : TypeId} (x0 : Bool) (hD : Blk w b T (dvD d)) (hne : b ≠ bl) (hC : Blk w bc T3 [.func (.func 153) #[] (List.toArray [.pointer (some ⟨b, 0, none⟩), .pointer (some ⟨bl, 0, none⟩)])]) (hne2 : bc ≠ bl) (hG : GMax w) (hGb : gMax ≠ bl) (hb : Blk w bl T2 [.bool x0]) (s : Str) (hl : s.length ≤ 65536)
    (hk : ∀ (y : Sl) w', EF w' [.slice y.base y.len y.cap] (rdF d s) (fun b => w.heap.size ≤ b ∧ b < w'.heap.size) → Fr (fun c => c = bl) w w' → Blk w' bl T2 [.bool (x0 || bdF d s)] → k (.slice y.base y.len y.cap) w') :
    Cl Tryz.prog 162 [.string (mkS s), .int .u8 (d.r.toNat : Int), .pointer (some ⟨bl, 0, none⟩), .func (.func 157) #[] (List.toArray [.pointer (some ⟨b, 0, none⟩), .pointer (some ⟨bl, 0, none⟩), .pointer (some ⟨bc, 0, none⟩)])] w k := by
  refine cut2_spec s d.r _ (rdR d) (bdR d) x0 hl hG hGb hb (fun v w1 x k1 f1 hb1 hvl hk1 => ?_) fun y w' hy f' hb' => hk y w' ⟨y, rfl, hy⟩ f' hb'
  refine Cv.of (caps := [.pointer (some ⟨b, 0, none⟩), .pointer (some ⟨bl, 0, none⟩), .pointer (some ⟨bc, 0, none⟩)]) (.mk (by kernel_rfl)) ?_
  exact rdR_spec d ok x (hD.fr f1 hne) hne (hC.fr f1 hne2) hne2 (hG.fr f1 hGb) hGb hb1 v (by omega) fun z w2 hz f2 hb2 => hk1 z w2 hz f2 hb2
theorem Own.two {α : Type} {P : Program} {t T : TypeId} {z : Value} {by_ : Nat} {E : EP α} (ht : P.underlying t = some (.slice T)) (hs : Sz P T 1) (hz : Zr P T z) (hb : Bts P T by_) (hzs : z.cells.size = 1) (hE : ESt E) (hby : 2 * by_ ≤ 140737488355328)
    {x y : α} {vx vy : Value} {ox oy : Nat → Prop} (hx : E w [vx] x ox) (hy : E w [vy] y oy) (h1 : vx.oneCell' = true) (h2 : vy.oneCell' = true) (hox : ∀ b, ox b → b < w.heap.size) (hoy : ∀ b, oy b → b < w.heap.size) (hd : ∀ b, ox b → ¬ oy b)
    {b : Nat} {T' : TypeId} (hB : Blk w b T' [vx, vy]) {c : Nat} (ty : TypeId) :
    ∃ s' w', (Builtin.append_ #[t, t] ty #[.slice none 0 0, .slice (some ⟨b, 0, none⟩) 2 c]).run P w = .ok (.slice (Sl.base s') s'.len s'.cap) w' ∧
      Own T 1 (fun _ => E) w' s' [x, y] (fun b => (ox b ∨ oy b ∨ w.heap.size ≤ b) ∧ b < w'.heap.size) ∧ Fr Non w w' := by
  obtain ⟨s', w', hr, ho, hl, hf⟩ := append_own (P := P) (t := t) (e := T) (z := z) (sz := 1) (by_ := by_) ht hs hz hb hzs (by omega) (SlOk.nil w T 1 Non) (news := [vx, vy]) (m := 2) (c := c) rfl (.inr ⟨⟨b, 0, none⟩, rfl, fun j u hj => by rw [add_mk, Nat.zero_add]; exact hB.cell hj⟩)
    (fun u hu => by simp at hu; rcases hu with rfl | rfl; exact h1; exact h2) (by simpa using hby) (by simp) ty
  refine ⟨s', w', hr, ?_, hf⟩
  have hz' := hf.size
  have hl2 : s'.len = 2 := hl
  have hlt : w.heap.size < w'.heap.size := by
    rcases ho with ⟨_, h, _⟩ | ⟨g, hg, hA⟩
    · omega
    · rcases hg with hg | rfl
      · exact hg.elim
      · exact hA.lt
  refine ⟨[vx, vy], fun g => g = w.heap.size, fun i => if i = 0 then ox else oy, ?_⟩
  refine ⟨ho.mono (fun g hg => by rcases hg with hg | hg; exact hg.elim; exact hg), by rw [hl2]; rfl, ?_, ?_, ?_, ?_, ?_⟩
  · rintro g rfl; exact ⟨hlt, .inr (.inr (Nat.le_refl _)), hlt⟩
  · intro i hi g hg
    simp only [List.length_cons, List.length_nil] at hi
    by_cases h0 : i = 0
    · rw [if_pos h0] at hg
      have := hox g hg
      exact ⟨by omega, ⟨.inl hg, by omega⟩, by omega⟩
    · rw [if_neg h0] at hg
      have := hoy g hg
      exact ⟨by omega, ⟨.inr (.inl hg), by omega⟩, by omega⟩
  · intro i j hi hj hij g hg hg2
    simp only [List.length_cons, List.length_nil] at hi hj
    by_cases h0 : i = 0
    · have hj0 : j ≠ 0 := by omega
      rw [if_pos h0] at hg; rw [if_neg hj0] at hg2
      exact hd g hg hg2
    · have hj0 : j = 0 := by omega
      rw [if_neg h0] at hg; rw [if_pos hj0] at hg2
      exact hd g hg2 hg
  · intro i hi
    have hi2 : i = 0 ∨ i = 1 := by simp only [List.length_cons, List.length_nil] at hi; omega
    rcases hi2 with rfl | rfl
    · exact hE _ _ _ _ _ (fun b hb => hf.blk b (hox b hb) (fun h => h)) hx
    · exact hE _ _ _ _ _ (fun b hb => hf.blk b (hoy b hb) (fun h => h)) hy
  · intro v hv
    simp at hv
    rcases hv with rfl | rfl
    · exact h1
    · exact h2
end
end Go.Proofs.YthpeengmcjpknaaGreatDoor
