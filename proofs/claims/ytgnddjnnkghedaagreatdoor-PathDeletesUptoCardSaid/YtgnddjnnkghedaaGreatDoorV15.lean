/- Clearing; an element taken out of a list of one's own. -/
import Derived.Test.YtgnddjnnkghedaaGreatDoorVR
set_option linter.unusedSimpArgs false
set_option linter.unusedVariables false
namespace Go.V
open Go.RowKit
section
variable {P : Program} {w : World} {t e : TypeId} {z : Value}
/-- Appending where there is room. -/
theorem append_room {s : Sl} {g off : Nat} {cs news : List Value} {a : Option Addr} {m c sz : Nat} (ht : P.underlying t = some (.slice e)) (hs : Sz P e sz) (hb : s.base = some ⟨g, off, none⟩) (hB : Blk w g e cs) (hle : off + s.cap * sz ≤ cs.length) (hroom : s.len + m ≤ s.cap)
    (hl : news.length = m * sz) (hn : ∃ ad, a = some ad ∧ ∀ j u, news[j]? = some u → w.cell? (ad.add j) = some u) (h1 : ∀ u ∈ news, u.oneCell' = true) (ty : TypeId) :
    (Builtin.append_ #[t, t] ty #[.slice s.base s.len s.cap, .slice a m c]).run P w = .ok (.slice s.base (s.len + m) s.cap) (setCells w ⟨g, off + s.len * sz, none⟩ 0 news) := by
  unfold Sz at hs
  obtain ⟨i, hi, rfl⟩ := Option.map_eq_some_iff.1 hs
  obtain ⟨ad, rfl, hn⟩ := hn
  have hfirst : (Builtin.firstCells i.size m (.slice (some ad) m c)).run P w = .ok news.toArray w := run_firstCells_some (P := P) w i.size m ad m c news hl hn
  have hlen : off + s.len * i.size + news.length ≤ cs.length := by
    rw [hl, Nat.add_assoc, ← Nat.add_mul]
    exact Nat.le_trans (Nat.add_le_add_left (Nat.mul_le_mul_right _ hroom) _) hle
  have hst := setCells_row (P := P) news cs 0 (off + s.len * i.size) w hB (by omega) h1
  simp only [Builtin.append_, List.getElem?_toArray, List.getElem?_cons_zero, List.getElem?_cons_succ, Sem.run_bind, run_underlying ht, Result.andThen_ok, sizeOf, typeInfo, hi, run_program, Sem.run_pure, Builtin.lenOf]
  simp [hroom, hfirst, hb, add_mk, hst]
/-- Clearing. -/
theorem clear_row {g off m c sz : Nat} {cs : List Value} (ht : P.underlying t = some (.slice e)) (hz : Zr P e z) (hzs : z.cells.size = sz) (h1 : ∀ u ∈ (Builtin.zeroCells z.cells (m + 1)).toList, u.oneCell' = true) (hB : Blk w g e cs) (hle : off + (m + 1) * sz ≤ cs.length) (ty : TypeId) :
    (Builtin.clear_ #[t] ty #[.slice (some ⟨g, off, none⟩) (m + 1) c]).run P w = .ok (.tuple #[]) (setCells w ⟨g, off, none⟩ 0 (Builtin.zeroCells z.cells (m + 1)).toList) := by
  have hst := setCells_row (P := P) (Builtin.zeroCells z.cells (m + 1)).toList cs 0 off w hB (by rw [toList_zeroCells_len, hzs]; omega) h1
  have hzr := run_zeroValue (P := P) hz w
  simp [Builtin.clear_, run_underlying ht, hzr, hst]
/-- An element taken out of a list of one's own, as slices.Delete does it. -/
theorem del_row {s : Sl} {xs : List Value} {F : Nat → Prop} {i sz : Nat} (ht : P.underlying t = some (.slice e)) (hs : Sz P e sz) (hz : Zr P e z) (hzs : z.cells.size = sz) (hsz : 0 < sz) (hz1 : ∀ u ∈ (Builtin.zeroCells z.cells 1).toList, u.oneCell' = true)
    (h : SlOk w e sz s xs F) (hi : i < s.len) (h1 : ∀ u ∈ xs, u.oneCell' = true) (ty ty2 : TypeId) :
    ∃ w1 w2, (Builtin.append_ #[t, t] ty #[.slice (slS s sz 0 i).base (slS s sz 0 i).len (slS s sz 0 i).cap, .slice (slS s sz (i + 1) s.len).base (slS s sz (i + 1) s.len).len (slS s sz (i + 1) s.len).cap]).run P w = .ok (.slice s.base (s.len - 1) s.cap) w1 ∧ Fr F w w1 ∧
      (Builtin.clear_ #[t] ty2 #[.slice (slS ⟨s.base, s.len - 1, s.cap⟩ sz ((s.len - 1 : Nat) : Int) s.len).base (slS ⟨s.base, s.len - 1, s.cap⟩ sz ((s.len - 1 : Nat) : Int) s.len).len (slS ⟨s.base, s.len - 1, s.cap⟩ sz ((s.len - 1 : Nat) : Int) s.len).cap]).run P w1 = .ok (.tuple #[]) w2 ∧
      SlOk w2 e sz ⟨s.base, s.len - 1, s.cap⟩ (xs.take (i * sz) ++ xs.drop ((i + 1) * sz)) F ∧ Fr F w w2 := by
  rcases h with ⟨_, h0, _, _⟩ | ⟨g, hF, hA⟩
  · omega
  obtain ⟨off, cs, hb, hB, hle, htk⟩ := hA.has
  have hlen := hA.len
  have hcap := hA.le
  obtain ⟨base, len, cap⟩ := s
  simp only at hb hle htk hlen hcap hi
  subst hb
  -- the two slices
  have e1 : slS ⟨some ⟨g, off, none⟩, len, cap⟩ sz (0 : Int) (i : Int) = ⟨some ⟨g, off, none⟩, i, cap⟩ := slS0 _ _ _
  rw [e1]
  have hmul : ∀ a b : Nat, a ≤ b → a * sz ≤ b * sz := fun a b hab => Nat.mul_le_mul_right _ hab
  have hi1 := hmul (i + 1) len (by omega)
  have hlc := hmul len cap hcap
  have himul : (i + 1) * sz = i * sz + sz := by rw [Nat.add_mul, Nat.one_mul]
  have hlmul : len * sz = (len - 1) * sz + sz := by rw [← Nat.succ_mul]; congr 1; omega
  have hdrop : xs.drop ((i + 1) * sz) = xs.drop ((i + 1) * sz) := rfl
  have hnl : (xs.drop ((i + 1) * sz)).length = (len - 1 - i) * sz := by
    rw [List.length_drop, hlen, ← Nat.sub_mul]; congr 1; omega
  have hcell : ∀ j u, xs[j]? = some u → w.cell? ⟨g, off + j, none⟩ = some u := by
    intro j u hu
    obtain ⟨off', hb', hc⟩ := hA.cells hu
    cases hb'; exact hc
  have happ := append_room (P := P) (w := w) (t := t) (e := e) (s := ⟨some ⟨g, off, none⟩, i, cap⟩) (g := g) (off := off) (cs := cs) (news := xs.drop ((i + 1) * sz))
    (a := (slS ⟨some ⟨g, off, none⟩, len, cap⟩ sz ((i : Int) + 1) (len : Int)).base) (m := len - 1 - i) (c := (slS ⟨some ⟨g, off, none⟩, len, cap⟩ sz ((i : Int) + 1) (len : Int)).cap) (sz := sz) ht hs rfl hB hle (by simp only; omega) hnl
    (by
      have e3 : ((i : Int) + 1).toNat = i + 1 := by omega
      by_cases hc : cap = i + 1
      · refine ⟨⟨g, off, none⟩, by simp [slS, hc, e3], fun j u hu => ?_⟩
        have : (xs.drop ((i + 1) * sz)) = [] := List.eq_nil_of_length_eq_zero (by rw [hnl, show len - 1 - i = 0 from by omega, Nat.zero_mul])
        rw [this] at hu; simp at hu
      · refine ⟨⟨g, off + (i + 1) * sz, none⟩, by simp [slS, hc, e3, add_mk], fun j u hu => ?_⟩
        rw [List.getElem?_drop] at hu
        rw [add_mk, Nat.add_assoc]
        exact hcell _ _ hu) (fun u hu => h1 u (List.mem_of_mem_drop hu)) ty
  have e2 : (slS ⟨some ⟨g, off, none⟩, len, cap⟩ sz ((i : Int) + 1) (len : Int)).len = len - 1 - i := by simp only [slS]; omega
  obtain ⟨hB1, hf1⟩ := setCells_off (xs.drop ((i + 1) * sz)) cs (off + i * sz) 0 w hB (by rw [hnl]; have := hmul i len (by omega); have h5 : (len - 1 - i) * sz + i * sz = (len - 1) * sz := by rw [← Nat.add_mul]; congr 1; omega
                                                                                          omega)
  have hcsl : ∀ (ys : List Value), (cs.take (off + i * sz + 0) ++ xs.drop ((i + 1) * sz) ++ cs.drop (off + i * sz + 0 + (xs.drop ((i + 1) * sz)).length)).length = cs.length := by
    intro _
    have h5 : (len - 1 - i) * sz + i * sz = (len - 1) * sz := by rw [← Nat.add_mul]; congr 1; omega
    simp only [List.length_append, List.length_take, List.length_drop] at hnl ⊢
    omega
  have hcsl := hcsl []
  have hclr := clear_row (P := P) (w := setCells w ⟨g, off + i * sz, none⟩ 0 (xs.drop ((i + 1) * sz))) (t := t) (e := e) (z := z) (g := g) (off := off + (len - 1) * sz) (m := 0) (c := cap - (len - 1)) (sz := sz) ht hz hzs hz1 hB1 (by rw [hcsl]; omega) ty2
  obtain ⟨hB2, hf2⟩ := setCells_off (Builtin.zeroCells z.cells 1).toList _ (off + (len - 1) * sz) 0 _ hB1 (by rw [hcsl, toList_zeroCells_len, hzs]; omega)
  refine ⟨_, _, ?_, hf1.mono (fun b _ h => h ▸ hF), ?_, .inr ⟨g, hF, ?_, by simp only; omega, off, _, rfl, hB2, ?_, ?_⟩, (hf1.trans' hf2).mono (fun b _ h => h ▸ hF)⟩
  · rw [e2]
    have : i + (len - 1 - i) = len - 1 := by omega
    simp only [this] at happ
    exact happ
  · have e4 : slS ⟨some ⟨g, off, none⟩, len - 1, cap⟩ sz ((len - 1 : Nat) : Int) (len : Int) = ⟨some ⟨g, off + (len - 1) * sz, none⟩, 1, cap - (len - 1)⟩ := by
      have hne : cap ≠ len - 1 := by omega
      simp only [slS, Int.toNat_natCast, if_neg hne, Option.map_some, add_mk]
      congr 1; omega
    rw [e4]
    exact hclr
  · simp only [List.length_append, hnl, List.length_take, hlen]
    have h5 : (len - 1 - i) * sz + i * sz = (len - 1) * sz := by rw [← Nat.add_mul]; congr 1; omega
    have := hmul i len (by omega)
    omega
  · simp only [List.length_append, List.length_take, List.length_drop, toList_zeroCells_len, hzs] at hcsl ⊢
    omega
  · -- the cells
    have h5 : (len - 1 - i) * sz + i * sz = (len - 1) * sz := by rw [← Nat.add_mul]; congr 1; omega
    have hi0 := hmul i len (by omega)
    have hxs : (cs.drop off).take (len * sz) = xs := htk
    have hpre : (cs.take (off + i * sz)).drop off = xs.take (i * sz) := by
      rw [List.drop_take, Nat.add_sub_cancel_left, ← hxs, List.take_take, Nat.min_eq_left hi0]
    generalize hnews : xs.drop ((i + 1) * sz) = news at *
    generalize (Builtin.zeroCells z.cells 1).toList = zc
    simp only [Nat.add_zero]
    have hA1 : (cs.take (off + i * sz) ++ news ++ cs.drop (off + i * sz + news.length)).take (off + (len - 1) * sz) = cs.take (off + i * sz) ++ news := by
      rw [List.take_append_of_le_length (by simp only [List.length_append, List.length_take]; omega)]
      apply List.take_of_length_le
      simp only [List.length_append, List.length_take]; omega
    rw [hA1, List.append_assoc, List.append_assoc, List.drop_append_of_le_length (by simp only [List.length_take]; omega), hpre, ← List.append_assoc]
    rw [List.take_append_of_le_length (by simp only [List.length_append, List.length_take, hlen]; omega)]
    apply List.take_of_length_le
    simp only [List.length_append, List.length_take, hlen]; omega
end
end Go.V
