/- token.Parse: what is read of a text. -/
import Derived.Test.YthpeengmcjpknaaGreatDoorPE9
import Derived.Test.YthpeengmcjpknaaGreatDoorPE4
set_option linter.unusedSimpArgs false
set_option linter.unusedVariables false
namespace Go.Proofs.YthpeengmcjpknaaGreatDoor
open Go.V Go.RowKit
theorem sm_rdC (d : Dm) {s : Str} (h : s.length ≤ 65536) : SmC (rdC d s) := by
  unfold rdC cutP
  split
  · exact ⟨by simp, fun u hu => by simp at hu⟩
  · refine ⟨by rw [List.length_map]; unfold BB; omega, fun u hu => ?_⟩
    obtain ⟨v, hv, rfl⟩ := List.mem_map.1 hu
    have h1 := split_mem _ _ _ hv
    have h2 := readP_len d v.length v (Nat.le_refl _)
    unfold BB; omega
theorem sm_rdR (d : Dm) {s : Str} (h : s.length ≤ 65536) : SmR (rdR d s) := by
  unfold rdR cutP
  split
  · exact ⟨by simp, fun u hu => by simp at hu⟩
  · refine ⟨by rw [List.length_map]; unfold BB; omega, fun u hu => ?_⟩
    obtain ⟨v, hv, rfl⟩ := List.mem_map.1 hu
    have h1 := split_mem _ _ _ hv
    exact sm_rdC d (by omega)
theorem sm_rdF (d : Dm) {s : Str} (h : s.length ≤ 65536) : SmF (rdF d s) := by
  unfold rdF cutP
  split
  · exact ⟨by simp, fun u hu => by simp at hu⟩
  · refine ⟨by rw [List.length_map]; unfold BB; omega, fun u hu => ?_⟩
    obtain ⟨v, hv, rfl⟩ := List.mem_map.1 hu
    have h1 := split_mem _ _ _ hv
    exact sm_rdR d (by omega)
theorem sm_one (v : Str) (h : v.length ≤ 65536) : SmF (one1' v) := by
  refine ⟨by simp [one1', BB], fun r hr => ?_⟩
  simp [one1'] at hr; subst hr
  refine ⟨by simp [BB], fun c hc => ?_⟩
  simp at hc; subst hc
  exact ⟨by simp [BB], fun u hu => by simp at hu; subst hu; unfold BB; omega⟩
theorem nmOf_cons (d : Dm) (p : Str) : ∃ r, splitP d.f p = nmOf d p :: r := by
  unfold nmOf
  cases h : splitP d.f p with
  | nil => exact absurd h (splitP_ne _ _)
  | cons a r => exact ⟨r, rfl⟩
theorem sm_seg (d : Dm) (j : Nat) {p : Str} (h : p.length ≤ 65536) : SmG (segAt d j p) := by
  obtain ⟨r, hr⟩ := nmOf_cons d p
  have hn : (nmOf d p).length ≤ p.length := split_mem d.f p _ (by rw [hr]; simp)
  have hl := splitP_len d.f p
  have hm := split_mem d.f p
  unfold segAt
  split
  · refine ⟨by show (nmOf d p).length ≤ _; unfold BB; omega, ?_, fun f hf => ?_⟩
    · show (one1' [d.f] :: one1' [d.c, d.r, d.e, d.s] :: ((splitP d.f p).drop 2).map (rdF d)).length ≤ _
      simp only [List.length_cons, List.length_map, List.length_drop]; unfold BB; omega
    · have hf : f ∈ one1' [d.f] :: one1' [d.c, d.r, d.e, d.s] :: ((splitP d.f p).drop 2).map (rdF d) := hf
      rcases List.mem_cons.1 hf with rfl | hf
      · exact sm_one _ (by simp)
      · rcases List.mem_cons.1 hf with rfl | hf
        · exact sm_one _ (by simp)
        · obtain ⟨v, hv, rfl⟩ := List.mem_map.1 hf
          have := hm v (List.mem_of_mem_drop hv)
          exact sm_rdF d (by omega)
  · refine ⟨by show (nmOf d p).length ≤ _; unfold BB; omega, ?_, fun f hf => ?_⟩
    · show (((splitP d.f p).drop 1).map (rdF d)).length ≤ _
      simp only [List.length_map, List.length_drop]; unfold BB; omega
    · have hf : f ∈ ((splitP d.f p).drop 1).map (rdF d) := hf
      obtain ⟨v, hv, rfl⟩ := List.mem_map.1 hf
      have := hm v (List.mem_of_mem_drop hv)
      exact sm_rdF d (by omega)
theorem sgU_mem (d : Dm) (ps : List Str) : ∀ j g, g ∈ sgU d ps j → ∃ i p, p ∈ ps ∧ g = segAt d i p
  | 0, g, h => by simp [sgU] at h
  | j + 1, g, h => by
    have h : g ∈ sgU d ps j ++ _ := h
    rcases List.mem_append.1 h with h | h
    · exact sgU_mem d ps j g h
    · cases hp : ps[j]? with
      | none => rw [hp] at h; simp at h
      | some p =>
        rw [hp] at h
        simp at h
        exact ⟨j, p, List.mem_of_getElem? hp, h⟩
theorem sm_sgU (d : Dm) {ps : List Str} (hn : ps.length ≤ 70000) (h : ∀ p ∈ ps, p.length ≤ 65536) : SmM (sgU d ps ps.length) := by
  have hl := sgU_len d ps ps.length
  refine ⟨by unfold BB; omega, fun g hg => ?_⟩
  obtain ⟨i, p, hp, rfl⟩ := sgU_mem d ps _ g hg
  exact sm_seg d i (h p hp)
theorem sub_min (p : Str) : sub p (0 : Int) (if (p.length : Int) < 3 then (p.length : Int) else 3) = p.take 3 := by
  by_cases h : (p.length : Int) < 3
  · rw [if_pos h, sub_pre, List.take_length, List.take_of_length_le (by omega)]
  · rw [if_neg h]; exact sub_pre p msh
theorem RdL.dropS {E : World → Addr → Str → Prop} {w : World} {s : Sl} {l : List Str} (n : Nat) (h : RdL 1 E w s l) (hc : s.len ≤ s.cap) (hn : n ≤ l.length) : RdL 1 E w (slS s 1 (n : Int) (s.len : Int)) (l.drop n) := by
  have hL := h.1
  refine ⟨by unfold slS; simp only [Int.toNat_natCast, List.length_drop]; omega, fun i hi => ?_⟩
  rw [List.length_drop] at hi
  obtain ⟨c, hb, hr⟩ := h.2 (n + i) (by omega)
  refine ⟨c.add n, ?_, ?_⟩
  · unfold slS
    simp only [Int.toNat_natCast, Nat.mul_one, hb]
    rw [if_neg (by omega)]; rfl
  · rw [Nat.mul_one, List.getElem_drop, add_add]
    rw [Nat.mul_one] at hr
    exact hr
theorem slS_cap (s : Sl) (n : Nat) (hc : s.len ≤ s.cap) : (slS s 1 (n : Int) (s.len : Int)).len ≤ (slS s 1 (n : Int) (s.len : Int)).cap := by
  unfold slS; simp only [Int.toNat_natCast]; omega
theorem okL_j (nm : Str → Bool) (d : Dm) (j : Nat) (p : Str) : okL nm d j p = (nm (p.take 3) && ((decide (p.length ≤ 3) || (p.getD 3 0 == d.f)) && (decide (j = 0) || !(msh.isPrefixOf p)))) := by
  unfold okL lnOk; rw [Bool.and_assoc]
end Go.Proofs.YthpeengmcjpknaaGreatDoor
