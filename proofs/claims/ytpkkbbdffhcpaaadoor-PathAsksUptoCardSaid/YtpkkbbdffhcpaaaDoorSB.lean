/- The document writes a number in digits. -/
import Derived.Test.YtpkkbbdffhcpaaaDoorSA
set_option linter.unusedSimpArgs false
set_option linter.unusedVariables false
namespace Go.Proofs.YtpkkbbdffhcpaaaDoor
open Go.V Go.RowKit
theorem dig_byte2 (d : Nat) (hd : d < 10) : IntKind.u8.wrap (IntKind.i64.wrap (48 + (d : Int))) = ((UInt8.ofNat (48 + d)).toNat : Int) := by
  rw [w64_id (by omega) (by omega), wu8_id (by omega) (by omega)]
  have : (UInt8.ofNat (48 + d)).toNat = 48 + d := by
    rw [UInt8.toNat_ofNat']; omega
  rw [this]; push_cast; rfl
section
variable {w : World} {k : Value → World → Prop}
theorem rdigits_spec (N : Nat) (hN : N < 9000000000000000000) (hk : ∀ w', Fr Non w w' → k (.string (mkS (dec N))) w') : Cl Tryd.prog 34 [.int .i64 (N : Int)] w k := by
  refine f34_ok ?_
  unfold f34
  refine ⟨fun h => ?_, fun h => ?_⟩
  · have h : N = 0 := by simp at h; omega
    subst h
    exact hk _ (Fr.refl _ _)
  have hN0 : N ≠ 0 := by intro e; simp [e] at h
  have hneg : ¬ (N : Int) < 0 := by omega
  refine ⟨fun m b5 v w' => ∃ (f q : Nat) (suf : Str) (G : Nat → Prop), m = f ∧ v = (q : Int) ∧ q < 10 ^ f ∧ q ≤ N ∧ (q = 0 → dec N = suf) ∧ (q ≠ 0 → 0 < f ∧ dec N = decF f q ++ suf) ∧ f + suf.length = 20 ∧ SlOk w' 5 1 b5 (bys suf) G ∧ (∀ g, G g → w.heap.size ≤ g ∧ g < w'.heap.size) ∧ Fr Non w w',
    ⟨20, 20, N, [], Non, rfl, rfl, by omega, Nat.le_refl _, fun e => absurd e hN0, fun _ => ⟨by omega, by simp [dec]⟩, rfl, SlOk.nil _ _ _ _, fun _ h => h.elim, Fr.refl _ _⟩, ?_⟩
  rintro m b5 v w1 ⟨f, q, suf, G, rfl, rfl, hqf, hqN, hz, hnz, hfl, hsl, hG, hfr⟩
  refine ⟨fun hv => ⟨by decide, ?_⟩, fun hv => ?_⟩
  · have hq0 : q ≠ 0 := by intro e; simp [e] at hv
    obtain ⟨hf0, hdec⟩ := hnz hq0
    obtain ⟨g, rfl⟩ : ∃ g, m = g + 1 := ⟨m - 1, by omega⟩
    have em : ((q : Int)).tmod 10 = ((q % 10 : Nat) : Int) := by rw [Int.tmod_eq_emod_of_nonneg (by omega)]; push_cast; rfl
    have ed : ((q : Int)).tdiv 10 = ((q / 10 : Nat) : Int) := by rw [Int.tdiv_eq_ediv_of_nonneg (by omega)]; push_cast; rfl
    rw [em, ed]
    refine ⟨fun d w' => d = ((q % 10 : Nat) : Int) ∧ w' = w1, ?_, fun h => by have := of_decide_eq_true h; omega, fun _ => ⟨rfl, rfl⟩⟩
    rintro d w2 ⟨rfl, rfl⟩
    rintro b11 w3 rfl hw3
    rw [dig_byte2 _ (by omega)] at hw3
    have f3 : Fr Non w2 w3 := hw3 ▸ (Fr.refl Non w2).alloc _
    have z3 : w3.heap.size = w2.heap.size + 1 := by rw [hw3]; simp
    have hB3 : Blk w3 w2.heap.size 5 (bys [UInt8.ofNat (48 + q % 10)]) := hw3 ▸ Blk.new w2 _ _
    have hs3 := hsl.fr f3 (fun _ _ h => h)
    have hb5 : b5.len = suf.length := by have := hs3.len; simp [bys] at this; exact this.symm
    have hown : SlOk w3 5 1 ⟨some ⟨w2.heap.size, 0, none⟩, 1, 1⟩ (bys [UInt8.ofNat (48 + q % 10)]) (fun g => g = w2.heap.size) := .inr ⟨_, rfl, by simp [bys], Nat.le_refl _, 0, _, rfl, hB3, by simp [bys], by simp [bys]⟩
    have hnew : (b5.base = none ∧ b5.len = 0) ∨ ∃ ad, b5.base = some ad ∧ ∀ j u, (bys suf)[j]? = some u → w3.cell? (ad.add j) = some u := by
      rcases hs3 with ⟨e1, e2, _, _⟩ | ⟨g2, hg2, hA⟩
      · exact .inl ⟨e1, e2⟩
      · obtain ⟨off, cs, hb, _⟩ := hA.has
        refine .inr ⟨_, hb, fun j u hu => ?_⟩
        obtain ⟨off2, hb2, hc2⟩ := hA.cells hu
        rw [hb] at hb2
        cases hb2
        rw [add_mk]; exact hc2
    obtain ⟨s', w4, hr, hs4, hlen4, f4⟩ := append_own (P := Tryd.prog) (t := 92) (e := 5) (sz := 1) (by_ := 1) (z := .int .u8 0) (by kernel_rfl) (Sz.mk (by kernel_rfl)) (Zr.mk (by kernel_rfl)) (Bts.mk (by kernel_rfl)) rfl (by decide) hown (news := bys suf) (a := b5.base) (m := b5.len) (c := b5.cap) (by simp [bys, hb5]) hnew (by intro u hu; simp only [bys, List.mem_map] at hu; obtain ⟨x, _, rfl⟩ := hu; rfl) (by simp only; omega) (by simp only; omega) 92
    have g3 : Fr Non w w3 := hfr.trans f3 (fun _ _ h => h)
    have g4 : Fr Non w w4 := g3.trans f4 (fun b hb e => by have := hfr.size; omega)
    rw [w64_id (by omega) (by omega)]
    refine ⟨s', w4, hr, by decide, g, by omega, g, q / 10, UInt8.ofNat (48 + q % 10) :: suf, (fun g2 => (g2 = w2.heap.size ∨ g2 = w3.heap.size) ∧ g2 < w4.heap.size), rfl, rfl, ?_, by omega, ?_, ?_, by simp; omega, ?_, ?_, g4⟩
    · rw [Nat.div_lt_iff_lt_mul (by omega)]; rw [Nat.pow_succ] at hqf; exact hqf
    · intro h0
      have hq10 : q < 10 := by omega
      rw [hdec, decF, if_pos hq10, Nat.mod_eq_of_lt hq10]; rfl
    · intro h0
      have hq10 : ¬ q < 10 := by omega
      refine ⟨?_, by rw [hdec, decF, if_neg hq10, List.append_assoc]; rfl⟩
      rcases Nat.eq_zero_or_pos g with rfl | h
      · simp at hqf; omega
      · exact h
    · have hrs : SlOk w4 5 1 s' (bys (UInt8.ofNat (48 + q % 10) :: suf)) (fun g2 => g2 = w2.heap.size ∨ g2 = w3.heap.size) := by simpa [bys] using hs4
      rcases hrs with h | ⟨g2, hg2, hA⟩
      · exact .inl h
      · exact .inr ⟨g2, ⟨hg2, hA.lt⟩, hA⟩
    · rintro g2 ⟨hg2 | hg2, hlt⟩
      · exact ⟨by have := hfr.size; omega, hlt⟩
      · exact ⟨by have := g3.size; omega, hlt⟩
  · have hq0 : q = 0 := by simp at hv; omega
    have hd := hz hq0
    refine ⟨fun s w' => s = b5 ∧ w' = w1, ?_, fun h => absurd (of_decide_eq_true h) hneg, fun _ => ⟨rfl, rfl⟩⟩
    rintro s w17 ⟨rfl, rfl⟩
    exact ⟨suf, hsl.bytes, by rw [← hd]; exact hk _ hfr⟩
end
end Go.Proofs.YtpkkbbdffhcpaaaDoor
