/- A number written in digits. -/
import Derived.Test.YtpkkbbdffhcpaaaDoorS9
set_option linter.unusedSimpArgs false
set_option linter.unusedVariables false
namespace Go.Proofs.YtpkkbbdffhcpaaaDoor
open Go.V Go.RowKit
/-- The digits of a number, by so many steps at most. -/
def decF : Nat → Nat → Str
  | 0, _ => []
  | f + 1, n => if n < 10 then [UInt8.ofNat (48 + n)] else decF f (n / 10) ++ [UInt8.ofNat (48 + n % 10)]
def dec (n : Nat) : Str := decF 20 n
theorem decF_len : ∀ (f n : Nat), (decF f n).length ≤ f
  | 0, _ => by simp [decF]
  | f + 1, n => by
    unfold decF
    split
    · simp
    · have := decF_len f (n / 10); simp; omega
theorem dig_byte (d : Nat) (hd : d < 10) : IntKind.u8.wrap (48 + IntKind.u8.wrap (d : Int)) = ((UInt8.ofNat (48 + d)).toNat : Int) := by
  rw [wu8_id (x := (d : Int)) (by omega) (by omega), wu8_id (by omega) (by omega)]
  have : (UInt8.ofNat (48 + d)).toNat = 48 + d := by
    rw [UInt8.toNat_ofNat']; omega
  rw [this]; push_cast; rfl
theorem wu64_id {x : Int} (h0 : 0 ≤ x) (h1 : x < 18446744073709551616) : IntKind.u64.wrap x = x := by
  simp [IntKind.wrap, IntKind.signed, IntKind.bits]
  omega
section
variable {w : World} {k : Value → World → Prop}
theorem digits_spec (N : Nat) (hN : N < 10000000000000000000) (hk : ∀ w', Fr Non w w' → k (.string (mkS (dec N))) w') : Cl Tryd.prog 33 [.int .i64 (N : Int)] w k := by
  refine f33_ok ?_
  unfold f33
  rintro b2 w3 rfl hw3
  have f3 : Fr Non w w3 := hw3 ▸ (Fr.refl Non w).alloc _
  have hB3 : Blk w3 w.heap.size 90 (List.replicate 20 (.int .u8 0)) := hw3 ▸ Blk.new w _ _
  have hneg : ¬ (N : Int) < 0 := by omega
  refine ⟨fun n w' => n = (N : Int) ∧ w' = w3, ?_, fun h => absurd (of_decide_eq_true h) hneg, fun _ => ⟨wu64_id (by omega) (by omega), rfl⟩⟩
  rintro n w6 ⟨rfl, rfl⟩
  -- what is left to be written, and what is written
  refine ⟨fun m n i w' => ∃ (f q : Nat) (suf : Str), m = f ∧ n = (q : Int) ∧ i = (f : Int) ∧ q < 10 ^ f ∧ 0 < f ∧ q < 10000000000000000000 ∧ dec N = decF f q ++ suf ∧ f + suf.length = 20 ∧ Fr Non w w' ∧ ∃ cs, Blk w' w.heap.size 90 cs ∧ cs.length = 20 ∧ cs.drop f = bys suf,
    ⟨20, 20, N, [], rfl, rfl, rfl, by omega, by omega, by omega, by simp [dec], rfl, f3, _, hB3, by simp, by simp [bys]⟩, ?_⟩
  rintro m n i w1 ⟨f, q, suf, rfl, rfl, rfl, hqf, hf0, hq, hdec, hfl, hfr, cs, hB, hcl, hcd⟩
  obtain ⟨g, rfl⟩ : ∃ g, m = g + 1 := ⟨m - 1, by omega⟩
  have ei : IntKind.i64.wrap (((g + 1 : Nat) : Int) - 1) = (g : Int) := by rw [w64_id (by omega) (by omega)]; push_cast; omega
  rw [ei]
  have em : ((q : Int)).tmod 10 = ((q % 10 : Nat) : Int) := by rw [Int.tmod_eq_emod_of_nonneg (by omega)]; push_cast; rfl
  have ed : ((q : Int)).tdiv 10 = ((q / 10 : Nat) : Int) := by rw [Int.tdiv_eq_ediv_of_nonneg (by omega)]; push_cast; rfl
  have ea : (⟨w.heap.size, 0, none⟩ : Addr).add (((g : Int)).toNat * 1) = ⟨w.heap.size, g, none⟩ := by rw [add_mk]; simp
  rw [em, ed, dig_byte _ (by omega), ea, wu64_id (by omega) (by omega)]
  refine ⟨by decide, ⟨by omega, by omega⟩, hB.isS (by omega), hB.free g, ?_⟩
  rintro w13 rfl
  have hB2 := hB.set g (.int .u8 ((UInt8.ofNat (48 + q % 10)).toNat : Int))
  have hfr2 : Fr Non w (w1.setCell ⟨w.heap.size, g, none⟩ (.int .u8 ((UInt8.ofNat (48 + q % 10)).toNat : Int))) := hfr.set (a := ⟨w.heap.size, g, none⟩) (fun h => absurd h (Nat.lt_irrefl _)) _
  have hcd2 : (cs.set g (.int .u8 ((UInt8.ofNat (48 + q % 10)).toNat : Int))).drop g = bys (UInt8.ofNat (48 + q % 10) :: suf) := by
    rw [List.drop_eq_getElem_cons (by simp; omega), List.getElem_set_self, List.drop_set_of_lt (by omega), hcd]; rfl
  refine ⟨by decide, fun h0 => ?_, fun h0 => ?_⟩
  · have h0 : q / 10 = 0 := by simp at h0; omega
    have hq10 : q < 10 := by omega
    have hfin : dec N = UInt8.ofNat (48 + q % 10) :: suf := by
      rw [hdec, decF, if_pos hq10, Nat.mod_eq_of_lt hq10]; rfl
    refine ⟨fun i w' => i = (g : Int) ∧ w' = w1.setCell ⟨w.heap.size, g, none⟩ (.int .u8 ((UInt8.ofNat (48 + q % 10)).toNat : Int)), ?_, fun h => absurd (of_decide_eq_true h) hneg, fun _ => ⟨rfl, rfl⟩⟩
    rintro i w16 ⟨rfl, rfl⟩
    refine ⟨⟨by omega, by omega, by omega⟩, dec N, ?_, hk _ hfr2⟩
    have hdl : (dec N).length = 20 - g := by rw [hfin]; simp; omega
    refine .inr ⟨⟨w.heap.size, g, none⟩, ?_, ?_, fun q2 hq2 => ?_⟩
    · simp only [slS]
      rw [if_neg (by omega)]
      simp [add_mk]
    · simp only [slS]; rw [hdl]; omega
    · rw [add_mk]
      refine hB2.cell ?_
      rw [hfin]
      have hh := congrArg (fun l => l[q2]?) hcd2
      simp only [List.getElem?_drop] at hh
      rw [hh]
      have hlt : q2 < (UInt8.ofNat (48 + q % 10) :: suf).length := by simp only [slS] at hq2; simp; omega
      generalize UInt8.ofNat (48 + q % 10) :: suf = L at hlt ⊢
      have e : L.getD q2 0 = L[q2] := by rw [List.getD_eq_getElem?_getD, List.getElem?_eq_getElem hlt]; rfl
      rw [e]
      simp only [bys, List.getElem?_map, List.getElem?_eq_getElem hlt, Option.map_some]
  · have h0 : ¬ q / 10 = 0 := by simp at h0; omega
    have hq10 : ¬ q < 10 := by omega
    have hg0 : 0 < g := by
      rcases Nat.eq_zero_or_pos g with rfl | h
      · simp at hqf; omega
      · exact h
    refine ⟨g, by omega, g, q / 10, UInt8.ofNat (48 + q % 10) :: suf, rfl, rfl, rfl, ?_, hg0, by omega, ?_, by simp; omega, hfr2, _, hB2, by simp [hcl], hcd2⟩
    · rw [Nat.div_lt_iff_lt_mul (by omega)]; rw [Nat.pow_succ] at hqf; exact hqf
    · rw [hdec, decF, if_neg hq10, List.append_assoc]; rfl
end
end Go.Proofs.YtpkkbbdffhcpaaaDoor
