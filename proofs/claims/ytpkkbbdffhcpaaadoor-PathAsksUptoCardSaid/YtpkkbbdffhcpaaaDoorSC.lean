/- The document prints a path. -/
import Derived.Test.YtpkkbbdffhcpaaaDoorSB
set_option linter.unusedSimpArgs false
set_option linter.unusedVariables false
namespace Go.Proofs.YtpkkbbdffhcpaaaDoor
open Go.V Go.RowKit
def br (n : Int) : Str := if 1 < n then [91] ++ dec n.toNat ++ [93] else []
def dt (b : Bool) (n : Int) : Str := if b = true then [46] ++ dec n.toNat else []
def printP (p : Pa) : Str := if validP p = true then (if p.fld = 0 then p.seg ++ br p.occ else (((p.seg ++ br p.occ) ++ [45] ++ dec p.fld.toNat) ++ br p.rep) ++ dt (decide (1 < p.cmp) || decide (1 < p.sub)) p.cmp ++ dt (decide (1 < p.sub)) p.sub) else []
theorem dec_len (n : Nat) : (dec n).length ≤ 20 := decF_len 20 n
theorem br_len (n : Int) : (br n).length ≤ 22 := by unfold br; have := dec_len n.toNat; split <;> simp; omega
theorem dt_len (b : Bool) (n : Int) : (dt b n).length ≤ 21 := by unfold dt; have := dec_len n.toNat; split <;> simp; omega
theorem inR_bnd {n : Int} (h : inR n = true) : 1 ≤ n ∧ n ≤ 200 := by unfold inR at h; simpa using h
section
variable {w : World} {k : Value → World → Prop}
theorem rdig (n : Int) (h0 : 0 ≤ n) (h1 : n ≤ 200) (hk : ∀ w', Fr Non w w' → k (.string (mkS (dec n.toNat))) w') : Cl Tryd.prog 34 [.int .i64 n] w k := by
  obtain ⟨q, rfl⟩ : ∃ q : Nat, n = q := ⟨n.toNat, by omega⟩
  exact rdigits_spec q (by omega) (by simpa using hk)
theorem rprint_spec (p : Pa) (hs : p.seg.length ≤ 1000000000000000) (hk : ∀ w', Fr Non w w' → k (.string (mkS (printP p))) w') : Cl Tryd.prog 12 [.agg (List.toArray (pc p))] w k := by
  refine f12_ok ?_
  unfold f12
  rintro b7 w8 rfl hw8
  have f8 : Fr Non w w8 := hw8 ▸ (Fr.refl Non w).alloc _
  have hB : Blk w8 w.heap.size 23 (pc p) := hw8 ▸ Blk.new w (pc p) 23
  refine ⟨p.seg, p.occ, p.fld, p.rep, p.cmp, p.sub, hB.ats (pc p) 0 0 (fun q v hq => by simpa using hq), rvalid_spec p hs fun w1 f1 => ⟨_, rfl, fun hv => ?_, fun hv => ?_⟩⟩
  · have hv := (Bool.not_eq_true' _).mp hv
    have e : printP p = [] := by unfold printP; rw [if_neg (by rw [hv]; simp)]
    have := hk w1 (upN f8 f1 (fun g hg => hg.elim))
    rw [e] at this; exact this
  have hv := (Bool.not_eq_false' _).mp hv
  have hB1 := hB.fr f1 (fun h => h)
  have g1 := upN f8 f1 (fun g hg => hg.elim)
  have hv2 := hv
  unfold validP at hv2
  simp only [Bool.and_eq_true, Bool.or_eq_true] at hv2
  obtain ⟨⟨_, hocc⟩, hrest⟩ := hv2
  have ho := inR_bnd hocc
  have b1 := br_len p.occ
  have b2 := br_len p.rep
  have b3 := dec_len p.fld.toNat
  have b4 := dec_len p.cmp.toNat
  have b5 := dec_len p.sub.toNat
  have b6 := dec_len p.occ.toNat
  have b7 := dec_len p.rep.toNat
  have b8 := dt_len (decide (1 < p.cmp) || decide (1 < p.sub)) p.cmp
  have cell : ∀ {w' : World}, Fr Non w1 w' → ∀ {i : Nat} {v : Value}, (pc p)[i]? = some v → w'.cell? ((⟨w.heap.size, 0, none⟩ : Addr).add i) = some v := by
    intro w' f i v hi
    rw [add_mk, Nat.zero_add]; exact (hB1.fr f (fun h => h)).cell hi
  refine ⟨p.seg, hB1.cell rfl, fun s w' => s = p.seg ++ br p.occ ∧ Fr Non w1 w', ?_, p.occ, cell (Fr.refl _ _) rfl, fun h => ?_, fun h => ⟨by unfold br; rw [if_neg (of_decide_eq_false h)]; simp, Fr.refl _ _⟩⟩
  case refine_2 =>
    have h := of_decide_eq_true h
    refine ⟨by simp; omega, p.occ, cell (Fr.refl _ _) rfl, rdig p.occ (by omega) (by omega) fun w2 f2 => ⟨_, rfl, by simp; omega, by simp; omega, ?_, f2⟩⟩
    unfold br; rw [if_pos h]; simp
  rintro s w2 ⟨rfl, f2⟩
  refine ⟨p.fld, cell f2 rfl, fun h0 => ?_, fun h0 => ?_⟩
  · have h0 : p.fld = 0 := by simpa using h0
    have e : printP p = p.seg ++ br p.occ := by unfold printP; rw [if_pos hv, if_pos h0]
    have := hk w2 (upN g1 f2 (fun g hg => hg.elim))
    rw [e] at this; exact this
  have h0 : ¬ p.fld = 0 := by simpa using h0
  have hin : inR p.fld = true ∧ inR p.rep = true ∧ inR p.cmp = true ∧ inR p.sub = true := by
    rcases hrest with h | h
    · simp [plain, h0] at h
    · exact h
  have i1 := inR_bnd hin.1
  have i2 := inR_bnd hin.2.1
  have i3 := inR_bnd hin.2.2.1
  have i4 := inR_bnd hin.2.2.2
  have e : printP p = (((p.seg ++ br p.occ) ++ [45] ++ dec p.fld.toNat) ++ br p.rep) ++ dt (decide (1 < p.cmp) || decide (1 < p.sub)) p.cmp ++ dt (decide (1 < p.sub)) p.sub := by unfold printP; rw [if_pos hv, if_neg h0]
  refine ⟨by simp; omega, p.fld, cell f2 rfl, rdig p.fld (by omega) (by omega) fun w3 f3' => ?_⟩
  have f3 : Fr Non w1 w3 := f2.trans' f3'
  refine ⟨_, rfl, by simp; omega, fun s w' => s = ((p.seg ++ br p.occ) ++ [45] ++ dec p.fld.toNat) ++ br p.rep ∧ Fr Non w1 w', ?_, p.rep, cell f3 rfl, fun h => ?_, fun h => ⟨by unfold br; rw [if_neg (of_decide_eq_false h)]; simp, f3⟩⟩
  case refine_2 =>
    have h := of_decide_eq_true h
    refine ⟨by simp; omega, p.rep, cell f3 rfl, rdig p.rep (by omega) (by omega) fun w4 f4 => ⟨_, rfl, by simp; omega, by simp; omega, ?_, f3.trans' f4⟩⟩
    unfold br; rw [if_pos h]; simp
  rintro s w4 ⟨rfl, f4⟩
  refine ⟨fun s w' => s = ((((p.seg ++ br p.occ) ++ [45] ++ dec p.fld.toNat) ++ br p.rep) ++ dt (decide (1 < p.cmp) || decide (1 < p.sub)) p.cmp) ∧ Fr Non w1 w', ?_, fun v w' => v = (decide (1 < p.cmp) || decide (1 < p.sub)) ∧ w' = w4, ?_, p.cmp, cell f4 rfl, fun h => ⟨by rw [h]; rfl, rfl⟩, fun h => ⟨p.sub, cell f4 rfl, by rw [h]; rfl, rfl⟩⟩
  · rintro s w5 ⟨rfl, f5⟩
    refine ⟨fun s w' => s = printP p ∧ Fr Non w1 w', ?_, p.sub, cell f5 rfl, fun h => ?_, fun h => ⟨by rw [e]; unfold dt; rw [h]; simp, f5⟩⟩
    · rintro s w6 ⟨rfl, f6⟩
      exact hk w6 (upN g1 f6 (fun g hg => hg.elim))
    · have h' := of_decide_eq_true h
      refine ⟨by simp; omega, p.sub, cell f5 rfl, rdig p.sub (by omega) (by omega) fun w6 f6 => ⟨_, rfl, by simp; omega, ?_, f5.trans' f6⟩⟩
      rw [e]; unfold dt; rw [h]; simp
  · rintro v w5 ⟨rfl, rfl⟩
    refine ⟨fun h => ?_, fun h => ⟨by unfold dt; rw [h]; simp, f4⟩⟩
    refine ⟨by simp; omega, p.cmp, cell f4 rfl, rdig p.cmp (by omega) (by omega) fun w6 f6 => ⟨_, rfl, by simp; omega, ?_, f4.trans' f6⟩⟩
    unfold dt; rw [if_pos h]; simp
end
end Go.Proofs.YtpkkbbdffhcpaaaDoor
