/- The program prints a path. -/
import Derived.Test.YtpkkbbdffhcpaaaDoorSD
set_option linter.unusedSimpArgs false
set_option linter.unusedVariables false
namespace Go.Proofs.YtpkkbbdffhcpaaaDoor
open Go.V Go.RowKit
section
variable {w : World} {k : Value → World → Prop}
set_option maxHeartbeats 1000000 in
theorem print_spec (p : Pa) (hs : p.seg.length ≤ 1000000000000000) (hk : ∀ w', Fr Non w w' → k (.string (mkS (printP p))) w') : Cl Tryd.prog 11 [.agg (List.toArray (pc p))] w k := by
  refine f11_ok ?_
  unfold f11
  rintro b7 w8 rfl hw8
  have f8 : Fr Non w w8 := hw8 ▸ (Fr.refl Non w).alloc _
  have hB : Blk w8 w.heap.size 23 (pc p) := hw8 ▸ Blk.new w (pc p) 23
  refine ⟨p.seg, p.occ, p.fld, p.rep, p.cmp, p.sub, hB.ats (pc p) 0 0 (fun q v hq => by simpa using hq), valid_spec p hs fun w1 f1 => ⟨_, rfl, fun hv => ?_, fun hv => ?_⟩⟩
  · have hv := (Bool.not_eq_true' _).mp hv
    have e : printP p = [] := by unfold printP; rw [if_neg (by rw [hv]; simp)]
    have := hk w1 (upN f8 f1 (fun g hg => hg.elim))
    rw [e] at this; exact this
  have hv := (Bool.not_eq_false' _).mp hv
  have hB1 := hB.fr f1 (fun h => h)
  have g1 := upN f8 f1 (fun g hg => hg.elim)
  have hv2 := hv
  unfold validP at hv2
  simp only [Bool.and_eq_true, Bool.or_eq_true] at hv2
  obtain ⟨⟨_, hocc⟩, hrest⟩ := hv2
  have ho := inR_bnd hocc
  have b1 := br_len p.occ
  have b2 := br_len p.rep
  have b3 := dec_len p.fld.toNat
  have b4 := dec_len p.cmp.toNat
  have b5 := dec_len p.sub.toNat
  have b8 := dt_len (decide (1 < p.cmp) || decide (1 < p.sub)) p.cmp
  refine ⟨p.seg, hB1.cell rfl, ?_⟩
  rintro b19 w20 rfl hw20
  have hlt : w.heap.size < w1.heap.size := hB1.lt
  have f20 : Fr Non w1 w20 := hw20 ▸ (Fr.refl Non w1).alloc _
  have hC : Blk w20 w1.heap.size 9 [.string (mkS [])] := hw20 ▸ Blk.new w1 _ _
  refine ⟨hC.isS (by simp), hC.free 0, ?_⟩
  rintro w21 rfl
  -- the path's cells, the text so far
  let Q : Str → World → Prop := fun s w' => Blk w' w.heap.size 23 (pc p) ∧ Blk w' w1.heap.size 9 [.string (mkS s)] ∧ Fr Non w w'
  have Qs : ∀ {s s' : Str} {w' : World}, Q s w' → Q s' (w'.setCell ⟨w1.heap.size, 0, none⟩ (.string (mkS s'))) := by
    rintro s s' w' ⟨h1, h2, h3⟩
    exact ⟨h1.ne (a := ⟨w1.heap.size, 0, none⟩) (by simp only; omega) _, h2.set 0 _, h3.set (a := ⟨w1.heap.size, 0, none⟩) (fun h => by simp only at h; omega) _⟩
  have Qf : ∀ {s : Str} {w' w'' : World}, Q s w' → Fr Non w' w'' → Q s w'' := by
    rintro s w' w'' ⟨h1, h2, h3⟩ f
    exact ⟨h1.fr f (fun h => h), h2.fr f (fun h => h), h3.trans' f⟩
  have cl : ∀ {s : Str} {w' : World}, Q s w' → ∀ {i : Nat} {v : Value}, (pc p)[i]? = some v → w'.cell? ((⟨w.heap.size, 0, none⟩ : Addr).add i) = some v := by
    intro s w' h i v hi
    rw [add_mk, Nat.zero_add]; exact h.1.cell hi
  have add : ∀ (sg : UInt8) (i : Nat) (n : Int) (s : Str) (w41 : World) (M : World → Prop), Q s w41 → (pc p)[i]? = some (.int .i64 n) → 0 ≤ n → n ≤ 200 → s.length ≤ 2000000000000000 → (∀ w50, Q (s ++ ([sg] ++ dec n.toNat)) w50 → M w50) →
      ∀ w44, w44 = w41.drew → ∃ (x45 : Str), w44.cell? (⟨w1.heap.size, 0, none⟩) = some (.string (mkS x45)) ∧ ∃ (x46 : Int), w44.cell? ((⟨w.heap.size, 0, none⟩ : Addr).add i) = some (.int .i64 x46) ∧ Cl Tryd.prog 33 [.int .i64 x46] w44 (fun v48 w47 => Ext w44 w47 ∧ ∃ (x49 : Str), v48 = (.string (mkS x49)) ∧ ([sg] : Str).length + x49.length ≤ 9223372036854775807 ∧ x45.length + (([sg] : Str) ++ x49).length ≤ 9223372036854775807 ∧ (w47.cell? (⟨w1.heap.size, 0, none⟩)).isSome = true ∧ w47.frozen? (⟨w1.heap.size, 0, none⟩) = false ∧ ∀ w50, w50 = w47.setCell (⟨w1.heap.size, 0, none⟩) (.string (mkS (x45 ++ (([sg] : Str) ++ x49)))) → M w50) := by
    rintro sg i n s w41 M hq hi h0 h2 hsl hM w44 rfl
    have hq4 : Q s w41.drew := Qf hq ((Fr.refl Non w41).drew)
    have hd := dec_len n.toNat
    refine ⟨s, hq4.2.1.cell rfl, n, cl hq4 hi, dig n h0 h2 fun w5 f5 => ⟨f5.ext, _, rfl, by simp; omega, by simp; omega, ?_⟩⟩
    have hq5 := Qf hq4 f5
    refine ⟨hq5.2.1.isS (by simp), hq5.2.1.free 0, ?_⟩
    rintro w50 rfl
    exact hM _ (Qs hq5)
  have sq : ∀ (n : Int) (s : Str) (w' : World) (k' : Value → World → Prop), Q s w' → n ≤ 200 → s.length ≤ 2000000000000000 → (∀ w'', Q (s ++ br n) w'' → k' (.tuple #[]) w'') → Cl Tryd.prog 32 [.int .i64 n, .pointer (some ⟨w1.heap.size, 0, none⟩)] w' k' := by
    intro n s w' k' hq hn hsl hk'
    refine square_spec s n hn hsl hq.2.1 fun w'' hb hf => hk' w'' ⟨hq.1.fr hf (fun e => by omega), hb, hq.2.2.trans hf (fun g hg e => by omega)⟩
  have hq0 : Q p.seg (w20.setCell ⟨w1.heap.size, 0, none⟩ (.string (mkS p.seg))) := Qs (s := []) ⟨hB1.fr f20 (fun h => h), hC, upN g1 f20 (fun g hg => hg.elim)⟩
  refine ⟨p.occ, cl hq0 rfl, sq p.occ p.seg _ _ hq0 (by omega) (by omega) fun w2 hq2 => ?_⟩
  refine ⟨p.fld, cl hq2 rfl, fun h0 => ?_, fun h0 => ?_⟩
  · have h0 : p.fld = 0 := by simpa using h0
    have e : printP p = p.seg ++ br p.occ := by unfold printP; rw [if_pos hv, if_pos h0]
    refine ⟨_, hq2.2.1.cell rfl, ?_⟩
    have := hk w2 hq2.2.2
    rw [e] at this; exact this
  have h0 : ¬ p.fld = 0 := by simpa using h0
  have hin : inR p.fld = true ∧ inR p.rep = true ∧ inR p.cmp = true ∧ inR p.sub = true := by
    rcases hrest with h | h
    · simp [plain, h0] at h
    · exact h
  have i1 := inR_bnd hin.1
  have i2 := inR_bnd hin.2.1
  have i3 := inR_bnd hin.2.2.1
  have i4 := inR_bnd hin.2.2.2
  have e : printP p = (((p.seg ++ br p.occ) ++ [45] ++ dec p.fld.toNat) ++ br p.rep) ++ dt (decide (1 < p.cmp) || decide (1 < p.sub)) p.cmp ++ dt (decide (1 < p.sub)) p.sub := by unfold printP; rw [if_pos hv, if_neg h0]
  refine add 45 2 p.fld _ w2 _ hq2 rfl (by omega) (by omega) (by simp; omega) fun w3 hq3 => ?_
  refine ⟨p.rep, cl hq3 rfl, sq p.rep _ _ _ hq3 (by omega) (by simp; omega) fun w4 hq4 => ?_⟩
  refine ⟨fun w' => Q ((((p.seg ++ br p.occ) ++ [45] ++ dec p.fld.toNat) ++ br p.rep) ++ dt (decide (1 < p.cmp) || decide (1 < p.sub)) p.cmp) w', ?_, fun v w' => v = (decide (1 < p.cmp) || decide (1 < p.sub)) ∧ w' = w4, ?_, p.cmp, cl hq4 rfl, fun h => ⟨by rw [h]; rfl, rfl⟩, fun h => ⟨p.sub, cl hq4 rfl, by rw [h]; rfl, rfl⟩⟩
  · intro w5 hq5
    refine ⟨fun w' => Q (printP p) w', fun w6 hq6 => ⟨_, hq6.2.1.cell rfl, hk w6 hq6.2.2⟩, p.sub, cl hq5 rfl, fun h => ?_, fun h => ?_⟩
    · refine add 46 5 p.sub _ w5 _ hq5 rfl (by omega) (by omega) (by simp; omega) fun w6 hq6 => ?_
      rw [e]; unfold dt at hq6 ⊢; rw [h] at hq6 ⊢; simpa using hq6
    · rw [e]; unfold dt at hq5 ⊢; rw [h] at hq5 ⊢; simpa using hq5
  · rintro v w5 ⟨rfl, rfl⟩
    refine ⟨fun h => ?_, fun h => ?_⟩
    · refine add 46 4 p.cmp _ w5 _ hq4 rfl (by omega) (by omega) (by simp; omega) fun w6 hq6 => ?_
      unfold dt; rw [if_pos h]; simpa using hq6
    · unfold dt; rw [h]; simpa using hq4
end
end Go.Proofs.YtpkkbbdffhcpaaaDoor
