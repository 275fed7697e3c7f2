/- A number written in digits. -/
import Derived.Test.YtgnddjnnkghedaaGreatDoorSQ
set_option linter.unusedSimpArgs false
set_option linter.unusedVariables false
namespace Go.Proofs.YtgnddjnnkghedaaGreatDoor
open Go.V Go.RowKit
/-- The digits of a number, by so many steps at most. -/
def decF : Nat → Nat → Str
  | 0, _ => []
  | f + 1, n => if n < 10 then [UInt8.ofNat (48 + n)] else decF f (n / 10) ++ [UInt8.ofNat (48 + n % 10)]
def dec (n : Nat) : Str := decF 20 n
theorem decF_len : ∀ (f n : Nat), (decF f n).length ≤ f
  | 0, _ => by simp [decF]
  | f + 1, n => by
    unfold decF
    split
    · simp
    · have := decF_len f (n / 10); simp; omega
theorem dig_byte (d : Nat) (hd : d < 10) : IntKind.u8.wrap (48 + IntKind.u8.wrap (d : Int)) = ((UInt8.ofNat (48 + d)).toNat : Int) := by
  rw [wu8_id (x := (d : Int)) (by omega) (by omega), wu8_id (by omega) (by omega)]
  have : (UInt8.ofNat (48 + d)).toNat = 48 + d := by
    rw [UInt8.toNat_ofNat']; omega
  rw [this]; push_cast; rfl
theorem wu64_id {x : Int} (h0 : 0 ≤ x) (h1 : x < 18446744073709551616) : IntKind.u64.wrap x = x := by
  simp [IntKind.wrap, IntKind.signed, IntKind.bits]
  omega
section
variable {w : World} {k : Value → World → Prop}
theorem digits_spec (N : Nat) (hN : N < 10000000000000000000) (hk : ∀ w', Fr Non w w' → k (.string (mkS (dec N))) w') : Cl Tryz.prog 136 [.int .i64 (N : Int)] w k := by
  refine f136_ok ?_
  unfold f136
  rintro b2 w3 rfl hw3
  have f3 : Fr Non w w3 := hw3 ▸ (Fr.refl Non w).alloc _
  have hB3 : Blk w3 w.heap.size 238 (List.replicate 20 (.int .u8 0)) := hw3 ▸ Blk.new w _ _
  have hneg : ¬ (N : Int) < 0 := by omega
  refine ⟨fun n w' => n = (N : Int) ∧ w' = w3, ?_, fun h => absurd (of_decide_eq_true h) hneg, fun _ => ⟨wu64_id (by omega) (by omega), rfl⟩⟩
  rintro n w6 ⟨rfl, rfl⟩
  -- what is left to be written, and what is written
  refine ⟨fun m n i w' => ∃ (f q : Nat) (suf : Str), m = f ∧ n = (q : Int) ∧ i = (f : Int) ∧ q < 10 ^ f ∧ 0 < f ∧ q < 10000000000000000000 ∧ dec N = decF f q ++ suf ∧ f + suf.length = 20 ∧ Fr Non w w' ∧ ∃ cs, Blk w' w.heap.size 238 cs ∧ cs.length = 20 ∧ cs.drop f = bys suf,
    ⟨20, 20, N, [], rfl, rfl, rfl, by omega, by omega, by omega, by simp [dec], rfl, f3, _, hB3, by simp, by simp [bys]⟩, ?_⟩
  rintro m n i w1 ⟨f, q, suf, rfl, rfl, rfl, hqf, hf0, hq, hdec, hfl, hfr, cs, hB, hcl, hcd⟩
  obtain ⟨g, rfl⟩ : ∃ g, m = g + 1 := ⟨m - 1, by omega⟩
  have ei : IntKind.i64.wrap (((g + 1 : Nat) : Int) - 1) = (g : Int) := by rw [w64_id (by omega) (by omega)]; push_cast; omega
  rw [ei]
  have em : ((q : Int)).tmod 10 = ((q % 10 : Nat) : Int) := by rw [Int.tmod_eq_emod_of_nonneg (by omega)]; push_cast; rfl
  have ed : ((q : Int)).tdiv 10 = ((q / 10 : Nat) : Int) := by rw [Int.tdiv_eq_ediv_of_nonneg (by omega)]; push_cast; rfl
  have ea : (⟨w.heap.size, 0, none⟩ : Addr).add (((g : Int)).toNat * 1) = ⟨w.heap.size, g, none⟩ := by rw [add_mk]; simp
  rw [em, ed, dig_byte _ (by omega), ea, wu64_id (by omega) (by omega)]
  refine ⟨by decide, ⟨by omega, by omega⟩, hB.isS (by omega), hB.free g, ?_⟩
  rintro w13 rfl
  have hB2 := hB.set g (.int .u8 ((UInt8.ofNat (48 + q % 10)).toNat : Int))
  have hfr2 : Fr Non w (w1.setCell ⟨w.heap.size, g, none⟩ (.int .u8 ((UInt8.ofNat (48 + q % 10)).toNat : Int))) := hfr.set (a := ⟨w.heap.size, g, none⟩) (fun h => absurd h (Nat.lt_irrefl _)) _
  have hcd2 : (cs.set g (.int .u8 ((UInt8.ofNat (48 + q % 10)).toNat : Int))).drop g = bys (UInt8.ofNat (48 + q % 10) :: suf) := by
    rw [List.drop_eq_getElem_cons (by simp; omega), List.getElem_set_self, List.drop_set_of_lt (by omega), hcd]; rfl
  refine ⟨by decide, fun h0 => ?_, fun h0 => ?_⟩
  · have h0 : q / 10 = 0 := by simp at h0; omega
    have hq10 : q < 10 := by omega
    have hfin : dec N = UInt8.ofNat (48 + q % 10) :: suf := by
      rw [hdec, decF, if_pos hq10, Nat.mod_eq_of_lt hq10]; rfl
    refine ⟨fun i w' => i = (g : Int) ∧ w' = w1.setCell ⟨w.heap.size, g, none⟩ (.int .u8 ((UInt8.ofNat (48 + q % 10)).toNat : Int)), ?_, fun h => absurd (of_decide_eq_true h) hneg, fun _ => ⟨rfl, rfl⟩⟩
    rintro i w16 ⟨rfl, rfl⟩
    refine ⟨⟨by omega, by omega, by omega⟩, dec N, ?_, hk _ hfr2⟩
    have hdl : (dec N).length = 20 - g := by rw [hfin]; simp; omega
    refine .inr ⟨⟨w.heap.size, g, none⟩, ?_, ?_, fun q2 hq2 => ?_⟩
    · simp only [slS]
      rw [if_neg (by omega)]
      simp [add_mk]
    · simp only [slS]; rw [hdl]; omega
    · rw [add_mk]
      refine hB2.cell ?_
      rw [hfin]
      have hh := congrArg (fun l => l[q2]?) hcd2
      simp only [List.getElem?_drop] at hh
      rw [hh]
      have hlt : q2 < (UInt8.ofNat (48 + q % 10) :: suf).length := by simp only [slS] at hq2; simp; omega
      generalize UInt8.ofNat (48 + q % 10) :: suf = L at hlt ⊢
      have e : L.getD q2 0 = L[q2] := by rw [List.getD_eq_getElem?_getD, List.getElem?_eq_getElem hlt]; rfl
      rw [e]
      simp only [bys, List.getElem?_map, List.getElem?_eq_getElem hlt, Option.map_some]
  · have h0 : ¬ q / 10 = 0 := by simp at h0; omega
    have hq10 : ¬ q < 10 := by omega
    have hg0 : 0 < g := by
      rcases Nat.eq_zero_or_pos g with rfl | h
      · simp at hqf; omega
      · exact h
    refine ⟨g, by omega, g, q / 10, UInt8.ofNat (48 + q % 10) :: suf, rfl, rfl, rfl, ?_, hg0, by omega, ?_, by simp; omega, hfr2, _, hB2, by simp [hcl], hcd2⟩
    · rw [Nat.div_lt_iff_lt_mul (by omega)]; rw [Nat.pow_succ] at hqf; exact hqf
    · rw [hdec, decF, if_neg hq10, List.append_assoc]; rfl
end
end Go.Proofs.YtgnddjnnkghedaaGreatDoor
set_option linter.unusedSimpArgs false
set_option linter.unusedVariables false
namespace Go.Proofs.YtgnddjnnkghedaaGreatDoor
open Go.V Go.RowKit
theorem dig_byte2 (d : Nat) (hd : d < 10) : IntKind.u8.wrap (IntKind.i64.wrap (48 + (d : Int))) = ((UInt8.ofNat (48 + d)).toNat : Int) := by
  rw [w64_id (by omega) (by omega), wu8_id (by omega) (by omega)]
  have : (UInt8.ofNat (48 + d)).toNat = 48 + d := by
    rw [UInt8.toNat_ofNat']; omega
  rw [this]; push_cast; rfl
section
variable {w : World} {k : Value → World → Prop}
end
end Go.Proofs.YtgnddjnnkghedaaGreatDoor
set_option linter.unusedSimpArgs false
set_option linter.unusedVariables false
namespace Go.Proofs.YtgnddjnnkghedaaGreatDoor
open Go.V Go.RowKit
def br (n : Int) : Str := if 1 < n then [91] ++ dec n.toNat ++ [93] else []
def dt (b : Bool) (n : Int) : Str := if b = true then [46] ++ dec n.toNat else []
def printP (p : Pa) : Str := if validP p = true then (if p.fld = 0 then p.seg ++ br p.occ else (((p.seg ++ br p.occ) ++ [45] ++ dec p.fld.toNat) ++ br p.rep) ++ dt (decide (1 < p.cmp) || decide (1 < p.sub)) p.cmp ++ dt (decide (1 < p.sub)) p.sub) else []
theorem dec_len (n : Nat) : (dec n).length ≤ 20 := decF_len 20 n
theorem br_len (n : Int) : (br n).length ≤ 22 := by unfold br; have := dec_len n.toNat; split <;> simp; omega
theorem dt_len (b : Bool) (n : Int) : (dt b n).length ≤ 21 := by unfold dt; have := dec_len n.toNat; split <;> simp; omega
theorem inR_bnd {n : Int} (h : inR n = true) : 1 ≤ n ∧ n ≤ 200 := by unfold inR at h; simpa using h
section
variable {w : World} {k : Value → World → Prop}
end
end Go.Proofs.YtgnddjnnkghedaaGreatDoor
set_option linter.unusedSimpArgs false
set_option linter.unusedVariables false
namespace Go.Proofs.YtgnddjnnkghedaaGreatDoor
open Go.V Go.RowKit
section
variable {w : World} {k : Value → World → Prop}
theorem dig (n : Int) (h0 : 0 ≤ n) (h1 : n ≤ 200) (hk : ∀ w', Fr Non w w' → k (.string (mkS (dec n.toNat))) w') : Cl Tryz.prog 136 [.int .i64 n] w k := by
  obtain ⟨q, rfl⟩ : ∃ q : Nat, n = q := ⟨n.toNat, by omega⟩
  exact digits_spec q (by omega) (by simpa using hk)
theorem square_spec {c : Nat} {T : TypeId} (s : Str) (n : Int) (hn : n ≤ 200) (hs : s.length ≤ 2000000000000000) (hB : Blk w c T [.string (mkS s)])
    (hk : ∀ w', Blk w' c T [.string (mkS (s ++ br n))] → Fr (fun g => g = c) w w' → k (.tuple #[]) w') : Cl Tryz.prog 135 [.int .i64 n, .pointer (some ⟨c, 0, none⟩)] w k := by
  refine f135_ok ?_
  unfold f135
  have b6 := dec_len n.toNat
  refine ⟨fun h => ?_, fun h => ?_⟩
  · have h' := of_decide_eq_true h
    rintro w3 rfl
    refine ⟨s, hB.drew.cell rfl, dig n (by omega) hn fun w5 f5 => ⟨f5.ext, dec n.toNat, rfl, by simp; omega, by simp; omega, by simp; omega, ?_⟩⟩
    have hB5 := hB.drew.fr f5 (fun h => h)
    refine ⟨hB5.isS (by simp), hB5.free 0, ?_⟩
    rintro w8 rfl
    have hf : Fr (fun g => g = c) w w5 := (Fr.refl (fun g => g = c) w).drew.trans f5 (fun _ _ h => h.elim)
    have := hk _ (by have := hB5.set 0 (.string (mkS (s ++ (([91] ++ dec n.toNat) ++ [93])))); unfold br; rw [if_pos h']; exact this) (hf.set (a := ⟨c, 0, none⟩) (fun _ => rfl) _)
    exact this
  · have h' := of_decide_eq_false h
    have e : s ++ br n = s := by unfold br; rw [if_neg h']; simp
    exact hk w (by rw [e]; exact hB) (Fr.refl _ _)
end
end Go.Proofs.YtgnddjnnkghedaaGreatDoor
set_option linter.unusedSimpArgs false
set_option linter.unusedVariables false
namespace Go.Proofs.YtgnddjnnkghedaaGreatDoor
open Go.V Go.RowKit
section
variable {w : World} {k : Value → World → Prop}
set_option maxHeartbeats 1000000 in
theorem print_spec (p : Pa) (hs : p.seg.length ≤ 1000000000000000) (hk : ∀ w', Fr Non w w' → k (.string (mkS (printP p))) w') : Cl Tryz.prog 24 [.agg (List.toArray (pc p))] w k := by
  refine f24_ok ?_
  unfold f24
  rintro b7 w8 rfl hw8
  have f8 : Fr Non w w8 := hw8 ▸ (Fr.refl Non w).alloc _
  have hB : Blk w8 w.heap.size 28 (pc p) := hw8 ▸ Blk.new w (pc p) 28
  refine ⟨p.seg, p.occ, p.fld, p.rep, p.cmp, p.sub, hB.ats (pc p) 0 0 (fun q v hq => by simpa using hq), valid_spec p hs fun w1 f1 => ⟨_, rfl, fun hv => ?_, fun hv => ?_⟩⟩
  · have hv := (Bool.not_eq_true' _).mp hv
    have e : printP p = [] := by unfold printP; rw [if_neg (by rw [hv]; simp)]
    have := hk w1 (upN f8 f1 (fun g hg => hg.elim))
    rw [e] at this; exact this
  have hv := (Bool.not_eq_false' _).mp hv
  have hB1 := hB.fr f1 (fun h => h)
  have g1 := upN f8 f1 (fun g hg => hg.elim)
  have hv2 := hv
  unfold validP at hv2
  simp only [Bool.and_eq_true, Bool.or_eq_true] at hv2
  obtain ⟨⟨_, hocc⟩, hrest⟩ := hv2
  have ho := inR_bnd hocc
  have b1 := br_len p.occ
  have b2 := br_len p.rep
  have b3 := dec_len p.fld.toNat
  have b4 := dec_len p.cmp.toNat
  have b5 := dec_len p.sub.toNat
  have b8 := dt_len (decide (1 < p.cmp) || decide (1 < p.sub)) p.cmp
  refine ⟨p.seg, hB1.cell rfl, ?_⟩
  rintro b19 w20 rfl hw20
  have hlt : w.heap.size < w1.heap.size := hB1.lt
  have f20 : Fr Non w1 w20 := hw20 ▸ (Fr.refl Non w1).alloc _
  have hC : Blk w20 w1.heap.size 9 [.string (mkS [])] := hw20 ▸ Blk.new w1 _ _
  refine ⟨hC.isS (by simp), hC.free 0, ?_⟩
  rintro w21 rfl
  -- the path's cells, the text so far
  let Q : Str → World → Prop := fun s w' => Blk w' w.heap.size 28 (pc p) ∧ Blk w' w1.heap.size 9 [.string (mkS s)] ∧ Fr Non w w'
  have Qs : ∀ {s s' : Str} {w' : World}, Q s w' → Q s' (w'.setCell ⟨w1.heap.size, 0, none⟩ (.string (mkS s'))) := by
    rintro s s' w' ⟨h1, h2, h3⟩
    exact ⟨h1.ne (a := ⟨w1.heap.size, 0, none⟩) (by simp only; omega) _, h2.set 0 _, h3.set (a := ⟨w1.heap.size, 0, none⟩) (fun h => by simp only at h; omega) _⟩
  have Qf : ∀ {s : Str} {w' w'' : World}, Q s w' → Fr Non w' w'' → Q s w'' := by
    rintro s w' w'' ⟨h1, h2, h3⟩ f
    exact ⟨h1.fr f (fun h => h), h2.fr f (fun h => h), h3.trans' f⟩
  have cl : ∀ {s : Str} {w' : World}, Q s w' → ∀ {i : Nat} {v : Value}, (pc p)[i]? = some v → w'.cell? ((⟨w.heap.size, 0, none⟩ : Addr).add i) = some v := by
    intro s w' h i v hi
    rw [add_mk, Nat.zero_add]; exact h.1.cell hi
  have add : ∀ (sg : UInt8) (i : Nat) (n : Int) (s : Str) (w41 : World) (M : World → Prop), Q s w41 → (pc p)[i]? = some (.int .i64 n) → 0 ≤ n → n ≤ 200 → s.length ≤ 2000000000000000 → (∀ w50, Q (s ++ ([sg] ++ dec n.toNat)) w50 → M w50) →
      ∀ w44, w44 = w41.drew → ∃ (x45 : Str), w44.cell? (⟨w1.heap.size, 0, none⟩) = some (.string (mkS x45)) ∧ ∃ (x46 : Int), w44.cell? ((⟨w.heap.size, 0, none⟩ : Addr).add i) = some (.int .i64 x46) ∧ Cl Tryz.prog 136 [.int .i64 x46] w44 (fun v48 w47 => Ext w44 w47 ∧ ∃ (x49 : Str), v48 = (.string (mkS x49)) ∧ ([sg] : Str).length + x49.length ≤ 9223372036854775807 ∧ x45.length + (([sg] : Str) ++ x49).length ≤ 9223372036854775807 ∧ (w47.cell? (⟨w1.heap.size, 0, none⟩)).isSome = true ∧ w47.frozen? (⟨w1.heap.size, 0, none⟩) = false ∧ ∀ w50, w50 = w47.setCell (⟨w1.heap.size, 0, none⟩) (.string (mkS (x45 ++ (([sg] : Str) ++ x49)))) → M w50) := by
    rintro sg i n s w41 M hq hi h0 h2 hsl hM w44 rfl
    have hq4 : Q s w41.drew := Qf hq ((Fr.refl Non w41).drew)
    have hd := dec_len n.toNat
    refine ⟨s, hq4.2.1.cell rfl, n, cl hq4 hi, dig n h0 h2 fun w5 f5 => ⟨f5.ext, _, rfl, by simp; omega, by simp; omega, ?_⟩⟩
    have hq5 := Qf hq4 f5
    refine ⟨hq5.2.1.isS (by simp), hq5.2.1.free 0, ?_⟩
    rintro w50 rfl
    exact hM _ (Qs hq5)
  have sq : ∀ (n : Int) (s : Str) (w' : World) (k' : Value → World → Prop), Q s w' → n ≤ 200 → s.length ≤ 2000000000000000 → (∀ w'', Q (s ++ br n) w'' → k' (.tuple #[]) w'') → Cl Tryz.prog 135 [.int .i64 n, .pointer (some ⟨w1.heap.size, 0, none⟩)] w' k' := by
    intro n s w' k' hq hn hsl hk'
    refine square_spec s n hn hsl hq.2.1 fun w'' hb hf => hk' w'' ⟨hq.1.fr hf (fun e => by omega), hb, hq.2.2.trans hf (fun g hg e => by omega)⟩
  have hq0 : Q p.seg (w20.setCell ⟨w1.heap.size, 0, none⟩ (.string (mkS p.seg))) := Qs (s := []) ⟨hB1.fr f20 (fun h => h), hC, upN g1 f20 (fun g hg => hg.elim)⟩
  refine ⟨p.occ, cl hq0 rfl, sq p.occ p.seg _ _ hq0 (by omega) (by omega) fun w2 hq2 => ?_⟩
  refine ⟨p.fld, cl hq2 rfl, fun h0 => ?_, fun h0 => ?_⟩
  · have h0 : p.fld = 0 := by simpa using h0
    have e : printP p = p.seg ++ br p.occ := by unfold printP; rw [if_pos hv, if_pos h0]
    refine ⟨_, hq2.2.1.cell rfl, ?_⟩
    have := hk w2 hq2.2.2
    rw [e] at this; exact this
  have h0 : ¬ p.fld = 0 := by simpa using h0
  have hin : inR p.fld = true ∧ inR p.rep = true ∧ inR p.cmp = true ∧ inR p.sub = true := by
    rcases hrest with h | h
    · simp [plain, h0] at h
    · exact h
  have i1 := inR_bnd hin.1
  have i2 := inR_bnd hin.2.1
  have i3 := inR_bnd hin.2.2.1
  have i4 := inR_bnd hin.2.2.2
  have e : printP p = (((p.seg ++ br p.occ) ++ [45] ++ dec p.fld.toNat) ++ br p.rep) ++ dt (decide (1 < p.cmp) || decide (1 < p.sub)) p.cmp ++ dt (decide (1 < p.sub)) p.sub := by unfold printP; rw [if_pos hv, if_neg h0]
  refine add 45 2 p.fld _ w2 _ hq2 rfl (by omega) (by omega) (by simp; omega) fun w3 hq3 => ?_
  refine ⟨p.rep, cl hq3 rfl, sq p.rep _ _ _ hq3 (by omega) (by simp; omega) fun w4 hq4 => ?_⟩
  refine ⟨fun w' => Q ((((p.seg ++ br p.occ) ++ [45] ++ dec p.fld.toNat) ++ br p.rep) ++ dt (decide (1 < p.cmp) || decide (1 < p.sub)) p.cmp) w', ?_, fun v w' => v = (decide (1 < p.cmp) || decide (1 < p.sub)) ∧ w' = w4, ?_, p.cmp, cl hq4 rfl, fun h => ⟨by rw [h]; rfl, rfl⟩, fun h => ⟨p.sub, cl hq4 rfl, by rw [h]; rfl, rfl⟩⟩
  · intro w5 hq5
    refine ⟨fun w' => Q (printP p) w', fun w6 hq6 => ⟨_, hq6.2.1.cell rfl, hk w6 hq6.2.2⟩, p.sub, cl hq5 rfl, fun h => ?_, fun h => ?_⟩
    · refine add 46 5 p.sub _ w5 _ hq5 rfl (by omega) (by omega) (by simp; omega) fun w6 hq6 => ?_
      rw [e]; unfold dt at hq6 ⊢; rw [h] at hq6 ⊢; simpa using hq6
    · rw [e]; unfold dt at hq5 ⊢; rw [h] at hq5 ⊢; simpa using hq5
  · rintro v w5 ⟨rfl, rfl⟩
    refine ⟨fun h => ?_, fun h => ?_⟩
    · refine add 46 4 p.cmp _ w5 _ hq4 rfl (by omega) (by omega) (by simp; omega) fun w6 hq6 => ?_
      unfold dt; rw [if_pos h]; simpa using hq6
    · unfold dt; rw [h]; simpa using hq4
end
end Go.Proofs.YtgnddjnnkghedaaGreatDoor
set_option linter.unusedSimpArgs false
set_option linter.unusedVariables false
namespace Go.Proofs.YtgnddjnnkghedaaGreatDoor
open Go.V Go.RowKit
theorem like_sq (s : Str) : (rstep s 91).2.2 = !(rnum [91] [93] s false).2.2 ∧ ((rstep s 91).2.2 = true → (rstep s 91).1 = (rnum [91] [93] s false).1 ∧ (rstep s 91).2.1 = (rnum [91] [93] s false).2.1) := by
  cases s with
  | nil => simp [rstep, rnum]
  | cons c x =>
    by_cases hc : c = 91
    · subst hc
      have hp : ([91] : Str).isPrefixOf (91 :: x) = true := by simp
      unfold rstep rnum
      rw [if_pos hp]
      simp only [List.length_cons, List.length_nil, List.drop_succ_cons, List.drop_zero, if_true, Bool.false_or]
      generalize numOf (x.takeWhile isDig) = nv
      generalize x.dropWhile isDig = y
      by_cases h1 : (nv.2 != 0 || (decide (nv.1 < 1) || decide (200 < nv.1))) = true
      · rw [if_pos h1]
        have : (nv.2 != 0 || (decide (nv.1 < 1) || (decide (200 < nv.1) || !(([93] : Str).isPrefixOf y)))) = true := by
          simp only [Bool.or_eq_true] at h1 ⊢
          rcases h1 with h | h | h
          · exact .inl h
          · exact .inr (.inl h)
          · exact .inr (.inr (.inl h))
        simp [this]
      · rw [if_neg h1]
        have h1 := Bool.eq_false_iff.2 h1
        simp only [Bool.or_eq_false_iff] at h1
        obtain ⟨e1, e2, e3⟩ := h1
        cases y with
        | nil => simp [e1, e2, e3]
        | cons d y =>
          by_cases hd : d = 93
          · subst hd; simp [e1, e2, e3]
          · have hd' : ¬ (93 : UInt8) = d := fun e => hd e.symm
            have hb : (d != 93) = true := by simpa using hd
            have hb2 : ((93 : UInt8) == d) = false := by simpa using hd'
            simp [e1, e2, e3, hb, hb2, hd, hd', List.isPrefixOf]
    · have hc' : ¬ (91 : UInt8) = c := fun e => hc e.symm
      simp [rstep, rnum, hc, hc']
theorem like_sg (g : UInt8) (hg : g ≠ 91) (s : Str) : (rstep s g).2.2 = !(rnum [g] [] s false).2.2 ∧ ((rstep s g).2.2 = true → (rstep s g).1 = (rnum [g] [] s false).1 ∧ (rstep s g).2.1 = (rnum [g] [] s false).2.1) := by
  cases s with
  | nil => simp [rstep, rnum]
  | cons c x =>
    by_cases hc : c = g
    · subst hc
      have hp : ([c] : Str).isPrefixOf (c :: x) = true := by simp
      unfold rstep rnum
      rw [if_pos hp]
      simp only [List.length_cons, List.length_nil, List.drop_succ_cons, List.drop_zero, if_true, Bool.false_or, if_neg hg]
      generalize numOf (x.takeWhile isDig) = nv
      generalize x.dropWhile isDig = y
      by_cases h1 : (nv.2 != 0 || (decide (nv.1 < 1) || decide (200 < nv.1))) = true
      · rw [if_pos h1]; simp only [Bool.or_eq_true] at h1; rcases h1 with h | h | h <;> simp [h]
      · rw [if_neg h1]
        have h1 := Bool.eq_false_iff.2 h1
        simp only [Bool.or_eq_false_iff] at h1
        obtain ⟨e1, e2, e3⟩ := h1
        simp [e1, e2, e3]
    · have hc' : ¬ g = c := fun e => hc e.symm
      simp [rstep, rnum, hc, hc']
theorem rnum_bad (op en s : Str) : (rnum op en s true).2.2 = true := by unfold rnum; split <;> simp
end Go.Proofs.YtgnddjnnkghedaaGreatDoor
set_option linter.unusedSimpArgs false
set_option linter.unusedVariables false
namespace Go.Proofs.YtgnddjnnkghedaaGreatDoor
open Go.V Go.RowKit
def zPa : Pa := ⟨[], 0, 0, 0, 0, 0⟩
def fin (seg : Str) (r : Int × Str × Bool) (p : Pa) : Option Pa := if r.2.2 = true then none else if r.2.1 = [] then (if isName seg = true then some p else none) else none
def pD (seg : Str) (o f rp : Int) (r : Int × Str × Bool) : Option Pa := fin seg (rnum [46] [] r.2.1 r.2.2) ⟨seg, o, f, rp, r.1, (rnum [46] [] r.2.1 r.2.2).1⟩
def pC (seg : Str) (o f : Int) (r : Int × Str × Bool) : Option Pa := if ([46] : Str).isPrefixOf r.2.1 = true then pD seg o f r.1 (rnum [46] [] r.2.1 r.2.2) else fin seg r ⟨seg, o, f, r.1, 1, 1⟩
def pB (seg : Str) (o : Int) (r : Int × Str × Bool) : Option Pa := pC seg o r.1 (rnum [91] [93] r.2.1 r.2.2)
def pA (seg : Str) (r : Int × Str × Bool) : Option Pa := if ([45] : Str).isPrefixOf r.2.1 = true then pB seg r.1 (rnum [45] [] r.2.1 r.2.2) else fin seg r ⟨seg, r.1, 0, 0, 0, 0⟩
/-- What path.Parse tells. -/
def parseP (s : Str) : Option Pa := pA (s.take 3) (rnum [91] [93] (s.drop 3) false)
def qE (seg : Str) (o f rp c : Int) (e : Int × Str × Bool) : Option Pa := if e.2.2 = true then (if e.2.1 = [] then some ⟨seg, o, f, rp, c, e.1⟩ else none) else none
def qD (seg : Str) (o f rp : Int) (d : Int × Str × Bool) : Option Pa := qE seg o f rp d.1 (if d.2.2 = true then (if d.2.1 = [] then (1, d.2.1, d.2.2) else rstep d.2.1 46) else (1, d.2.1, d.2.2))
def qC (seg : Str) (o f : Int) (c : Int × Str × Bool) : Option Pa := qD seg o f c.1 (if c.2.2 = true then rstep c.2.1 46 else (0, c.2.1, c.2.2))
def qB (seg : Str) (o : Int) (b : Int × Str × Bool) : Option Pa := qC seg o b.1 (if b.2.2 = true then rstep b.2.1 91 else (0, b.2.1, b.2.2))
def qA (seg : Str) (a : Int × Str × Bool) : Option Pa :=
  if a.2.2 = true then (if a.2.1 = [] then some ⟨seg, a.1, 0, 0, 0, 0⟩ else if a.2.1.getD 0 0 = 45 then qB seg a.1 (rstep a.2.1 45) else none) else none
/-- What the document's ParsePath tells. -/
def parseR (s : Str) : Option Pa := if s.length < 3 then none else if isName (s.take 3) = true then qA (s.take 3) (rstep (s.drop 3) 91) else none

theorem fin_bad {seg : Str} {r : Int × Str × Bool} {p : Pa} (h : r.2.2 = true) : fin seg r p = none := by unfold fin; rw [if_pos h]
theorem fin_name {seg : Str} {r : Int × Str × Bool} {p : Pa} (h : isName seg = false) : fin seg r p = none := by
  unfold fin; rw [h]; split
  · rfl
  · split <;> simp
theorem pD_bad {seg : Str} {o f rp : Int} {r : Int × Str × Bool} (h : r.2.2 = true) : pD seg o f rp r = none := by unfold pD; rw [h]; exact fin_bad (rnum_bad _ _ _)
theorem pD_name {seg : Str} {o f rp : Int} {r : Int × Str × Bool} (h : isName seg = false) : pD seg o f rp r = none := fin_name h
theorem pC_bad {seg : Str} {o f : Int} {r : Int × Str × Bool} (h : r.2.2 = true) : pC seg o f r = none := by
  unfold pC; split
  · rw [h]; exact pD_bad (rnum_bad _ _ _)
  · exact fin_bad h
theorem pC_name {seg : Str} {o f : Int} {r : Int × Str × Bool} (h : isName seg = false) : pC seg o f r = none := by
  unfold pC; split
  · exact pD_name h
  · exact fin_name h
theorem pB_bad {seg : Str} {o : Int} {r : Int × Str × Bool} (h : r.2.2 = true) : pB seg o r = none := by unfold pB; rw [h]; exact pC_bad (rnum_bad _ _ _)
theorem pA_bad {seg : Str} {r : Int × Str × Bool} (h : r.2.2 = true) : pA seg r = none := by
  unfold pA; split
  · rw [h]; exact pB_bad (rnum_bad _ _ _)
  · exact fin_bad h
theorem pA_name {seg : Str} {r : Int × Str × Bool} (h : isName seg = false) : pA seg r = none := by
  unfold pA; split
  · exact pC_name h
  · exact fin_name h
theorem qE_bad {seg : Str} {o f rp c : Int} {e : Int × Str × Bool} (h : e.2.2 = false) : qE seg o f rp c e = none := by unfold qE; rw [if_neg (by rw [h]; simp)]
theorem qD_bad {seg : Str} {o f rp : Int} {d : Int × Str × Bool} (h : d.2.2 = false) : qD seg o f rp d = none := by
  unfold qD; rw [if_neg (by rw [h]; simp)]; exact qE_bad h
theorem qC_bad {seg : Str} {o f : Int} {d : Int × Str × Bool} (h : d.2.2 = false) : qC seg o f d = none := by
  unfold qC; rw [if_neg (by rw [h]; simp)]; exact qD_bad h
theorem qB_bad {seg : Str} {o : Int} {d : Int × Str × Bool} (h : d.2.2 = false) : qB seg o d = none := by
  unfold qB; rw [if_neg (by rw [h]; simp)]; exact qC_bad h
theorem qA_bad {seg : Str} {d : Int × Str × Bool} (h : d.2.2 = false) : qA seg d = none := by
  unfold qA; rw [if_neg (by rw [h]; simp)]

def Like (a r : Int × Str × Bool) : Prop := a.2.2 = !r.2.2 ∧ (a.2.2 = true → a.1 = r.1 ∧ a.2.1 = r.2.1)
theorem Like.cases {a r : Int × Str × Bool} (h : Like a r) : (a.2.2 = false ∧ r.2.2 = true) ∨ (∃ n y, a = (n, y, true) ∧ r = (n, y, false)) := by
  obtain ⟨n, y, b⟩ := a
  obtain ⟨m, z, c⟩ := r
  obtain ⟨h1, h2⟩ := h
  simp only at h1 h2 ⊢
  cases b
  · exact .inl ⟨rfl, by simpa using h1⟩
  · obtain ⟨rfl, rfl⟩ := h2 rfl
    exact .inr ⟨_, _, rfl, by simp at h1; rw [h1]⟩
theorem pre1 (c d : UInt8) (z : Str) : ([c] : Str).isPrefixOf (d :: z) = decide (d = c) := by
  simp only [List.isPrefixOf, Bool.and_true]
  by_cases h : d = c
  · simp [h]
  · have : ¬ c = d := fun e => h e.symm
    simp [h, this]
theorem fin_ok {seg : Str} (hn : isName seg = true) (n : Int) (y : Str) (p : Pa) : fin seg (n, y, false) p = if y = [] then some p else none := by
  unfold fin; rw [if_neg (by simp), if_pos hn]
theorem likeE {seg : Str} {o f rp c : Int} (hn : isName seg = true) {a r : Int × Str × Bool} (h : Like a r) : qE seg o f rp c a = fin seg r ⟨seg, o, f, rp, c, r.1⟩ := by
  rcases h.cases with ⟨h1, h2⟩ | ⟨n, y, rfl, rfl⟩
  · rw [qE_bad h1, fin_bad h2]
  · rw [fin_ok hn]; unfold qE; rw [if_pos rfl]
theorem likeD {seg : Str} {o f rp : Int} (hn : isName seg = true) {a r : Int × Str × Bool} (h : Like a r) : qD seg o f rp a = pD seg o f rp r := by
  rcases h.cases with ⟨h1, h2⟩ | ⟨n, y, rfl, rfl⟩
  · rw [qD_bad h1, pD_bad h2]
  · unfold qD pD
    rw [if_pos rfl]
    refine likeE hn ?_
    simp only
    split
    · rename_i he; subst he; exact like_sg 46 (by decide) []
    · exact like_sg 46 (by decide) y
theorem rnum_no {op en s : Str} {b : Bool} (h : op.isPrefixOf s = false) : rnum op en s b = (1, s, b) := by unfold rnum; rw [if_neg (by rw [h]; simp)]
theorem likeC {seg : Str} {o f : Int} (hn : isName seg = true) {a r : Int × Str × Bool} (h : Like a r) : qC seg o f a = pC seg o f r := by
  rcases h.cases with ⟨h1, h2⟩ | ⟨n, y, rfl, rfl⟩
  · rw [qC_bad h1, pC_bad h2]
  · unfold qC pC
    rw [if_pos rfl]
    by_cases hp : ([46] : Str).isPrefixOf y = true
    · rw [if_pos hp]; exact likeD hn (like_sg 46 (by decide) y)
    · rw [if_neg hp]
      rw [likeD hn (like_sg 46 (by decide) y)]
      have hp := Bool.eq_false_iff.2 hp
      simp only
      rw [rnum_no hp]
      unfold pD
      simp only
      rw [rnum_no hp, fin_ok hn, fin_ok hn]
theorem likeB {seg : Str} {o : Int} (hn : isName seg = true) {a r : Int × Str × Bool} (h : Like a r) : qB seg o a = pB seg o r := by
  rcases h.cases with ⟨h1, h2⟩ | ⟨n, y, rfl, rfl⟩
  · rw [qB_bad h1, pB_bad h2]
  · unfold qB pB
    rw [if_pos rfl]
    exact likeC hn (like_sq y)
theorem likeA {seg : Str} (hn : isName seg = true) {a r : Int × Str × Bool} (h : Like a r) : qA seg a = pA seg r := by
  rcases h.cases with ⟨h1, h2⟩ | ⟨n, y, rfl, rfl⟩
  · rw [qA_bad h1, pA_bad h2]
  · unfold qA pA
    rw [if_pos rfl]
    cases y with
    | nil => rw [if_pos rfl, if_neg (by simp), fin_ok hn]; rfl
    | cons c z =>
      simp only
      rw [if_neg (by simp), pre1, List.getD_cons_zero]
      by_cases hc : c = 45
      · rw [if_pos hc, if_pos (by simpa using hc)]; exact likeB hn (like_sg 45 (by decide) _)
      · rw [if_neg hc, if_neg (by simpa using hc), fin_ok hn]; rfl
/-- The program reads as the document does. -/
theorem parse_alike (s : Str) : parseP s = parseR s := by
  unfold parseP parseR
  by_cases hn : isName (s.take 3) = true
  · have : ¬ s.length < 3 := by
      intro h; unfold isName at hn
      simp at hn; omega
    rw [if_neg this, if_pos hn]
    exact (likeA hn (like_sq _)).symm
  · rw [if_neg hn, pA_name (Bool.eq_false_iff.2 hn)]; split <;> rfl
theorem qE_seg {seg : Str} {o f rp c : Int} {e : Int × Str × Bool} {p : Pa} (h : qE seg o f rp c e = some p) : p.seg = seg := by
  unfold qE at h
  split at h
  · split at h
    · cases h; rfl
    · cases h
  · cases h
theorem parseP_seg {s : Str} {p : Pa} (h : parseP s = some p) : p.seg = s.take 3 := by
  rw [parse_alike] at h
  unfold parseR at h
  split at h
  · cases h
  split at h
  · unfold qA at h
    split at h
    · split at h
      · cases h; rfl
      · split at h
        · exact qE_seg h
        · cases h
    · cases h
  · cases h
end Go.Proofs.YtgnddjnnkghedaaGreatDoor
set_option linter.unusedSimpArgs false
set_option linter.unusedVariables false
namespace Go.Proofs.YtgnddjnnkghedaaGreatDoor
open Go.V Go.RowKit
def pp : Option Pa → Pa
  | none => zPa
  | some p => p
def pe : Option Pa → Int
  | none => 60
  | some _ => 0
/-- A path and its error. -/
def po (o : Option Pa) : Value := .tuple (List.toArray [.agg (List.toArray (pc (pp o))), .int .i64 (pe o)])
section
variable {w : World} {k : Value → World → Prop}
set_option maxHeartbeats 1000000 in
theorem parse_spec (s : Str) (hs : s.length ≤ 1000000000000000) (hk : ∀ w', Fr Non w w' → k (po (parseP s)) w') : Cl Tryz.prog 23 [.string (mkS s)] w k := by
  refine f23_ok ?_
  unfold f23
  rintro b2 w3 rfl hw3
  have hlen : (if (s.length : Int) < 3 then (s.length : Int) else 3) = ((min 3 s.length : Nat) : Int) := by split <;> omega
  rw [hlen]
  have e1 : sub s 0 ((min 3 s.length : Nat) : Int) = s.take 3 := by
    unfold sub; simp [List.take_eq_take_iff]
  have e2 : sub s ((min 3 s.length : Nat) : Int) (s.length : Int) = s.drop 3 := by
    rw [sub_suf]
    by_cases h : 3 ≤ s.length
    · rw [Nat.min_eq_left h]
    · rw [Nat.min_eq_right (by omega), List.drop_of_length_le (Nat.le_refl _), List.drop_of_length_le (by omega)]
  rw [e1, e2]
  have f3 : Fr Non w w3 := hw3 ▸ (Fr.refl Non w).alloc _
  have hZ3 : Blk w3 w.heap.size 28 (pc zPa) := hw3 ▸ Blk.new w (pc zPa) 28
  refine ⟨⟨by omega, by omega, by omega⟩, clone_spec (s.take 3) (by simp; omega) fun w4 g4 => ⟨_, rfl, ?_⟩⟩
  have hZ4 := hZ3.fr g4 (fun h => h)
  have f4 := upN f3 g4 (fun g hg => hg.elim)
  rintro b7 w8 hb7 hw8
  have hP8 : Blk w8 b7 28 (pc zPa) := hb7 ▸ hw8 ▸ Blk.new w4 (pc zPa) 28
  have hZ8 : Blk w8 w.heap.size 28 (pc zPa) := hw8 ▸ hZ4.alloc _
  have f8 : Fr Non w w8 := hw8 ▸ f4.alloc _
  have hlt7 : w.heap.size < b7 := hb7 ▸ hZ4.lt
  refine ⟨mayCells_of hP8 0 6 (by simp [pc]), ?_⟩
  rintro w9 hw9
  generalize hseg : s.take 3 = seg
  rw [hseg] at hw9
  have hsl : seg.length ≤ 3 := by rw [← hseg]; simp; omega
  let p0 : Pa := ⟨seg, 0, 0, 0, 0, 0⟩
  have hP9 : Blk w9 b7 28 (pc p0) := hw9 ▸ hP8.setAll rfl
  have f9 : Fr Non w w9 := hw9 ▸ f8.setAll hP8 (vs := pc p0) rfl (fun h => absurd h (by omega))
  have hZ9 : Blk w9 w.heap.size 28 (pc zPa) := by
    have := (Fr.refl (fun g => g = b7) w8).setAll hP8 (vs := pc p0) rfl (fun _ => rfl)
    rw [hw9]; exact hZ8.fr this (by omega)
  refine ⟨⟨by omega, by omega, by omega⟩, ?_⟩
  rintro b10 w11 hb10 hw11
  generalize hT : s.drop 3 = t0 at hw11 ⊢
  have htl : t0.length ≤ 1000000000000000 := by rw [← hT]; simp; omega
  -- the result's cells, the path's, the reader's
  have hlt10 : b7 < b10 := hb10 ▸ hP9.lt
  let Q : Pa → Str → Bool → World → Prop := fun p t bd w' => Blk w' w.heap.size 28 (pc zPa) ∧ Blk w' b7 28 (pc p) ∧ Blk w' b10 144 [.string (mkS t), .bool bd] ∧ Fr Non w w' ∧ t.length ≤ 1000000000000000
  have hQ11 : Q p0 t0 false w11 := by
    refine ⟨hw11 ▸ hZ9.alloc _, hw11 ▸ hP9.alloc _, hb10 ▸ hw11 ▸ Blk.new w9 _ _, hw11 ▸ f9.alloc _, htl⟩
  have Qf : ∀ {p : Pa} {t : Str} {bd : Bool} {w' w'' : World}, Q p t bd w' → Fr Non w' w'' → Q p t bd w'' := by
    rintro p t bd w' w'' ⟨h1, h2, h3, h4, h5⟩ f
    exact ⟨h1.fr f (fun h => h), h2.fr f (fun h => h), h3.fr f (fun h => h), h4.trans' f, h5⟩
  have Qs : ∀ {p : Pa} {t : Str} {bd : Bool} {w' : World} (p' : Pa) (i : Nat) (v : Value), Q p t bd w' → (pc p).set i v = pc p' → i < 6 → (w'.cell? ((⟨b7, 0, none⟩ : Addr).add i)).isSome = true ∧ w'.frozen? ((⟨b7, 0, none⟩ : Addr).add i) = false ∧ Q p' t bd (w'.setCell ((⟨b7, 0, none⟩ : Addr).add i) v) := by
    rintro p t bd w' p' i v ⟨h1, h2, h3, h4, h5⟩ he hi
    rw [add_mk]
    have e0 : (0 : Nat) + i = i := by omega
    rw [e0]
    exact ⟨h2.isS (by simpa [pc] using hi), h2.free i, h1.ne (a := ⟨b7, i, none⟩) (by simp only; omega) _, he ▸ h2.set i v, h3.ne (a := ⟨b7, i, none⟩) (by simp only; omega) _, h4.set (a := ⟨b7, i, none⟩) (fun h => by simp only at h; omega) _, h5⟩
  have num : ∀ (op en : Str) {p : Pa} {t : Str} {bd : Bool} {w' : World} {k2 : Value → World → Prop}, Q p t bd w' → (∀ w'', Q p (rnum op en t bd).2.1 (rnum op en t bd).2.2 w'' → k2 (.int .i64 (rnum op en t bd).1) w'') →
      Cl Tryz.prog 133 [.pointer (some ⟨b10, 0, none⟩), .string (mkS op), .string (mkS en)] w' k2 := by
    rintro op en p t bd w' k2 ⟨h1, h2, h3, h4, h5⟩ hk2
    refine rnum_spec op en t bd h5 h3 fun w'' hB f => hk2 _ ?_
    refine ⟨h1.fr f (by omega), h2.fr f (by omega), hB, upN h4 f (fun g hg => by omega), ?_⟩
    unfold rnum; split
    · simp only; split
      · simp; have := (List.dropWhile_sublist isDig (l := t.drop op.length)).length_le; simp at this; omega
      · have := (List.dropWhile_sublist isDig (l := t.drop op.length)).length_le; simp at this; omega
    · exact h5
  have hps : parseP s = pA seg (rnum [91] [93] t0 false) := by unfold parseP; rw [hseg, hT]
  rw [hps] at hk
  refine num [91] [93] hQ11 fun w12 q12 => ⟨_, rfl, ?_⟩
  generalize hr1 : rnum [91] [93] t0 false = r1 at q12 hk ⊢
  obtain ⟨a1, a2, q15⟩ := Qs ⟨seg, r1.1, 0, 0, 0, 0⟩ 1 (.int .i64 r1.1) q12 rfl (by omega)
  refine ⟨a1, a2, ?_⟩
  rintro w15 rfl
  refine ⟨fun w' => ∃ p n t bd, p.seg = seg ∧ Q p t bd w' ∧ fin seg (n, t, bd) p = pA seg r1, ?_, ?_⟩
  · rintro w17 ⟨p, n, t, bd, hpseg, q17, hfin⟩
    refine ⟨fun v w' => ∃ w0, w' = w0 ∧ Q p t bd w' ∧ (v = true → pA seg r1 = none) ∧ (v = false → pA seg r1 = some p), ?_, bd, by rw [add_mk]; exact q17.2.2.1.cell rfl, fun hb => ⟨_, rfl, q17, fun _ => ?_, fun h => by cases h⟩, fun hb => ⟨t, q17.2.2.1.cell rfl, fun ht => ⟨_, rfl, q17, fun _ => ?_, fun h => by cases h⟩, fun ht => ⟨p.seg, q17.2.1.cell rfl, ?_⟩⟩⟩
    · rintro v w46 ⟨w0, rfl, ⟨h1, h2, h3, h4, h5⟩, hv1, hv2⟩
      refine ⟨fun hv => ⟨mayCells_of h1 0 6 (by simp [pc]), ?_⟩, fun hv => ⟨_, _, _, _, _, _, h2.ats (pc p) 0 0 (fun q v hq => by simpa using hq), mayCells_of h1 0 6 (by simp [pc]), ?_⟩⟩
      · rintro w53 rfl
        refine ⟨_, _, _, _, _, _, (h1.setAll (vs := pc zPa) rfl).ats (pc zPa) 0 0 (fun q v hq => by simpa using hq), ?_⟩
        have := hk _ (h4.setAll h1 (vs := pc zPa) rfl (fun h => absurd h (Nat.lt_irrefl _)))
        rw [hv1 hv] at this; exact this
      · rintro w53 rfl
        refine ⟨_, _, _, _, _, _, (h1.setAll (vs := pc p) rfl).ats (pc p) 0 0 (fun q v hq => by simpa using hq), ?_⟩
        have := hk _ (h4.setAll h1 (vs := pc p) rfl (fun h => absurd h (Nat.lt_irrefl _)))
        rw [hv2 hv] at this; exact this
    · rw [← hfin]; exact fin_bad hb
    · rw [← hfin]; unfold fin
      have ht : ¬ t = [] := by simpa using ht
      simp [ht]
    · have ht : t = [] := by simpa using ht
      refine isName_spec p.seg (by rw [hpseg]; omega) fun w50 f50 => ⟨_, rfl, _, rfl, Qf q17 f50, fun hn => ?_, fun hn => ?_⟩
      · have hn := (Bool.not_eq_true' _).mp hn
        rw [← hfin]; exact fin_name (hpseg ▸ hn)
      · have hn := (Bool.not_eq_false' _).mp hn
        rw [← hfin, hb, ht]; rw [fin_ok (hpseg ▸ hn)]; rfl
  refine ⟨r1.2.1, q15.2.2.1.cell rfl, strHasPrefix_spec _ _ ⟨_, rfl, fun hp => ?_, fun hp => ?_⟩⟩
  · have hA : pA seg r1 = pB seg r1.1 (rnum [45] [] r1.2.1 r1.2.2) := by unfold pA; rw [if_pos hp]
    rw [hA]
    refine num [45] [] q15 fun w22 q22 => ⟨_, rfl, ?_⟩
    generalize hr2 : rnum [45] [] r1.2.1 r1.2.2 = r2 at q22 ⊢
    obtain ⟨a1, a2, q25⟩ := Qs ⟨seg, r1.1, r2.1, 0, 0, 0⟩ 2 (.int .i64 r2.1) q22 rfl (by omega)
    refine ⟨a1, a2, ?_⟩
    rintro w25 rfl
    have hB : pB seg r1.1 r2 = pC seg r1.1 r2.1 (rnum [91] [93] r2.2.1 r2.2.2) := rfl
    rw [hB]
    refine num [91] [93] q25 fun w26 q26 => ⟨_, rfl, ?_⟩
    generalize hr3 : rnum [91] [93] r2.2.1 r2.2.2 = r3 at q26 ⊢
    obtain ⟨a1, a2, q29⟩ := Qs ⟨seg, r1.1, r2.1, r3.1, 0, 0⟩ 3 (.int .i64 r3.1) q26 rfl (by omega)
    refine ⟨a1, a2, ?_⟩
    rintro w29 rfl
    obtain ⟨a1, a2, q30⟩ := Qs ⟨seg, r1.1, r2.1, r3.1, 1, 0⟩ 4 (.int .i64 1) q29 rfl (by omega)
    refine ⟨a1, a2, ?_⟩
    rintro w30 rfl
    obtain ⟨a1, a2, q31⟩ := Qs ⟨seg, r1.1, r2.1, r3.1, 1, 1⟩ 5 (.int .i64 1) q30 rfl (by omega)
    refine ⟨a1, a2, ?_⟩
    rintro w31 rfl
    refine ⟨r3.2.1, q31.2.2.1.cell rfl, strHasPrefix_spec _ _ ⟨_, rfl, fun hp => ?_, fun hp => ?_⟩⟩
    · have hC : pC seg r1.1 r2.1 r3 = pD seg r1.1 r2.1 r3.1 (rnum [46] [] r3.2.1 r3.2.2) := by unfold pC; rw [if_pos hp]
      rw [hC]
      refine num [46] [] q31 fun w36 q36 => ⟨_, rfl, ?_⟩
      generalize hr4 : rnum [46] [] r3.2.1 r3.2.2 = r4 at q36 ⊢
      obtain ⟨a1, a2, q39⟩ := Qs ⟨seg, r1.1, r2.1, r3.1, r4.1, 1⟩ 4 (.int .i64 r4.1) q36 rfl (by omega)
      refine ⟨a1, a2, ?_⟩
      rintro w39 rfl
      refine num [46] [] q39 fun w40 q40 => ⟨_, rfl, ?_⟩
      obtain ⟨a1, a2, q43⟩ := Qs ⟨seg, r1.1, r2.1, r3.1, r4.1, (rnum [46] [] r4.2.1 r4.2.2).1⟩ 5 (.int .i64 (rnum [46] [] r4.2.1 r4.2.2).1) q40 rfl (by omega)
      refine ⟨a1, a2, ?_⟩
      rintro w43 rfl
      exact ⟨_, (rnum [46] [] r4.2.1 r4.2.2).1, _, _, rfl, q43, rfl⟩
    · have hp : ¬ ([46] : Str).isPrefixOf r3.2.1 = true := by rw [hp]; simp
      have hC : pC seg r1.1 r2.1 r3 = fin seg r3 ⟨seg, r1.1, r2.1, r3.1, 1, 1⟩ := by unfold pC; rw [if_neg hp]
      exact ⟨_, r3.1, _, _, rfl, q31, hC.symm⟩
  · have hp : ¬ ([45] : Str).isPrefixOf r1.2.1 = true := by rw [hp]; simp
    have hA : pA seg r1 = fin seg r1 ⟨seg, r1.1, 0, 0, 0, 0⟩ := by unfold pA; rw [if_neg hp]
    exact ⟨_, r1.1, _, _, rfl, q15, hA.symm⟩
end
end Go.Proofs.YtgnddjnnkghedaaGreatDoor
set_option linter.unusedSimpArgs false
set_option linter.unusedVariables false
namespace Go.Proofs.YtgnddjnnkghedaaGreatDoor
open Go.V Go.RowKit
theorem rstep_len (s : Str) (g : UInt8) : (rstep s g).2.1.length ≤ s.length := by
  unfold rstep
  split
  · simp
  · rename_i c x
    have := (List.dropWhile_sublist isDig (l := x)).length_le
    split
    · split
      · simp
      · split
        · split
          · simp
          · simp; omega
        · simp; omega
    · simp
section
variable {w : World} {k : Value → World → Prop}
end
end Go.Proofs.YtgnddjnnkghedaaGreatDoor
set_option linter.unusedSimpArgs false
set_option linter.unusedVariables false
namespace Go.Proofs.YtgnddjnnkghedaaGreatDoor
open Go.V Go.RowKit
theorem newPa {w0 w1 : World} (f : Fr Non w0 w1) (p : Pa) {b : Nat} {w2 : World} (hb : b = w1.heap.size) (hw : w2 = w1.alloc (.cells (List.toArray (pc zPa)) 28)) :
    mayCells w2 ⟨b, 0, none⟩ 0 6 ∧ ∀ w3, w3 = setCells w2 ⟨b, 0, none⟩ 0 (pc p) → Blk w3 b 28 (pc p) ∧ Fr Non w1 w3 ∧ Fr Non w0 w3 := by
  have hB : Blk w2 b 28 (pc zPa) := hb ▸ hw ▸ Blk.new w1 (pc zPa) 28
  have f2 : Fr Non w1 w2 := hw ▸ (Fr.refl Non w1).alloc _
  refine ⟨mayCells_of hB 0 6 (by simp [pc]), ?_⟩
  rintro w3 rfl
  have f3 := f2.setAll hB (vs := pc p) rfl (fun h => absurd h (by omega))
  exact ⟨hB.setAll rfl, f3, f.trans' f3⟩
theorem patat {w : World} {b : Nat} {p : Pa} (h : Blk w b 28 (pc p)) : cellsAt w ⟨b, 0, none⟩ 0 (pc p) := h.ats (pc p) 0 0 (fun q v hq => by simpa using hq)
theorem al1 : parseP [80, 73, 68, 91, 50, 93, 45, 53, 46, 49, 46, 50] = some ⟨[80, 73, 68], 2, 5, 1, 1, 2⟩ := by kernel_rfl
theorem al2 : parseP [80, 73, 68, 45, 50, 46, 50] = some ⟨[80, 73, 68], 1, 2, 1, 2, 1⟩ := by kernel_rfl
theorem al3 : printP ⟨[80, 73, 68], 2, 5, 1, 1, 2⟩ = [80, 73, 68, 91, 50, 93, 45, 53, 46, 49, 46, 50] := by kernel_rfl
theorem al4 : validP ⟨[80, 73, 68], 1, 2, 1, 2, 1⟩ = true := by kernel_rfl
section
variable {w : World} {k : Value → World → Prop}
theorem alive_spec (hk : ∀ w', Fr Non w w' → k (.bool true) w') : Cl Tryz.prog 8 [] w k := by
  refine f8_ok ?_
  unfold f8
  refine parse_spec _ (by decide) fun w1 g1 => ?_
  rw [al1]
  refine ⟨_, _, _, _, _, _, _, rfl, ?_⟩
  intro b10 w11 hb10 hw11
  obtain ⟨m1, n1⟩ := newPa g1 ⟨[80, 73, 68], 2, 5, 1, 1, 2⟩ hb10 hw11
  refine ⟨m1, fun w12 hw12 => ?_⟩
  obtain ⟨hP, _, f12⟩ := n1 w12 hw12
  refine parse_spec _ (by decide) fun w13 g13 => ?_
  rw [al2]
  refine ⟨_, _, _, _, _, _, _, rfl, ?_⟩
  intro b22 w23 hb22 hw23
  obtain ⟨m2, n2⟩ := newPa (f12.trans' g13) ⟨[80, 73, 68], 1, 2, 1, 2, 1⟩ hb22 hw23
  refine ⟨m2, fun w24 hw24 => ?_⟩
  obtain ⟨hQ, g24, f24⟩ := n2 w24 hw24
  have hP24 := (hP.fr g13 (fun h => h)).fr g24 (fun h => h)
  refine ⟨fun _ => ⟨fun _ => ⟨_, _, _, _, _, _, patat hP24, ?_⟩, fun h => absurd h (by decide)⟩, fun h => absurd h (by decide)⟩
  refine print_spec ⟨[80, 73, 68], 2, 5, 1, 1, 2⟩ (by decide) fun w31 g31 => ?_
  rw [al3]
  have hQ31 := hQ.fr g31 (fun h => h)
  refine ⟨_, rfl, fun _ => ⟨2, by rw [add_mk]; exact hQ31.cell rfl, fun _ => ⟨1, by rw [add_mk]; exact hQ31.cell rfl, fun _ => ⟨_, _, _, _, _, _, patat hQ31, ?_⟩, fun h => absurd h (by decide)⟩, fun h => absurd h (by decide)⟩, fun h => absurd h (by decide)⟩
  refine valid_spec ⟨[80, 73, 68], 1, 2, 1, 2, 1⟩ (by decide) fun w42 g42 => ?_
  rw [al4]
  exact ⟨_, rfl, hk _ ((f24.trans' g31).trans' g42)⟩
end
end Go.Proofs.YtgnddjnnkghedaaGreatDoor
set_option linter.unusedSimpArgs false
set_option linter.unusedVariables false
namespace Go.Proofs.YtgnddjnnkghedaaGreatDoor
open Go.V Go.RowKit
section
variable {w : World} {k : Value → World → Prop}
end
end Go.Proofs.YtgnddjnnkghedaaGreatDoor
set_option linter.unusedSimpArgs false
set_option linter.unusedVariables false
namespace Go.Proofs.YtgnddjnnkghedaaGreatDoor
open Go.V Go.RowKit
theorem dec_fin : ∀ n : Fin 201, n.val = 0 ∨ ((dec n.val).all isDig = true ∧ numOf (dec n.val) = ((n.val : Int), 0)) := by decide +kernel
theorem dec_ok {n : Int} (h : inR n = true) : (dec n.toNat).all isDig = true ∧ numOf (dec n.toNat) = (n, 0) := by
  obtain ⟨h1, h2⟩ := inR_bnd h
  rcases dec_fin ⟨n.toNat, by omega⟩ with h0 | h0
  · simp only at h0; omega
  · simp only at h0
    rw [show ((n.toNat : Nat) : Int) = n from by omega] at h0; exact h0
theorem dec_short_fin : ∀ n : Fin 201, (dec n.val).length = if n.val < 10 then 1 else if n.val < 100 then 2 else 3 := by decide +kernel
/-- Digits that say a number are no fewer than those that it is printed with. -/
theorem dec_short {s : Str} {n : Int} (h1 : 1 ≤ n) (h2 : n ≤ 200) (h : numOf s = (n, 0)) : (dec n.toNat).length ≤ s.length := by
  have hl := dec_short_fin ⟨n.toNat, by omega⟩
  simp only at hl
  unfold numOf at h
  split at h
  · cases h
  split at h
  · rename_i hd
    obtain ⟨b1, b2⟩ := dval_bnd s hd
    split at h
    · cases h
    · simp only [Prod.mk.injEq] at h
      rw [hl]
      rcases hs : s with _ | ⟨a, _ | ⟨b, _ | ⟨c, r⟩⟩⟩
      · subst hs; simp at b2; omega
      · subst hs; simp at b2 ⊢; split
        · omega
        · omega
      · subst hs; simp at b2 ⊢; split
        · omega
        · split <;> omega
      · simp; split
        · omega
        · split <;> omega
  · cases h
theorem tw_app (p : UInt8 → Bool) : ∀ (a b : Str), a.all p = true → (∀ c z, b = c :: z → p c = false) → (a ++ b).takeWhile p = a ∧ (a ++ b).dropWhile p = b
  | [], [], _, _ => by simp
  | [], c :: z, _, h => by have := h c z rfl; simp [this]
  | x :: a, b, ha, h => by
    simp only [List.all_cons, Bool.and_eq_true] at ha
    obtain ⟨h1, h2⟩ := tw_app p a b ha.2 h
    simp [ha.1, h1, h2]
theorem rstep_none {s : Str} {g : UInt8} (h : ∀ c z, s = c :: z → c ≠ g) : rstep s g = (1, s, true) := by
  cases s with
  | nil => rfl
  | cons c z => simp [rstep, h c z rfl]
theorem rstep_dec {g : UInt8} {n : Int} (hg : g ≠ 91) (hn : inR n = true) (r : Str) (hr : ∀ c z, r = c :: z → isDig c = false) : rstep (g :: (dec n.toNat ++ r)) g = (n, r, true) := by
  obtain ⟨d1, d2⟩ := dec_ok hn
  obtain ⟨h1, h2⟩ := inR_bnd hn
  obtain ⟨t1, t2⟩ := tw_app isDig _ r d1 hr
  simp only [rstep, if_true, t1, t2, d2, if_neg hg]
  rw [if_neg]
  simp; omega
theorem rstep_br {n : Int} (hn : inR n = true) (r : Str) (hr : ∀ c z, r = c :: z → c ≠ 91) : rstep (br n ++ r) 91 = (n, r, true) := by
  obtain ⟨h1, h2⟩ := inR_bnd hn
  unfold br
  split
  · obtain ⟨d1, d2⟩ := dec_ok hn
    obtain ⟨t1, t2⟩ := tw_app isDig _ (93 :: r) d1 (fun c z e => by cases e; decide)
    simp only [List.cons_append, List.nil_append, List.append_assoc, rstep, if_true, t1, t2, d2]
    rw [if_neg (by simp; omega)]
    simp
  · have : n = 1 := by omega
    subst this
    exact rstep_none hr
theorem isName_len {s : Str} (h : isName s = true) : s.length = 3 := by unfold isName at h; simp at h; exact h.1
/-- The text behind the name. -/
def tailP (p : Pa) : Str := if p.fld = 0 then br p.occ else br p.occ ++ (45 :: (dec p.fld.toNat ++ (br p.rep ++ (dt (decide (1 < p.cmp) || decide (1 < p.sub)) p.cmp ++ dt (decide (1 < p.sub)) p.sub))))
theorem printP_tail {p : Pa} (h : validP p = true) : printP p = p.seg ++ tailP p := by
  unfold printP tailP
  rw [if_pos h]
  split
  · rfl
  · simp [List.append_assoc]
theorem plain_eq {p : Pa} (h : plain p = true) : p = ⟨p.seg, p.occ, 0, 0, 0, 0⟩ := by
  obtain ⟨a, b, c, d, e, f⟩ := p
  simp [plain] at h
  obtain ⟨rfl, rfl, rfl, rfl⟩ := h
  rfl
theorem dt_head {b : Bool} {n : Int} {r : Str} (hr : ∀ c z, r = c :: z → c = 46) : ∀ c z, dt b n ++ r = c :: z → c = 46 := by
  intro c z h
  unfold dt at h
  split at h
  · simp at h; exact h.1.symm
  · exact hr c z (by simpa using h)
/-- What is printed is read as the path. -/
theorem back {p : Pa} (h : validP p = true) : parseP (printP p) = some p := by
  rw [parse_alike, printP_tail h]
  have hv := h
  unfold validP at hv
  simp only [Bool.and_eq_true, Bool.or_eq_true] at hv
  obtain ⟨⟨hname, hocc⟩, hrest⟩ := hv
  have hl := isName_len hname
  have t3 : (p.seg ++ tailP p).take 3 = p.seg := by rw [← hl]; exact List.take_left
  have d3 : (p.seg ++ tailP p).drop 3 = tailP p := by rw [← hl]; exact List.drop_left
  unfold parseR
  rw [if_neg (by simp; omega), t3, d3, if_pos hname]
  by_cases hf : p.fld = 0
  · have hpl : plain p = true := by
      rcases hrest with hh | ⟨hh, _⟩
      · exact hh
      · rw [hf] at hh; cases hh
    have ht : tailP p = br p.occ := by unfold tailP; rw [if_pos hf]
    have hs := rstep_br hocc [] (fun c z e => by cases e)
    rw [List.append_nil] at hs
    rw [ht, hs]
    unfold qA
    rw [if_pos rfl, if_pos rfl]
    exact congrArg some (plain_eq hpl).symm
  · have hrest : inR p.fld = true ∧ inR p.rep = true ∧ inR p.cmp = true ∧ inR p.sub = true := by
      rcases hrest with hh | hh
      · exfalso; apply hf; have := plain_eq hh; rw [this]
      · exact hh
    obtain ⟨h2, h3, h4, h5⟩ := hrest
    obtain ⟨c1, c2⟩ := inR_bnd h4
    obtain ⟨s1, s2⟩ := inR_bnd h5
    have ht : tailP p = br p.occ ++ (45 :: (dec p.fld.toNat ++ (br p.rep ++ (dt (decide (1 < p.cmp) || decide (1 < p.sub)) p.cmp ++ dt (decide (1 < p.sub)) p.sub)))) := by unfold tailP; rw [if_neg hf]
    have e1 := rstep_br hocc (45 :: (dec p.fld.toNat ++ (br p.rep ++ (dt (decide (1 < p.cmp) || decide (1 < p.sub)) p.cmp ++ dt (decide (1 < p.sub)) p.sub)))) (fun c z e => by cases e; decide)
    rw [ht, e1]
    have hD : ∀ c z, dt (decide (1 < p.cmp) || decide (1 < p.sub)) p.cmp ++ dt (decide (1 < p.sub)) p.sub = c :: z → c = 46 := dt_head (fun c z e => by
      have := dt_head (b := decide (1 < p.sub)) (n := p.sub) (r := []) (fun c z e => by cases e) c z (by simpa using e)
      exact this)
    have hB : ∀ c z, br p.rep ++ (dt (decide (1 < p.cmp) || decide (1 < p.sub)) p.cmp ++ dt (decide (1 < p.sub)) p.sub) = c :: z → isDig c = false := by
      intro c z e
      unfold br at e
      split at e
      · simp at e; rw [← e.1]; decide
      · have := hD c z (by simpa using e); rw [this]; decide
    have e2 := rstep_dec (g := 45) (by decide) h2 _ hB
    have e3 := rstep_br h3 _ (fun c z e => by have := hD c z e; rw [this]; decide)
    unfold qA
    simp only
    rw [if_pos trivial, if_neg (by simp), List.getD_cons_zero, if_pos rfl, e2]
    unfold qB
    simp only
    rw [if_pos trivial, e3]
    unfold qC
    simp only
    rw [if_pos trivial]
    by_cases hcs : (decide (1 < p.cmp) || decide (1 < p.sub)) = true
    · have hd1 : dt (decide (1 < p.cmp) || decide (1 < p.sub)) p.cmp = 46 :: dec p.cmp.toNat := by unfold dt; rw [if_pos hcs]; rfl
      rw [hd1]
      have e4 := rstep_dec (g := 46) (by decide) h4 (dt (decide (1 < p.sub)) p.sub) (fun c z e => by
        have := dt_head (b := decide (1 < p.sub)) (n := p.sub) (r := []) (fun c z e => by cases e) c z (by simpa using e)
        rw [this]; decide)
      rw [List.cons_append, e4]
      unfold qD
      simp only
      rw [if_pos trivial]
      by_cases hs : 1 < p.sub
      · have hd2 : dt (decide (1 < p.sub)) p.sub = 46 :: (dec p.sub.toNat ++ []) := by unfold dt; rw [if_pos (by simpa using hs), List.append_nil]; rfl
        rw [hd2, if_neg (by simp), rstep_dec (g := 46) (by decide) h5 [] (fun c z e => by cases e)]
        unfold qE
        rw [if_pos rfl, if_pos rfl]
      · have hd2 : dt (decide (1 < p.sub)) p.sub = [] := by unfold dt; rw [if_neg (by simpa using hs)]
        have hs1 : p.sub = 1 := by omega
        rw [hd2, if_pos rfl]
        unfold qE
        simp only [if_true]
        rw [← hs1]
    · have hc1 : p.cmp = 1 := by simp at hcs; omega
      have hs1 : p.sub = 1 := by simp at hcs; omega
      have hd1 : dt (decide (1 < p.cmp) || decide (1 < p.sub)) p.cmp = [] := by unfold dt; rw [if_neg hcs]
      have hd2 : dt (decide (1 < p.sub)) p.sub = [] := by unfold dt; rw [if_neg (by simp [hs1])]
      rw [hd1, hd2]
      have : rstep (([] : Str) ++ []) 46 = (1, [], true) := rfl
      rw [this]
      unfold qD qE
      simp only [if_true]
      obtain ⟨a, b, c, d, e, f⟩ := p
      simp at hc1 hs1
      subst hc1 hs1
      rfl
/-- What a step takes is no shorter than what is printed for it. -/
theorem step_sg {s : Str} {g : UInt8} {n : Int} {y : Str} (hg : g ≠ 91) (h : rstep s g = (n, y, true)) : (n = 1 ∧ y = s ∧ (∀ c z, s = c :: z → c ≠ g)) ∨ (inR n = true ∧ 1 + (dec n.toNat).length + y.length ≤ s.length) := by
  cases s with
  | nil => left; simp [rstep] at h; exact ⟨h.1.symm, h.2, fun c z e => by cases e⟩
  | cons c x =>
    by_cases hc : c = g
    · right
      simp only [rstep, hc, if_true, if_neg hg] at h
      split at h
      · cases h
      · rename_i hb
        have hb := Bool.eq_false_iff.2 hb
        simp only [Bool.or_eq_false_iff, bne_eq_false_iff_eq, decide_eq_false_iff_not] at hb
        simp only [Prod.mk.injEq] at h
        obtain ⟨h1, h2, _⟩ := h
        obtain ⟨b1, b2, b3⟩ := hb
        rw [h1] at b2 b3
        have hnum : numOf (x.takeWhile isDig) = (n, 0) := by rw [← h1, ← b1]
        have := dec_short (by omega) (by omega) hnum
        have hx := congrArg List.length (List.takeWhile_append_dropWhile (p := isDig) (l := x))
        rw [h2, List.length_append] at hx
        refine ⟨by unfold inR; simp; omega, ?_⟩
        simp; omega
    · left
      simp [rstep, hc] at h
      exact ⟨h.1.symm, h.2.symm, fun c' z e => by cases e; exact hc⟩
theorem step_sq {s : Str} {n : Int} {y : Str} (h : rstep s 91 = (n, y, true)) : inR n = true ∧ (br n).length + y.length ≤ s.length := by
  cases s with
  | nil => simp [rstep] at h; obtain ⟨rfl, rfl⟩ := h; exact ⟨by decide, by simp [br]⟩
  | cons c x =>
    by_cases hc : c = 91
    · simp only [rstep, hc, if_true] at h
      split at h
      · cases h
      · rename_i hb
        have hb := Bool.eq_false_iff.2 hb
        simp only [Bool.or_eq_false_iff, bne_eq_false_iff_eq, decide_eq_false_iff_not] at hb
        split at h
        · cases h
        · rename_i hq
          simp only [Prod.mk.injEq] at h
          obtain ⟨h1, h2, _⟩ := h
          obtain ⟨b1, b2, b3⟩ := hb
          rw [h1] at b2 b3
          have hnum : numOf (x.takeWhile isDig) = (n, 0) := by rw [← h1, ← b1]
          have := dec_short (by omega) (by omega) hnum
          have hx := congrArg List.length (List.takeWhile_append_dropWhile (p := isDig) (l := x))
          rw [List.length_append] at hx
          have hy := congrArg List.length h2
          rw [List.length_drop] at hy
          have hne : x.dropWhile isDig ≠ [] := by intro e; rw [e] at hq; simp at hq
          have := List.length_pos_iff.2 hne
          refine ⟨by unfold inR; simp; omega, ?_⟩
          unfold br; split <;> simp <;> omega
    · simp [rstep, hc] at h
      obtain ⟨rfl, rfl⟩ := h
      exact ⟨by decide, by simp [br]⟩
theorem triple {r : Int × Str × Bool} (h : r.2.2 = true) : r = (r.1, r.2.1, true) := by rw [← h]
theorem qE_some {seg : Str} {o f rp c : Int} {e : Int × Str × Bool} {p : Pa} (h : qE seg o f rp c e = some p) : e = (e.1, [], true) ∧ p = ⟨seg, o, f, rp, c, e.1⟩ := by
  unfold qE at h
  split at h
  · rename_i h1
    split at h
    · rename_i h2
      cases h; exact ⟨by rw [← h1, ← h2], rfl⟩
    · cases h
  · cases h
/-- What is read is a path, and is printed as short as can be. -/
theorem read_ok {s : Str} {p : Pa} (h : parseP s = some p) : validP p = true ∧ (printP p).length ≤ s.length := by
  rw [parse_alike] at h
  unfold parseR at h
  split at h
  · cases h
  rename_i hl
  split at h
  · rename_i hname
    have hl3 := isName_len hname
    have hlen : s.length = 3 + (s.drop 3).length := by simp; omega
    revert h
    generalize s.drop 3 = t0 at hlen
    generalize s.take 3 = seg at hname hl3
    intro h
    unfold qA at h
    split at h
    · rename_i ha
      have ea := triple ha
      obtain ⟨ho, hol⟩ := step_sq ea
      split at h
      · cases h
        have hv : validP ⟨seg, (rstep t0 91).1, 0, 0, 0, 0⟩ = true := by unfold validP; simp only [hname, ho]; rfl
        refine ⟨hv, ?_⟩
        rw [printP_tail hv]; unfold tailP; simp only [if_true, List.length_append]; omega
      · split at h
        · rename_i hne h45
          have hq := h
          unfold qB at h
          by_cases hb : (rstep (rstep t0 91).2.1 45).2.2 = true
          · rw [if_pos hb] at h
            have eb := triple hb
            unfold qC at h
            by_cases hc : (rstep (rstep (rstep t0 91).2.1 45).2.1 91).2.2 = true
            · rw [if_pos hc] at h
              have ec := triple hc
              obtain ⟨hr, hrl⟩ := step_sq ec
              rcases step_sg (by decide) eb with ⟨_, _, hno⟩ | ⟨hfl, hfll⟩
              · exfalso
                cases hy : (rstep t0 91).2.1 with
                | nil => exact hne hy
                | cons c z =>
                  rw [hy] at h45
                  exact hno c z hy (by simpa using h45)
              unfold qD at h
              by_cases hd : (rstep (rstep (rstep (rstep t0 91).2.1 45).2.1 91).2.1 46).2.2 = true
              · rw [if_pos hd] at h
                generalize (rstep (rstep t0 91).2.1 45).1 = f at *
                generalize (rstep (rstep (rstep t0 91).2.1 45).2.1 91).1 = rp at *
                generalize (rstep t0 91).1 = o at *
                generalize (rstep (rstep (rstep t0 91).2.1 45).2.1 91).2.1 = y3 at *
                obtain ⟨⟨cn, y4, db⟩, ed⟩ : ∃ d, rstep y3 46 = d := ⟨_, rfl⟩
                rw [ed] at h hd
                simp only at h hd
                subst hd
                have hfb := inR_bnd hfl
                have key : ∀ sb : Int, inR cn = true → inR sb = true → (dt (decide (1 < cn) || decide (1 < sb)) cn).length + (dt (decide (1 < sb)) sb).length ≤ y3.length → p = ⟨seg, o, f, rp, cn, sb⟩ → validP p = true ∧ (printP p).length ≤ s.length := by
                  rintro sb hcn hsb hlen2 rfl
                  have hv : validP ⟨seg, o, f, rp, cn, sb⟩ = true := by unfold validP; simp only [hname, ho, hfl, hr, hcn, hsb]; simp
                  refine ⟨hv, ?_⟩
                  rw [printP_tail hv]; unfold tailP; simp only
                  rw [if_neg (by omega)]
                  simp only [List.length_append, List.length_cons]; omega
                rcases step_sg (by decide) ed with ⟨rfl, rfl, hno⟩ | ⟨hcn, hcl⟩
                · by_cases hy : y4 = []
                  · subst hy
                    rw [if_pos rfl] at h
                    obtain ⟨_, hp⟩ := qE_some h
                    exact key 1 (by decide) (by decide) (by simp [dt]) hp
                  · rw [if_neg hy, rstep_none hno] at h
                    obtain ⟨he, _⟩ := qE_some h
                    simp at he; exact absurd he hy
                · by_cases hy : y4 = []
                  · subst hy
                    rw [if_pos rfl] at h
                    obtain ⟨_, hp⟩ := qE_some h
                    refine key 1 hcn (by decide) ?_ hp
                    have : (dt (decide ((1 : Int) < 1)) 1).length = 0 := by simp [dt]
                    have h2 : (dt (decide (1 < cn) || decide ((1 : Int) < 1)) cn).length ≤ 1 + (dec cn.toNat).length := by unfold dt; split <;> simp; omega
                    omega
                  · rw [if_neg hy] at h
                    obtain ⟨he, hp⟩ := qE_some h
                    rcases step_sg (by decide) he with ⟨_, he2, _⟩ | ⟨hsn, hsl⟩
                    · exact absurd he2.symm hy
                    refine key _ hcn hsn ?_ hp
                    have h1 : ∀ (b : Bool) (n : Int), (dt b n).length ≤ 1 + (dec n.toNat).length := by intro b n; unfold dt; split <;> simp; omega
                    have h2 := h1 (decide (1 < cn) || decide (1 < (rstep y4 46).1)) cn
                    have h3 := h1 (decide (1 < (rstep y4 46).1)) (rstep y4 46).1
                    simp at hsl
                    omega
              · rw [if_neg hd, qE_bad] at h
                · cases h
                · exact Bool.eq_false_iff.2 hd
            · rw [if_neg hc, qD_bad] at h
              · cases h
              · exact Bool.eq_false_iff.2 hc
          · rw [if_neg hb, qC_bad] at h
            · cases h
            · exact Bool.eq_false_iff.2 hb
        · cases h
    · cases h
  · cases h
end Go.Proofs.YtgnddjnnkghedaaGreatDoor
