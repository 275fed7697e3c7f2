/- Feeding a reader. -/
import Derived.Test.YtmgmffoillbfeaaX2
set_option linter.unusedSimpArgs false
set_option linter.unusedVariables false
namespace Go.Proofs.Ytmgmffoillbfeaa
open Go.V Go.RowKit

/-- What holds while a byte is worked on: the reader, the row of the table (block d), the table (block t). -/
structure Wk (w0 : World) (F : Nat → Prop) (b d t : Nat) (v : TV) (r : RS) (w : World) (G : Nat → Prop) : Prop where
  rep : Rep 45 67 w b r G
  sub : ∀ g, G g → F g ∨ w0.heap.size ≤ g
  nd : ¬ G d
  nt : ¬ G t
  blk : Blk w d 62 [.int .i64 v.1, .int .i64 v.2.1, .bool v.2.2.1, .bool v.2.2.2]
  tab : MapAt w t tk tv tab
  fr : Fr F w0 w
def WkE (w0 : World) (F : Nat → Prop) (b d t : Nat) (v : TV) (r : RS) (w : World) : Prop := ∃ G, Wk w0 F b d t v r w G

section
variable {w0 w : World} {F G : Nat → Prop} {b d t : Nat} {v : TV} {r r' : RS}
theorem Wk.drew (h : Wk w0 F b d t v r w G) : Wk w0 F b d t v r w.drew G := ⟨h.rep.drew, h.sub, h.nd, h.nt, h.blk, h.tab, h.fr.drew⟩
theorem Wk.alloc (h : Wk w0 F b d t v r w G) (o : Obj) : Wk w0 F b d t v r (w.alloc o) G :=
  ⟨h.rep.alloc o, h.sub, h.nd, h.nt, h.blk.alloc o, h.tab.ext (Ext.alloc _ _), h.fr.alloc o⟩
theorem Wk.set (h : Wk w0 F b d t v r w G) (j : Nat) (x : Value) (hr : Rep 45 67 (w.setCell ⟨b, j, none⟩ x) b r' G) : Wk w0 F b d t v r' (w.setCell ⟨b, j, none⟩ x) G := by
  have hb := h.rep.own
  exact ⟨hr, h.sub, h.nd, h.nt, h.blk.fr (setF b j x) (fun e => h.nd (e ▸ hb)), h.tab.fr (setF b j x) (fun e => h.nt (e ▸ hb)), h.fr.set (a := ⟨b, j, none⟩) (fun hlt => (h.sub b hb).resolve_right (fun h => Nat.lt_irrefl _ (Nat.lt_of_lt_of_le hlt h))) x⟩
/-- Behind an append to one of the reader's lists and the store of what it gave. -/
theorem Wk.app (h : Wk w0 F b d t v r w G) {w1 : World} {j : Nat} {x : Value} (hf : Fr G w w1) (hr : Rep 45 67 (w1.setCell ⟨b, j, none⟩ x) b r' (fun g => (G g ∨ g = w.heap.size) ∧ g < w1.heap.size)) :
    WkE w0 F b d t v r' (w1.setCell ⟨b, j, none⟩ x) := by
  have hb := h.rep.own
  have hdb : d ≠ b := fun e => h.nd (e ▸ hb)
  have htb : t ≠ b := fun e => h.nt (e ▸ hb)
  refine ⟨_, hr, ?_, ?_, ?_, (h.blk.fr hf h.nd).fr (setF b j x) hdb, (h.tab.fr hf h.nt).fr (setF b j x) htb, ?_⟩
  · rintro g ⟨hg | rfl, _⟩
    · exact h.sub g hg
    · exact .inr h.fr.size
  · rintro ⟨hg | hg, _⟩
    · exact h.nd hg
    · have := h.blk.lt; omega
  · rintro ⟨hg | hg, _⟩
    · exact h.nt hg
    · have := h.tab.lt; omega
  · exact (h.fr.trans hf (fun g hlt hg => (h.sub g hg).resolve_right (fun h => by omega))).set (a := ⟨b, j, none⟩) (fun hlt => (h.sub b hb).resolve_right (fun h => Nat.lt_irrefl _ (Nat.lt_of_lt_of_le hlt h))) x
/-- A cell of the struct. -/
theorem Wk.cell (h : Wk w0 F b d t v r w G) : ∃ i e : Sl, Blk w b 45 [.int .i64 r.most, .int .i64 r.st, .slice i.base i.len i.cap, .slice e.base e.len e.cap, .int .i64 r.skip] := by
  obtain ⟨i, e, h, _⟩ := h.rep.blk; exact ⟨i, e, h⟩
end

set_option maxHeartbeats 1000000 in
theorem feed_spec {w : World} {k : Value → World → Prop} {b : Nat} {r : RS} {F : Nat → Prop} (s : Str) (h : Rep 45 67 w b r F) (ho : Ok r) (hs : (s.length : Int) + r.evs.length + r.skip ≤ 1000000000)
    (hk : ∀ w' F', Rep 45 67 w' b (fd r s) F' → Fr F w w' → (∀ g, F' g → F g ∨ w.heap.size ≤ g) → k (.tuple #[]) w') : Cl Try.prog 13 [.pointer (some ⟨b, 0, none⟩), .string (mkS s)] w k := by
  have hk0 := ho.k
  refine f13_ok ?_
  unfold f13
  refine ⟨fun h => by simp at h, fun _ => table_spec fun t w1 hlt htab hf1 => ⟨_, rfl, ?_⟩⟩
  refine ⟨fun m v w' => ∃ j : Nat, v = j ∧ j ≤ s.length ∧ m = s.length - j ∧ ∃ G, Rep 45 67 w' b (fd r (s.take j)) G ∧ (∀ g, G g → F g ∨ w.heap.size ≤ g) ∧ ¬ G t ∧ MapAt w' t tk tv tab ∧ Fr F w w',
    ⟨s.length, 0, rfl, by omega, by omega, F, h.fr hf1 (fun _ _ h => h), fun g hg => .inl hg, fun hF => by have := h.lt hF; omega, htab, hf1.mono (fun _ _ h => h.elim)⟩, ?_⟩
  rintro m v w2 ⟨j, rfl, hj, rfl, G, hR, hG, hGt, hT, hf⟩
  refine ⟨fun hlt => ?_, fun hge => ?_⟩
  case refine_2 =>
    simp only [decide_eq_false_iff_not] at hge
    obtain rfl : j = s.length := by omega
    rw [List.take_length] at hR
    exact hk _ _ hR hf hG
  simp only [decide_eq_true_eq] at hlt
  have hjl : j < s.length := by omega
  obtain ⟨ho1, hsk1, hev1, hm1⟩ := ho.fd (s.take j)
  have htk : (s.take j).length = j := by simp; omega
  rw [htk] at hsk1 hev1
  generalize hr1 : fd r (s.take j) = r1 at *
  obtain ⟨c, hc⟩ : ∃ c, s.getD j 0 = c := ⟨_, rfl⟩
  have hnext : fd r (s.take (j + 1)) = stp r1 c := by
    rw [List.take_succ_eq_append_getElem hjl, fd, List.foldl_append, ← hr1, ← hc]
    simp [fd, hjl]
  obtain ⟨d, hd, hstep⟩ := tstp_eq ho1.s0 ho1.s1 c
  have hcn : ((s.getD ((j : Int)).toNat 0).toNat : Int) = (c.toNat : Int) := by rw [show ((j : Int)).toNat = j from rfl, hc]
  simp only [hcn]
  -- behind the byte
  refine ⟨fun w' => ∃ G', Rep 45 67 w' b (stp r1 c) G' ∧ (∀ g, G' g → F g ∨ w.heap.size ≤ g) ∧ ¬ G' t ∧ MapAt w' t tk tv tab ∧ Fr F w w', ?_, ?_⟩
  · rintro w' ⟨G', h1, h2, h3, h4, h5⟩
    exact ⟨s.length - (j + 1), by omega, j + 1, by rw [w64_id (by omega) (by omega)]; push_cast; rfl, by omega, rfl, G', by rw [hnext]; exact h1, h2, h3, h4, h5⟩
  -- behind the row of the table
  refine ⟨fun a w' => ∃ dd, a = ⟨dd, 0, none⟩ ∧ WkE w F b dd t d r1 w', ?_, ?_⟩
  · rintro a w3 ⟨dd, rfl, G3, h3⟩
    -- behind the event
    let r2 : RS := { r1 with evs := if d.1 == 0 then r1.evs ++ [(r1.inp, 0)] else if d.1 != -1 then r1.evs ++ [([], d.1)] else r1.evs }
    refine ⟨fun w' => WkE w F b dd t d r2 w', ?_, ?_⟩
    · rintro w4 ⟨G4, h4⟩
      obtain ⟨i4, e4, hb4⟩ := h4.cell
      refine ⟨_, h4.blk.cell rfl, _, rfl, hb4.isS (by simp), hb4.free _, ?_⟩
      rintro w5 rfl
      have h5 := h4.set 1 (.int .i64 d.2.1) (h4.rep.setSt d.2.1)
      obtain ⟨i5, e5, A5, B5, hx5⟩ := h5.rep.x
      have hb5 := hx5.blk
      refine ⟨fun v w' => v = (d.2.2.1 && ((r1.inp.length : Int) == lim r1.most)) ∧ WkE w F b dd t d { r2 with st := d.2.1 } w', ?_, ?_⟩
      · rintro v w6 ⟨rfl, G6, h6⟩
        have stop : ∀ {r' : RS} {w' : World}, WkE w F b dd t d r' w' → r' = stp r1 c → ∃ G', Rep 45 67 w' b (stp r1 c) G' ∧ (∀ g, G' g → F g ∨ w.heap.size ≤ g) ∧ ¬ G' t ∧ MapAt w' t tk tv tab ∧ Fr F w w' := by
          rintro r' w' ⟨G', h'⟩ rfl; exact ⟨G', h'.rep, h'.sub, h'.nt, h'.tab, h'.fr⟩
        rw [← hstep] at stop ⊢
        obtain ⟨i6, e6, hb6⟩ := h6.cell
        refine ⟨fun hv => ?_, fun hv => ⟨_, h6.blk.cell rfl, fun hkp => ?_, fun hkp => ⟨_, h6.blk.cell rfl, fun hn => ?_, fun hn => ⟨_, h6.blk.cell rfl, fun hg => ?_, fun hg => ?_⟩⟩⟩⟩
        · refine ⟨_, rfl, hb6.isS (by simp), hb6.free _, ?_⟩
          rintro w7 rfl
          refine stop ⟨_, h6.set 1 (.int .i64 3) (h6.rep.setSt 3)⟩ ?_
          simp only [Bool.and_eq_true] at hv
          simp [tstp, hv.1, hv.2, r2]
        · rintro w7 rfl
          obtain ⟨i7, e7, A7, B7, hx⟩ := h6.drew.rep.x
          have hcc : (s.getD j 0).toNat = c.toNat := by rw [hc]
          refine ⟨_, rfl, i7, hx.blk.cell rfl, ⟨by omega, by omega⟩, ?_⟩
          rintro g w8 rfl rfl
          obtain ⟨s', w9, hr, ⟨x1, x2, hb9⟩, hf9, hR9⟩ := (hx.alloc (.cells (List.toArray [.int .u8 (c.toNat : Int)]) 5)).pushIn c (Blk.new _ _ _) (by have := ho1.i; have := lim_pos r1.most; simp only [r2]; omega)
          refine ⟨s', w9, hr, _, rfl, hb9.isS (by simp), hb9.free _, ?_⟩
          rintro w10 rfl
          refine stop ((h6.drew.alloc _).app hf9 hR9) ?_
          have hne : ((r1.inp.length : Int) == lim r1.most) = false := by simpa [hkp] using hv
          simp [tstp, hkp, hne, r2]
        · refine ⟨_, rfl, hb6.isS (by simp), hb6.free _, ?_⟩
          rintro w7 rfl
          refine stop ⟨_, h6.set 2 _ (h6.rep.clrIn)⟩ ?_
          simp [tstp, hkp, hn, r2]
        · refine ⟨_, rfl, _, hb6.cell rfl, add_spec (by exact ho1.k) (by omega) (by simp only [r2]; omega) ⟨_, rfl, _, rfl, hb6.isS (by simp), hb6.free _, ?_⟩⟩
          rintro w7 rfl
          refine stop ⟨_, h6.set 4 _ (h6.rep.setSkip _)⟩ ?_
          simp [tstp, hkp, hn, hg, r2]
        · refine stop ⟨_, h6⟩ ?_
          simp [tstp, hkp, hn, hg, r2]
      · rintro w6 rfl
        refine ⟨_, h5.drew.blk.cell rfl, fun hkp => ?_, fun hkp => ⟨by simp [hkp], _, h5.drew⟩⟩
        refine ⟨_, rfl, i5, hb5.drew.cell rfl, limit_spec (hb5.drew.cell rfl) ⟨Ext.refl _, _, rfl, ?_, _, h5.drew⟩⟩
        have : i5.len = r1.inp.length := hx5.ilen
        rw [hkp, this]; rfl
    · obtain ⟨i3, e3, A3, B3, hx3⟩ := h3.rep.x
      refine ⟨_, h3.blk.cell rfl, fun h0 => ?_, fun h0 => ⟨_, h3.blk.cell rfl, fun h1 => ?_, fun h1 => ?_⟩⟩
      · rintro w4 rfl
        have hx := hx3.drew
        refine ⟨_, rfl, e3, hx.blk.cell rfl, _, rfl, i3, hx.blk.cell rfl, r1.inp, hx.inp.bytes, ?_⟩
        rintro g w5 rfl rfl
        obtain ⟨s', w9, hr, ⟨x1, x2, hb9⟩, hf9, hR9⟩ := (hx.alloc (.cells (List.toArray [.string (mkS r1.inp), .int .i64 0]) 67)).pushEv (r1.inp, 0) (Blk.new _ _ _) (by omega)
        refine ⟨s', w9, hr, _, rfl, hb9.isS (by simp), hb9.free _, ?_⟩
        rintro w10 rfl
        have := (h3.drew.alloc (.cells (List.toArray [.string (mkS r1.inp), .int .i64 0]) 67)).app hf9 hR9
        simp only [r2, h0, if_true]; exact this
      · rintro w4 rfl
        have hx := hx3.drew
        refine ⟨_, rfl, e3, hx.blk.cell rfl, _, h3.drew.blk.cell rfl, ?_⟩
        rintro g w5 rfl rfl
        obtain ⟨s', w9, hr, ⟨x1, x2, hb9⟩, hf9, hR9⟩ := (hx.alloc (.cells (List.toArray [.string (mkS []), .int .i64 d.1]) 67)).pushEv ([], d.1) (Blk.new _ _ _) (by omega)
        refine ⟨s', w9, hr, _, rfl, hb9.isS (by simp), hb9.free _, ?_⟩
        rintro w10 rfl
        have := (h3.drew.alloc (.cells (List.toArray [.string (mkS []), .int .i64 d.1]) 67)).app hf9 hR9
        simp only [r2, h0, h1, if_true, Bool.false_eq_true, if_false]; exact this
      · simp only [r2, h0, h1, Bool.false_eq_true, if_false]; exact ⟨_, h3⟩
  · rintro w3 rfl
    have hR3 := hR.drew
    obtain ⟨i3, e3, hb3, _⟩ := hR3.blk
    refine ⟨_, rfl, _, hb3.cell rfl, ⟨by omega, by omega⟩, ?_, ?_⟩
    · refine class_spec c ⟨Ext.refl _, _, rfl, d.1, d.2.1, d.2.2.1, d.2.2.2, ?_, ?_⟩
      · have := run_lookup (P := Try.prog) (mt := 59) (vt := 62) (z := tv (0, 0, false, false)) tkeys (by kernel_rfl) (Zr.mk (by kernel_rfl)) (w := w2.drew) (r := t) (evv := tv) (hT.ext (Ext.drew _)) (r1.st, cl c)
        rw [hd] at this; exact this
      · rintro g w4 rfl rfl
        have hnew := Blk.new w2.drew [.int .i64 0, .int .i64 0, .bool false, .bool false] 62
        refine ⟨mayCells_of hnew 0 4 (by simp), ?_⟩
        rintro w5 rfl
        have hlt2 := hT.lt
        have hfa : Fr (fun g => g = w2.heap.size) w2.drew (setCells (w2.drew.alloc (.cells (List.toArray [.int .i64 0, .int .i64 0, .bool false, .bool false]) 62)) ⟨w2.heap.size, 0, none⟩ 0 [.int .i64 d.1, .int .i64 d.2.1, .bool d.2.2.1, .bool d.2.2.2]) :=
          ((Fr.refl _ _).alloc _).setAll hnew rfl (fun h => rfl)
        refine ⟨_, rfl, G, hR3.fr hfa (fun g hg e => by have := hR.lt hg; omega), hG, fun hg => by have := hR.lt hg; exact Nat.lt_irrefl _ this, hGt, hnew.setAll rfl, (hT.ext (Ext.drew _)).fr hfa (fun e => by omega), ?_⟩
        exact (hf.drew.trans hfa (fun g hlt e => by have := hf.size; omega))
    · rintro g w4 rfl rfl
      refine class_spec c ⟨Ext.refl _, _, rfl, d.1, d.2.1, d.2.2.1, d.2.2.2, ?_, ?_, ?_⟩
      · have := run_lookup (P := Try.prog) (mt := 59) (vt := 62) (z := tv (0, 0, false, false)) tkeys (by kernel_rfl) (Zr.mk (by kernel_rfl)) (w := w2.drew.alloc (.cells (List.toArray [.int .i64 0, .int .i64 0, .bool false, .bool false]) 62)) (r := t) (evv := tv) (hT.ext ((Ext.drew _).trans (Ext.alloc _ _))) (r1.st, cl c)
        rw [hd] at this; exact this
      · exact mayCells_of (Blk.new w2.drew [.int .i64 0, .int .i64 0, .bool false, .bool false] 62) 0 4 (by simp)
      · rintro w5 rfl
        have hnew := Blk.new w2.drew [.int .i64 0, .int .i64 0, .bool false, .bool false] 62
        have hlt2 := hT.lt
        have hfa : Fr (fun g => g = w2.heap.size) w2.drew (setCells (w2.drew.alloc (.cells (List.toArray [.int .i64 0, .int .i64 0, .bool false, .bool false]) 62)) ⟨w2.heap.size, 0, none⟩ 0 [.int .i64 d.1, .int .i64 d.2.1, .bool d.2.2.1, .bool d.2.2.2]) :=
          ((Fr.refl _ _).alloc _).setAll hnew rfl (fun h => rfl)
        refine ⟨_, rfl, G, hR3.fr hfa (fun g hg e => by have := hR.lt hg; omega), hG, fun hg => by have := hR.lt hg; exact Nat.lt_irrefl _ this, hGt, hnew.setAll rfl, (hT.ext (Ext.drew _)).fr hfa (fun e => by omega), ?_⟩
        exact (hf.drew.trans hfa (fun g hlt e => by have := hf.size; omega))
end Go.Proofs.Ytmgmffoillbfeaa
