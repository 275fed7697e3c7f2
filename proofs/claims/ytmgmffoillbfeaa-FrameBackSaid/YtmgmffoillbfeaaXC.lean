/- What is wrapped is read as the content. -/
import Derived.Test.YtmgmffoillbfeaaXA
set_option linter.unusedSimpArgs false
set_option linter.unusedVariables false
namespace Go.Proofs.Ytmgmffoillbfeaa
open Go.V Go.RowKit

/-- The contents that are wrapped, of so many texts. -/
def wants (f : Nat → Str) : Nat → List (Str × Int)
  | 0 => []
  | j + 1 => if wre (f j) = 0 then wants f j ++ [(f j, 0)] else wants f j
def total (f : Nat → Str) : Nat → Nat
  | 0 => 0
  | j + 1 => total f j + (f j).length
theorem wants_len (f : Nat → Str) : ∀ j, (wants f j).length ≤ j
  | 0 => by simp [wants]
  | j + 1 => by have := wants_len f j; unfold wants; split <;> simp <;> omega
set_option maxHeartbeats 1000000 in
theorem back_spec {w : World} {k : Value → World → Prop} (l : Sl) (f : Nat → Str) (ahead : Str) (hl : Ar w l l.len (fun i => .string (mkS (f i)))) (hfl : ∀ i, (f i).length ≤ 1000000000000000) (hk : ∀ w', Fr Non w w' → k (.bool true) w') :
    Cl Try.prog 9 [.slice l.base l.len l.cap, .string (mkS ahead)] w k := by
  refine f9_ok ?_
  unfold f9
  refine ⟨fun v w' => w' = w ∧ (v = false → l.len ≤ 20 ∧ ahead.length ≤ 300), ?_, fun _ => ⟨rfl, by simp⟩, fun h => ⟨rfl, fun h2 => ?_⟩⟩
  case refine_2 =>
    have h := of_decide_eq_false h
    have h2 := of_decide_eq_false h2
    exact ⟨by omega, by omega⟩
  rintro v w' ⟨rfl, hv⟩
  refine ⟨fun _ => alive_spec fun w1 f1 => ⟨_, rfl, hk _ f1⟩, fun hf => ?_⟩
  obtain ⟨hl20, ha3⟩ := hv hf
  refine new_spec 0 fun w1 x1 f1 => ⟨_, rfl, ?_⟩
  obtain ⟨oka, ska, eva, ma⟩ := (rnew_ok 0).fd ahead
  have ma : (fd (rnew 0) ahead).most = 0 := ma.trans rfl
  have ska : (fd (rnew 0) ahead).skip ≤ ahead.length := by simpa [rnew] using ska
  have eva : (fd (rnew 0) ahead).evs.length ≤ ahead.length := by simpa [rnew] using eva
  refine feed_spec ahead x1 (rnew_ok 0) (by simp [rnew]; omega) fun w2 X2 x2 f2 hX2 => ?_
  have g2 : Fr Non w' w2 := upN f1 f2 (fun g hg => by omega)
  have u2 : ∀ g, X2 g → w'.heap.size ≤ g := fun g hg => by rcases hX2 g hg with h | h; · omega
                                                           · have := f1.size; omega
  refine drain_spec x2 (by omega) fun l1 w3 G3 hl3 hG3 x3 f3 => ⟨l1, rfl, ?_⟩
  have g3 : Fr Non w' w3 := upN g2 f3 u2
  -- behind the reset, if there was one: no frame is open, nothing is left to be told
  refine ⟨fun w4 => ∃ r X, Rep 45 67 w4 w'.heap.size r X ∧ Ok r ∧ r.st = 0 ∧ r.evs = [] ∧ r.most = 0 ∧ r.skip ≤ 300 ∧ (∀ g, X g → w'.heap.size ≤ g) ∧ Fr Non w' w4, ?_, ?_⟩
  · rintro w4 ⟨r, X, x4, ok4, st4, ev4, mo4, sk4, u4, g4⟩
    let Inv : Nat → Sl → Int → World → Prop := fun j s n w5 => n = (total f j : Nat) ∧ total f j ≤ 100000 ∧ ∃ r' X G, Rep 45 67 w5 w'.heap.size r' X ∧ Ok r' ∧ r'.st = 0 ∧ r'.evs = wants f j ∧ r'.most = 0 ∧ r'.skip ≤ 300 ∧ (∀ g, X g → w'.heap.size ≤ g) ∧
      SlOk w5 38 2 s (evcs (wants f j)) G ∧ (∀ g, G g → w'.heap.size ≤ g ∧ g < w5.heap.size ∧ ¬ X g) ∧ Fr Non w' w5
    refine ⟨fun m s n i w5 => ∃ j : Nat, i = j ∧ j ≤ l.len ∧ m = l.len - j ∧ Inv j s n w5, ⟨l.len, 0, rfl, by omega, by omega, rfl, by simp [total], r, X, Non, x4, ok4, st4, ev4, mo4, sk4, u4, SlOk.nil _ _ _ _, fun _ h => h.elim, g4⟩, ?_⟩
    rintro m s n i w5 ⟨j, rfl, hj, rfl, hn, htot, r5, X5, G5, x5, ok5, st5, ev5, mo5, sk5, u5, hs5, hG5, g5⟩
    refine ⟨fun h => ?_, fun h => ?_⟩
    · have hjl : j < l.len := by have := of_decide_eq_true h; omega
      -- behind one text
      refine ⟨fun s' n' w6 => Inv (j + 1) s' n' w6, ?_, ?_⟩
      · rintro s' n' w6 hI
        exact ⟨l.len - (j + 1), by omega, j + 1, by rw [w64_id (by omega) (by omega)]; push_cast; rfl, by omega, rfl, hI⟩
      have hrd : ∀ {w6 : World}, Fr Non w' w6 → ∃ a, l.base = some a ∧ w6.cell? (a.add (((j : Int)).toNat * 1)) = some (.string (mkS (f j))) := fun hf6 => by
        obtain ⟨a, h1, h2⟩ := hl.fr hf6 j hjl
        exact ⟨a, h1, by simpa using h2⟩
      obtain ⟨a, ha, hc⟩ := hrd g5
      refine ⟨a, ha, ⟨by omega, by omega⟩, f j, hc, ?_⟩
      refine wrap_spec (f j) fun w6 f6 => ⟨_, _, rfl, ?_⟩
      have g6 := upN g5 f6 (fun g hg => hg.elim)
      obtain ⟨a, ha, hc⟩ := hrd g6
      have hfj := hfl j
      have hnw : IntKind.i64.wrap (n + ((f j).length : Int)) = ((total f (j + 1) : Nat) : Int) := by
        rw [hn, w64_id (by omega) (by omega)]; simp [total]
      refine ⟨a, ha, ⟨by omega, by omega⟩, f j, hc, fun _ => alive_spec fun w7 f7 => ⟨_, rfl, hk _ (upN g6 f7 (fun g hg => hg.elim))⟩, fun hsm => ?_⟩
      rw [hnw] at hsm ⊢
      have hsm := of_decide_eq_false hsm
      have x6 := x5.fr f6 (fun _ _ h => h)
      have hs6 := hs5.fr f6 (fun _ _ h => h)
      have hG6 : ∀ g, G5 g → w'.heap.size ≤ g ∧ g < w6.heap.size ∧ ¬ X5 g := fun g hg => ⟨(hG5 g hg).1, Nat.lt_of_lt_of_le (hG5 g hg).2.1 f6.size, (hG5 g hg).2.2⟩
      refine ⟨fun he => ?_, fun he => ?_⟩
      · have he : ¬ wre (f j) = 0 := by simpa using he
        have hw : wants f (j + 1) = wants f j := by simp [wants, he]
        exact ⟨rfl, by omega, r5, X5, G5, x6, ok5, st5, by rw [hw]; exact ev5, mo5, sk5, u5, by rw [hw]; exact hs6, hG6, g6⟩
      · have he : wre (f j) = 0 := by simpa using he
        obtain ⟨b1, b2, b3⟩ := wre_zero he
        have hwp := wrp_zero he
        have hw : wants f (j + 1) = wants f j ++ [(f j, 0)] := by simp [wants, he]
        have hwl : (wrp (f j)).length = (f j).length + 3 := by rw [hwp]; simp
        have hwn := wants_len f j
        refine feed_spec (wrp (f j)) x6 ok5 (by rw [ev5, hwl]; omega) fun w7 X7 x7 f7 hX7 => ?_
        have efd : fd r5 (wrp (f j)) = { r5 with inp := f j, evs := r5.evs ++ [(f j, 0)] } := by
          rw [hwp, fd_frame (f j) r5 st5 b1 b2 (by rw [mo5]; simp [lim]; omega)]
        rw [efd] at x7
        have g7 : Fr Non w' w7 := upN g6 f7 u5
        have u7 : ∀ g, X7 g → w'.heap.size ≤ g := fun g hg => by rcases hX7 g hg with h | h; · exact u5 g h
                                                                 · have := g6.size; omega
        have hs7 := hs6.fr f7 (fun g hg => (hG6 g hg).2.2)
        have hG7 : ∀ g, G5 g → w'.heap.size ≤ g ∧ g < w7.heap.size ∧ ¬ X7 g := fun g hg => ⟨(hG6 g hg).1, Nat.lt_of_lt_of_le (hG6 g hg).2.1 f7.size, fun hx => by
          rcases hX7 g hx with h | h
          · exact (hG6 g hg).2.2 h
          · have := (hG6 g hg).2.1; omega⟩
        obtain ⟨a, ha, hc⟩ := hrd g7
        refine ⟨a, ha, ⟨by omega, by omega⟩, f j, hc, ?_⟩
        rintro b53 w8 rfl hw8
        have f8 : Fr Non w7 w8 := hw8 ▸ (Fr.refl Non w7).alloc _
        have z8 : w8.heap.size = w7.heap.size + 1 := by rw [hw8]; simp
        have hB8 : Blk w8 w7.heap.size 38 (evc (f j, 0)) := hw8 ▸ Blk.new w7 (evc (f j, 0)) 38
        have hs8 := hs7.fr f8 (fun _ _ h => h)
        have x8 := x7.fr f8 (fun _ _ h => h)
        have hsl : s.len = (wants f j).length := hs8.elen
        obtain ⟨s9, w9, hr, hs9, hlen, f9⟩ := append_own (P := Try.prog) (t := 33) (e := 38) (sz := 2) (by_ := 24) (by kernel_rfl) (Sz.mk (by kernel_rfl)) (z := .agg (List.toArray [.string (mkS []), .int .i64 0])) (Zr.mk (by kernel_rfl)) (Bts.mk (by kernel_rfl)) rfl (by decide) hs8 (news := evc (f j, 0)) (a := some ⟨w7.heap.size, 0, none⟩) (m := 1) (c := 1) rfl
          (.inr ⟨_, rfl, fun q u hu => by rw [add_mk, Nat.zero_add]; exact hB8.cell hu⟩) (by simp [evc, Value.oneCell']) (by omega) (by omega) 33
        refine ⟨s9, w9, hr, rfl, by omega, _, X7, (fun g => (G5 g ∨ g = w8.heap.size) ∧ g < w9.heap.size), x8.fr f9 (fun g hX hg => (hG7 g hg).2.2 hX), ?_, ?_, ?_, ?_, ?_, u7, ?_, ?_, ?_⟩
        · exact ⟨ok5.s0, ok5.s1, by rw [mo5]; simp [lim]; omega, ok5.k⟩
        · exact st5
        · rw [hw, ← ev5]
        · exact mo5
        · exact sk5
        · rw [hw, evcs_app]; simpa [evcs] using SlOk.restrict hs9
        · rintro g ⟨hg | hg, hlt9⟩
          · exact ⟨(hG7 g hg).1, hlt9, (hG7 g hg).2.2⟩
          · refine ⟨by have := g7.size; omega, hlt9, fun hx => ?_⟩
            have := x7.lt hx; omega
        · exact (g7.trans f8 (fun _ _ h => h.elim)).trans f9 (fun g hlt hg => by have := (hG7 g hg).1; omega)
    · obtain rfl : j = l.len := by have := of_decide_eq_false h; omega
      refine alive_spec fun w6 f6 => ⟨_, rfl, fun _ => ?_, fun h => by simp at h⟩
      have g6 := upN g5 f6 (fun g hg => hg.elim)
      have x6 := x5.fr f6 (fun _ _ h => h)
      have hs6 := hs5.fr f6 (fun _ _ h => h)
      have hwn := wants_len f l.len
      refine drain_spec x6 (by rw [ev5]; omega) fun l2 w7 G7 hl7 hG7 x7 f7 => ⟨l2, rfl, ?_⟩
      have hs7 := hs6.fr f7 (fun g hg => (hG5 g hg).2.2)
      have g7 := upN g6 f7 u5
      refine same_spec (sa := l2) (sb := s) hl7 hs7 (by rw [ev5]; omega) fun w8 f8 => ⟨_, rfl, fun _ => ?_, fun h => by rw [ev5] at h; simp at h⟩
      have x8 := x7.fr f8 (fun _ _ h => h)
      have g8 := upN g7 f8 (fun g hg => hg.elim)
      refine inside_spec x8 ⟨_, rfl, ?_⟩
      simp only [st5]
      exact hk _ g8
  · refine inside_spec x3 ⟨_, rfl, fun hin => ?_, fun hin => ?_⟩
    · have oka' : Ok { fd (rnew 0) ahead with evs := [] } := ⟨oka.s0, oka.s1, oka.i, oka.k⟩
      refine reset_spec x3 oka' fun w4 X4 x4 f4 hX4 => ?_
      have g4 : Fr Non w' w4 := upN g3 f4 u2
      have u4 : ∀ g, X4 g → w'.heap.size ≤ g := fun g hg => by rcases hX4 g hg with h | h; · exact u2 g h
                                                               · have := g3.size; omega
      obtain ⟨el, _⟩ := rst_evs oka'
      refine drain_spec x4 (by rw [el]; split <;> omega) fun l2 w5 G5 hl5 hG5 x5 f5 => ⟨l2, rfl, ?_⟩
      have g5 : Fr Non w' w5 := upN g4 f5 u4
      refine ⟨_, X4, x5, ⟨by simp [rst], by simp [rst], by have := lim_pos (fd (rnew 0) ahead).most; simp [rst]; omega, oka.k⟩, by simp [rst], rfl, by simp only [rst]; exact ma, by simp [rst]; omega, u4, g5⟩
    · have hst : (fd (rnew 0) ahead).st = 0 := by simpa using hin
      exact ⟨_, X2, x3, ⟨oka.s0, oka.s1, oka.i, oka.k⟩, hst, rfl, ma, by simp only; omega, u2, g3⟩
end Go.Proofs.Ytmgmffoillbfeaa
