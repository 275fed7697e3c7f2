/- Contents as long as may be, and longer. -/
import Derived.Test.YtmgmffoillbfeaaX8
set_option linter.unusedSimpArgs false
set_option linter.unusedVariables false
namespace Go.Proofs.Ytmgmffoillbfeaa
open Go.V Go.RowKit

theorem fd_over3 : ∀ (s : Str) (r : RS), r.st = 3 → 11 ∉ s → 28 ∉ s → fd r s = r
  | [], r, _, _, _ => rfl
  | c :: s, r, h, h1, h2 => by
    have hc : c ≠ 11 := fun e => h1 (by simp [e])
    have hc2 : c ≠ 28 := fun e => h2 (by simp [e])
    have e : stp r c = r := by simp [stp, h, hc, hc2]
    rw [fd_cons, e]; exact fd_over3 s r h (fun e => h1 (by simp [e])) (fun e => h2 (by simp [e]))
theorem fd_over : ∀ (s : Str) (r : RS), r.st = 1 → 11 ∉ s → 28 ∉ s → (r.inp.length : Int) ≤ lim r.most → lim r.most < (r.inp.length : Int) + s.length → ∃ i, fd r s = { r with st := 3, inp := i }
  | [], r, _, _, _, h1, h2 => by simp at h2; omega
  | c :: s, r, h, h1, h2, hl, ho => by
    have hc : c ≠ 11 := fun e => h1 (by simp [e])
    have hc2 : c ≠ 28 := fun e => h2 (by simp [e])
    have h1' : 11 ∉ s := fun e => h1 (by simp [e])
    have h2' : 28 ∉ s := fun e => h2 (by simp [e])
    simp only [List.length_cons] at ho
    by_cases he : (r.inp.length : Int) = lim r.most
    · have e : stp r c = { r with st := 3 } := by simp [stp, h, hc, hc2, he]
      exact ⟨r.inp, by rw [fd_cons, e, fd_over3 s _ rfl h1' h2']⟩
    · have e : stp r c = { r with inp := r.inp ++ [c] } := by simp [stp, h, hc, hc2, he]
      obtain ⟨i, hi⟩ := fd_over s { r with inp := r.inp ++ [c] } h h1' h2' (by simp; omega) (by simp; push_cast at ho; omega)
      exact ⟨i, by rw [fd_cons, e, hi]⟩
theorem wre_zero {b : Str} (he : wre b = 0) : 11 ∉ b ∧ 28 ∉ b ∧ b.length ≤ 32768 := by
  unfold wre at he
  split at he
  · simp at he
  · rename_i hn
    split at he
    · simp at he
    · rename_i hn2; simp only [not_or] at hn; exact ⟨hn.1, hn.2, by omega⟩
theorem wrp_zero {b : Str} (he : wre b = 0) : wrp b = 11 :: b ++ [28, 13] := by simp [wrp, he]
theorem lim_id {m : Int} (h1 : 1 ≤ m) (h2 : m ≤ 3000) : lim m = m := by unfold lim; rw [if_neg (by omega)]
def longEvs (most : Int) (n : Nat) (nx : Str) : List (Str × Int) := [if most < n then ([], 2) else (List.replicate n 120, 0), (nx, 0)]
theorem long_fd (most : Int) (h1 : 1 ≤ most) (h2 : most ≤ 3000) (n : Nat) (nx : Str) (he : wre nx = 0) (hl : (nx.length : Int) ≤ most) :
    (fd (rnew most) ((([11] ++ List.replicate n 120) ++ [28, 13]) ++ wrp nx)).evs = longEvs most n nx := by
  obtain ⟨a1, a2, _⟩ := wre_zero he
  have hlim := lim_id h1 h2
  have m1 : 11 ∉ List.replicate n (120 : UInt8) := by simp [List.mem_replicate]
  have m2 : 28 ∉ List.replicate n (120 : UInt8) := by simp [List.mem_replicate]
  rw [fd_app, wrp_zero he]
  have key : ∃ i, fd (rnew most) (([11] ++ List.replicate n 120) ++ [28, 13]) = { rnew most with inp := i, evs := [if most < n then ([], 2) else (List.replicate n 120, 0)] } := by
    by_cases hn : most < n
    · rw [if_pos hn]
      have e0 : stp (rnew most) 11 = { rnew most with st := 1, inp := [] } := by simp [stp, rnew]
      obtain ⟨i, hi⟩ := fd_over (List.replicate n 120) { rnew most with st := 1, inp := [] } rfl m1 m2 (by simp [rnew, hlim]; omega) (by simp [rnew, hlim]; omega)
      refine ⟨i, ?_⟩
      rw [List.append_assoc, List.singleton_append, fd_cons, e0, fd_app, hi]
      simp [fd, stp, rnew]
    · rw [if_neg hn]
      refine ⟨List.replicate n 120, ?_⟩
      have := fd_frame (List.replicate n 120) (rnew most) rfl m1 m2 (by simp [rnew, hlim]; omega)
      simpa [rnew] using this
  obtain ⟨i, hi⟩ := key
  rw [hi, fd_frame nx _ rfl a1 a2 (by simp only [rnew]; omega)]
  rfl
theorem run_make {w : World} {P : Program} {t e : TypeId} {z : Value} {sz by_ : Nat} (ht : P.underlying t = some (.slice e)) (hs : Sz P e sz) (hz : Zr P e z) (hb : Bts P e by_) (n c : Int) (h0 : 0 ≤ n) (hc : n ≤ c) (hbig : (by_ : Int) * c ≤ 281474976710656) (h63 : c ≤ 9223372036854775807) :
    (Instr.makeSlice t (.int .i64 n) (.int .i64 c)).run P w = .ok (.slice (some ⟨w.heap.size, 0, none⟩) n.toNat c.toNat) (w.alloc (.cells (madeCells z.cells (c.toNat * sz)) e)) := by
  unfold Sz at hs
  unfold Zr at hz
  unfold Bts at hb
  obtain ⟨i, hi, rfl⟩ := Option.map_eq_some_iff.1 hs
  obtain ⟨i2, hi2, hz2⟩ := Option.bind_eq_some_iff.1 hz
  obtain ⟨i3, hi3, rfl⟩ := Option.map_eq_some_iff.1 hb
  rw [hi] at hi2 hi3
  cases hi2; cases hi3
  exact Go.run_make w t e i z ht hi hz2 .i64 .i64 n c h0 hc hbig h63
set_option maxHeartbeats 1000000 in
theorem long_spec {w : World} {k : Value → World → Prop} (most n : Int) (nx : Str) (hn : nx.length ≤ 1000000000000000) (hk : ∀ w', Fr Non w w' → k (.bool true) w') : Cl Try.prog 5 [.int .i64 most, .int .i64 n, .string (mkS nx)] w k := by
  refine f5_ok ?_
  unfold f5
  refine ⟨fun v w' => w' = w ∧ (v = false → 1 ≤ most ∧ most ≤ 3000 ∧ 0 ≤ n ∧ n ≤ 4000 ∧ (nx.length : Int) ≤ most), ?_, fun _ => ⟨rfl, by simp⟩, fun a => ⟨fun _ => ⟨rfl, by simp⟩, fun b => ⟨fun _ => ⟨rfl, by simp⟩, fun c => ⟨fun _ => ⟨rfl, by simp⟩, fun d => ⟨rfl, fun e => ?_⟩⟩⟩⟩⟩
  case refine_2 =>
    have a := of_decide_eq_false a
    have b := of_decide_eq_false b
    have c := of_decide_eq_false c
    have d := of_decide_eq_false d
    have e := of_decide_eq_false e
    exact ⟨by omega, by omega, by omega, by omega, by omega⟩
  rintro v w' ⟨rfl, hv⟩
  refine ⟨fun _ => alive_spec fun w1 f1 => ⟨_, rfl, hk _ f1⟩, fun hf => ?_⟩
  obtain ⟨h1, h2, h3, h4, h5⟩ := hv hf
  refine wrap_spec nx fun w1 f1 => ⟨_, _, rfl, fun _ => alive_spec fun w2 f2 => ⟨_, rfl, hk _ (upN f1 f2 (fun g hg => hg.elim))⟩, fun he => ?_⟩
  have he : wre nx = 0 := by simpa using he
  have hw := wrp_zero he
  have hwl : (wrp nx).length = nx.length + 3 := by rw [hw]; simp
  refine new_spec most fun w2 x2 f2 => ⟨_, rfl, ?_⟩
  have g2 := upN f1 f2 (fun g hg => hg.elim)
  obtain ⟨q, rfl⟩ : ∃ q : Nat, n = q := ⟨n.toNat, by omega⟩
  have hmk := run_make (w := w2) (P := Try.prog) (t := 36) (e := 5) (z := .int .u8 0) (sz := 1) (by_ := 1) tU36 tS5 (Zr.mk (by kernel_rfl)) (Bts.mk (by kernel_rfl)) (q : Int) (q : Int) (by omega) (by omega) (by omega) (by omega)
  refine ⟨⟨some ⟨w2.heap.size, 0, none⟩, q, q⟩, _, hmk, ?_⟩
  have hcs : (madeCells (Value.int .u8 0).cells (((q : Int)).toNat * 1)).toList = List.replicate q (.int .u8 0) := by
    rw [show (Value.int .u8 0).cells = #[.int .u8 0] from rfl, toList_madeCells_one]; simp
  obtain ⟨w3, hw3⟩ : ∃ w3, w3 = w2.alloc (.cells (madeCells (Value.int .u8 0).cells (((q : Int)).toNat * 1)) 5) := ⟨_, rfl⟩
  rw [← hw3]
  have hce : madeCells (Value.int .u8 0).cells (((q : Int)).toNat * 1) = (List.replicate q (Value.int .u8 0)).toArray := by rw [← hcs]
  have hB3 : Blk w3 w2.heap.size 5 (List.replicate q (.int .u8 0)) := by rw [hw3, hce]; exact Blk.new w2 (List.replicate q (.int .u8 0)) 5
  have f3 : Fr Non w2 w3 := hw3 ▸ (Fr.refl Non w2).alloc _
  have g3 := upN g2 f3 (fun g hg => hg.elim)
  have x3 := x2.fr f3 (fun _ _ h => h)
  have z1 : w1.heap.size < w2.heap.size := x2.lt rfl
  refine ⟨fun m v w' => ∃ j : Nat, v = j ∧ j ≤ q ∧ m = q - j ∧ Fr (fun g => g = w2.heap.size) w3 w' ∧ ∃ cs, Blk w' w2.heap.size 5 cs ∧ cs.length = q ∧ ∀ i, i < j → cs[i]? = some (.int .u8 120),
    ⟨q, 0, rfl, by omega, by omega, Fr.refl _ _, _, hB3, by simp, fun i hi => by omega⟩, ?_⟩
  rintro m v w4 ⟨j, rfl, hj, rfl, f4, cs, hB4, hl4, hc4⟩
  refine ⟨fun h => ?_, fun h => ?_⟩
  · have h : (j : Int) < (q : Int) := of_decide_eq_true h
    refine ⟨_, rfl, ⟨by omega, h⟩, ?_⟩
    have ea : (⟨w2.heap.size, 0, none⟩ : Addr).add (((j : Int)).toNat * 1) = ⟨w2.heap.size, j, none⟩ := by rw [add_mk]; simp
    rw [ea]
    refine ⟨hB4.isS (by omega), hB4.free j, ?_⟩
    rintro w5 rfl
    refine ⟨q - (j + 1), by omega, j + 1, by rw [w64_id (by omega) (by omega)]; push_cast; rfl, by omega, rfl, f4.set (a := ⟨w2.heap.size, j, none⟩) (fun _ => rfl) _, _, hB4.set j _, by simp [hl4], fun i hi => ?_⟩
    by_cases hij : i = j
    · subst hij; rw [List.getElem?_set_self (by omega)]
    · rw [List.getElem?_set_ne (by omega)]; exact hc4 i (by omega)
  have h : ¬ (j : Int) < (q : Int) := of_decide_eq_false h
  obtain rfl : j = q := by omega
  have hcs4 : cs = bys (List.replicate j 120) := by
    apply List.ext_getElem?
    intro i
    by_cases hi : i < j
    · rw [hc4 i hi]; simp [bys, hi]
    · rw [List.getElem?_eq_none (by omega), List.getElem?_eq_none (by simp [bys]; omega)]
  rw [hcs4] at hB4
  have g4 : Fr Non w' w4 := upN g3 f4 (fun g hg => by have := g2.size; omega)
  have x4 := x3.fr f4 (fun g hg e => by omega)
  refine ⟨List.replicate j 120, hB4.bytes (by simp), by simp; omega, by simp; omega, by simp [hwl]; omega, ?_⟩
  refine feed_spec _ x4 (rnew_ok most) (by simp [hwl, rnew]; omega) fun w5 X5 x5 f5 hX5 => ?_
  have hev := long_fd most h1 h2 j nx he h5
  generalize hr5 : fd (rnew most) ((([11] ++ List.replicate j 120) ++ [28, 13]) ++ wrp nx) = r5 at x5 hev
  have hB5 := hB4.fr f5 (fun e => by omega)
  have z2 := f1.size
  have g5 : Fr Non w' w5 := upN g4 f5 (fun g hg => by omega)
  have u5 : ∀ g, X5 g → w'.heap.size ≤ g := fun g hg => by rcases hX5 g hg with h | h; · omega
                                                           · have := g4.size; omega
  refine ⟨List.replicate j 120, hB5.bytes (by simp), ?_⟩
  rintro b33 w6 rfl hw6
  have f6 : Fr Non w5 w6 := hw6 ▸ (Fr.refl Non w5).alloc _
  have hB6 : Blk w6 w5.heap.size 38 (evcs [(List.replicate j 120, 0), (nx, 0)]) := hw6 ▸ Blk.new w5 (evcs [(List.replicate j 120, 0), (nx, 0)]) 38
  have x6 := x5.fr f6 (fun _ _ h => h)
  have g6 := upN g5 f6 (fun g hg => hg.elim)
  have hX5lt : ∀ g, X5 g → g < w5.heap.size := fun g hg => x5.lt hg
  refine ⟨fun w7 => Blk w7 w5.heap.size 38 (evcs (longEvs most j nx)) ∧ Rep 45 67 w7 w1.heap.size r5 X5 ∧ Fr Non w' w7, ?_, ?_, ?_⟩
  · rintro w7 ⟨hB7, x7, g7⟩
    refine alive_spec fun w8 f8 => ⟨_, rfl, fun _ => ?_, fun h => by simp at h⟩
    have g8 := upN g7 f8 (fun g hg => hg.elim)
    refine drain_spec (x7.fr f8 (fun _ _ h => h)) (by rw [hev]; simp [longEvs]) fun l w9 G9 hl9 hG9 x9 f9 => ⟨l, rfl, ?_⟩
    have g9 := upN g8 f9 u5
    have hB9 := (hB7.fr f8 (fun h => h)).fr f9 (fun hx => by have := hX5lt _ hx; omega)
    have hwant : SlOk w9 38 2 ⟨some ⟨w5.heap.size, 0, none⟩, 2, 2⟩ (evcs (longEvs most j nx)) (fun g => g = w5.heap.size) := .inr ⟨_, rfl, by simp [longEvs, evcs, evc], Nat.le_refl _, 0, _, rfl, hB9, by simp [longEvs, evcs, evc], by simp [longEvs, evcs, evc]⟩
    refine same_spec (sa := l) (sb := ⟨some ⟨w5.heap.size, 0, none⟩, 2, 2⟩) (la := r5.evs) (lb := longEvs most j nx) hl9 hwant (by rw [hev]; simp [longEvs]) fun w10 f10 => ⟨_, rfl, ?_⟩
    rw [hev]
    simpa using hk _ (upN g9 f10 (fun g hg => hg.elim))
  · intro hm
    have hm := of_decide_eq_true hm
    refine ⟨_, rfl, ⟨by omega, by simp only; omega⟩, mayCells_of hB6 0 2 (by simp [evcs, evc]), ?_⟩
    rintro w7 rfl
    obtain ⟨hb7, f7⟩ := setCells_off [.string (mkS []), .int .i64 2] _ 0 0 w6 hB6 (by simp [evcs, evc])
    refine ⟨?_, x6.fr f7 (fun g hg e => by have := hX5lt g hg; omega), upN g6 f7 (fun g hg => by have := g5.size; omega)⟩
    have : longEvs most j nx = [([], 2), (nx, 0)] := by unfold longEvs; rw [if_pos hm]
    rw [this]
    simpa [evcs, evc, Go.V.add_zero] using hb7
  · intro hm
    have hm := of_decide_eq_false hm
    have : longEvs most j nx = [(List.replicate j 120, 0), (nx, 0)] := by unfold longEvs; rw [if_neg hm]
    rw [this]
    exact ⟨hB6, x6, g6⟩
end Go.Proofs.Ytmgmffoillbfeaa
