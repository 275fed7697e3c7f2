/- All events of a reader; two lists of events; resets. -/
import Derived.Test.YtmgmffoillbfeaaX7
set_option linter.unusedSimpArgs false
set_option linter.unusedVariables false
namespace Go.Proofs.Ytmgmffoillbfeaa
open Go.V Go.RowKit

theorem evcs_at : ∀ (l : List (Str × Int)) (j : Nat) (x : Str × Int), l[j]? = some x → ∀ q v, (evc x)[q]? = some v → (evcs l)[j * 2 + q]? = some v
  | [], j, x, h, _, _, _ => by simp at h
  | y :: l, 0, x, h, q, v, hq => by
    simp at h; subst h
    have hlt := (List.getElem?_eq_some_iff.1 hq).1
    rw [show evcs (y :: l) = evc y ++ evcs l from rfl, Nat.zero_mul, Nat.zero_add, List.getElem?_append_left hlt]; exact hq
  | y :: l, j + 1, x, h, q, v, hq => by
    have ih := evcs_at l j x (by simpa using h) q v hq
    rw [show evcs (y :: l) = evc y ++ evcs l from rfl, List.getElem?_append_right (by simp [evc]; omega)]
    rw [show (j + 1) * 2 + q - (evc y).length = j * 2 + q from by simp [evc]; omega]; exact ih
theorem _root_.Go.V.SlOk.ev {w : World} {T : TypeId} {s : Sl} {l : List (Str × Int)} {F : Nat → Prop} (h : SlOk w T 2 s (evcs l) F) {j : Nat} {x : Str × Int} (hj : l[j]? = some x) : ∃ a, s.base = some a ∧ cellsAt w (a.add (j * 2)) 0 (evc x) := by
  refine h.ats (m := 2) (evc x) (fun q v hq => evcs_at l j x hj q v hq) ?_
  have := (List.getElem?_eq_some_iff.1 hj).1
  rw [evcs_len]; omega
section
variable {w : World} {k : Value → World → Prop} {b : Nat} {r : RS} {F : Nat → Prop}
theorem _root_.Go.V.SlOk.elen {w : World} {T : TypeId} {s : Sl} {l : List (Str × Int)} {F : Nat → Prop} (h : SlOk w T 2 s (evcs l) F) : s.len = l.length := by have := h.len; rw [evcs_len] at this; omega
theorem drain_spec (h : Rep 45 67 w b r F) (hn : r.evs.length < 20000)
    (hk : ∀ l w' G, SlOk w' 38 2 l (evcs r.evs) G → (∀ g, G g → w.heap.size ≤ g) → Rep 45 67 w' b { r with evs := [] } F → Fr F w w' → k (.slice (Sl.base l) l.len l.cap) w') : Cl Try.prog 17 [.pointer (some ⟨b, 0, none⟩)] w k := by
  refine f17_ok ?_
  unfold f17
  refine ⟨fun l w' => ∃ G, SlOk w' 38 2 l (evcs r.evs) G ∧ (∀ g, G g → w.heap.size ≤ g) ∧ Rep 45 67 w' b { r with evs := [] } F ∧ Fr F w w', fun l w4 ⟨G, h1, h2, h3, h4⟩ => hk l w4 G h1 h2 h3 h4, ?_⟩
  have hlt : ∀ g, F g → g < w.heap.size := fun g hg => h.lt hg
  refine ⟨fun m l v w' => ∃ j : Nat, v = j ∧ j ≤ r.evs.length ∧ m = r.evs.length + 1 - j ∧ ∃ G, SlOk w' 38 2 l (evcs (r.evs.take j)) G ∧ (∀ g, G g → w.heap.size ≤ g ∧ g < w'.heap.size) ∧ Rep 45 67 w' b { r with evs := r.evs.drop j } F ∧ Fr F w w',
    ⟨r.evs.length + 1, 0, rfl, by omega, by omega, Non, SlOk.nil _ _ _ _, fun _ h => h.elim, by simpa using h, Fr.refl _ _⟩, ?_⟩
  rintro m l v w1 ⟨j, rfl, hj, rfl, G, hl, hG, hR, hf⟩
  refine ⟨fun _ => ?_, fun h => by have := of_decide_eq_false h; omega⟩
  refine next_spec hR fun w2 hR2 hf2 => ?_
  have hG2 : ∀ g, G g → ¬ F g := fun g hg hF => by have := (hG g hg).1; have := hlt g hF; omega
  have hl2 := hl.fr hf2 hG2
  have hf' : Fr F w w2 := hf.trans' hf2
  cases hd : r.evs.drop j with
  | nil =>
    have hj2 : j = r.evs.length := by have := congrArg List.length hd; simp at this; omega
    simp only [hd] at hR2
    refine ⟨[], 0, false, rfl, fun _ => ?_, fun h => by simp at h⟩
    rw [hj2, List.take_length] at hl2
    exact ⟨G, hl2, fun g hg => (hG g hg).1, hR2, hf'⟩
  | cons x t =>
    have hjl : j < r.evs.length := by
      by_cases hh : j < r.evs.length
      · exact hh
      · rw [List.drop_eq_nil_of_le (by omega)] at hd; cases hd
    have hx : r.evs[j]? = some x := by
      have : (r.evs.drop j)[0]? = some x := by rw [hd]; rfl
      simpa using this
    have ht : r.evs.drop (j + 1) = t := by rw [← List.tail_drop, hd]; rfl
    simp only [hd, List.tail_cons] at hR2
    refine ⟨x.1, x.2, true, rfl, fun h => by simp at h, fun _ => ?_⟩
    rintro b16 w3 rfl hw3
    have g3 : Fr Non w2 w3 := hw3 ▸ (Fr.refl Non w2).alloc _
    have hb3 : Blk w3 w2.heap.size 38 (evc x) := hw3 ▸ Blk.new w2 (evc x) 38
    have z3 : w3.heap.size = w2.heap.size + 1 := by rw [hw3]; simp
    have hl3 := hl2.fr g3 (fun _ _ h => h)
    have hll : l.len = j := by have := hl3.elen; rw [this]; simp; omega
    obtain ⟨s, w4, hr, hs, hlen, hf4⟩ := append_own (P := Try.prog) (t := 33) (e := 38) (sz := 2) (by_ := 24) (by kernel_rfl) (Sz.mk (by kernel_rfl)) (z := .agg (List.toArray [.string (mkS []), .int .i64 0])) (Zr.mk (by kernel_rfl)) (Bts.mk (by kernel_rfl)) rfl (by decide) hl3 (news := evc x) (a := some ⟨w2.heap.size, 0, none⟩) (m := 1) (c := 1) rfl
      (.inr ⟨_, rfl, fun q u hu => by rw [add_mk, Nat.zero_add]; exact hb3.cell hu⟩) (by simp [evc, Value.oneCell']) (by omega) (by omega) 33
    refine ⟨s, w4, hr, r.evs.length + 1 - (j + 1), by omega, j + 1, by rw [w64_id (by omega) (by omega)]; push_cast; rfl, by omega, rfl, (fun g => (G g ∨ g = w3.heap.size) ∧ g < w4.heap.size), ?_, ?_, ?_, ?_⟩
    · rw [List.take_succ_eq_append_getElem hjl, evcs_app]
      have : r.evs[j] = x := by have := List.getElem?_eq_getElem hjl; rw [this] at hx; exact Option.some.inj hx
      rw [this]; simpa [evcs] using SlOk.restrict hs
    · rintro g ⟨hg | hg, hlt4⟩
      · exact ⟨(hG g hg).1, hlt4⟩
      · exact ⟨by have := hf'.size; omega, hlt4⟩
    · rw [ht]
      exact (hR2.fr g3 (fun _ _ h => h)).fr hf4 (fun g hF hG' => hG2 g hG' hF)
    · exact (hf'.trans g3 (fun _ _ h => h.elim)).trans hf4 (fun g hlt' hg => absurd (hG g hg).1 (by omega))
theorem same_spec {la lb : List (Str × Int)} {sa sb : Sl} {Fa Fb : Nat → Prop} (ha : SlOk w 38 2 sa (evcs la) Fa) (hb : SlOk w 38 2 sb (evcs lb) Fb) (hn : la.length < 1000000000) (hk : ∀ w', Fr Non w w' → k (.bool (decide (la = lb))) w') :
    Cl Try.prog 16 [.slice sa.base sa.len sa.cap, .slice sb.base sb.len sb.cap] w k := by
  refine f16_ok ?_
  unfold f16
  have za := ha.elen
  have zb := hb.elen
  refine ⟨fun h => ?_, fun h => ?_⟩
  · have : la ≠ lb := fun e => by simp [za, zb, e] at h
    have := hk w (Fr.refl _ _)
    rwa [decide_eq_false ‹la ≠ lb›] at this
  have hl : la.length = lb.length := by simp at h; omega
  refine ⟨fun m i w7 => ∃ j : Nat, i = j ∧ j ≤ la.length ∧ m = la.length - j ∧ la.take j = lb.take j ∧ Fr Non w w7, ⟨la.length, 0, rfl, by omega, by omega, by simp, Fr.refl _ _⟩, ?_⟩
  rintro m i w7 ⟨j, rfl, hj, rfl, heq, hf⟩
  refine ⟨fun h => ?_, fun h => ?_⟩
  · have hjl : j < la.length := by have := of_decide_eq_true h; omega
    rintro w8 rfl
    have hf8 := hf.drew
    obtain ⟨x, hx⟩ : ∃ x, la[j]? = some x := ⟨_, List.getElem?_eq_getElem hjl⟩
    obtain ⟨y, hy⟩ : ∃ y, lb[j]? = some y := ⟨_, List.getElem?_eq_getElem (by omega)⟩
    obtain ⟨a, haB, haC⟩ := (ha.fr hf8 (fun _ _ h => h)).ev hx
    obtain ⟨c, hbB, hbC⟩ := (hb.fr hf8 (fun _ _ h => h)).ev hy
    refine ⟨a, haB, ⟨by omega, by omega⟩, x.1, x.2, haC, c, hbB, ⟨by omega, by omega⟩, y.1, y.2, hbC, fun h => ?_, fun h => ?_⟩
    · have hne : la ≠ lb := by
        intro e; rw [e, hy] at hx; cases hx
        simp at h
      have := hk _ hf8
      rwa [decide_eq_false hne] at this
    · have hxy : x = y := by simp at h; exact Prod.ext h.1 h.2
      have e1 : la[j] = x := by have := List.getElem?_eq_getElem hjl; rw [this] at hx; exact Option.some.inj hx
      have e2 : lb[j]'(by omega) = y := by have := List.getElem?_eq_getElem (l := lb) (i := j) (by omega); rw [this] at hy; exact Option.some.inj hy
      refine ⟨la.length - (j + 1), by omega, j + 1, by rw [w64_id (by omega) (by omega)]; push_cast; rfl, by omega, rfl, ?_, hf8⟩
      rw [List.take_succ_eq_append_getElem hjl, List.take_succ_eq_append_getElem (by omega), heq, e1, e2, hxy]
  · obtain rfl : j = la.length := by have := of_decide_eq_false h; omega
    have hab : la = lb := by rw [List.take_length] at heq; rw [heq, hl, List.take_length]
    have := hk w7 hf
    rwa [decide_eq_true hab] at this
end
theorem stp_skip (r : RS) (c : UInt8) (s : Int) : ∃ s', stp { r with skip := s } c = { stp r c with skip := s' } := by
  unfold stp
  simp only
  (repeat' split) <;> exact ⟨_, rfl⟩
theorem fd_skipfree : ∀ (b : Str) (r : RS) (s : Int), ∃ s', fd { r with skip := s } b = { fd r b with skip := s' }
  | [], r, s => ⟨s, rfl⟩
  | c :: b, r, s => by
    obtain ⟨s1, h1⟩ := stp_skip r c s
    obtain ⟨s2, h2⟩ := fd_skipfree b (stp r c) s1
    exact ⟨s2, by rw [fd_cons, fd_cons, h1, h2]⟩
theorem dj {F1 F2 F1' : Nat → Prop} {w : World} (h : ∀ g, F1' g → F1 g ∨ w.heap.size ≤ g) (hd : ∀ g, F2 g → ¬ F1 g) (hl : ∀ g, F2 g → g < w.heap.size) : ∀ g, F2 g → ¬ F1' g := fun g hg h1 => by
  rcases h g h1 with h1 | h1
  · exact hd g hg h1
  · have := hl g hg; omega
theorem rst_evs {r : RS} (h : Ok r) : ((rst r).evs.length = if r.st = 0 then 0 else 1) ∧ (r.st ≠ 0 → ∃ n, (rst r).evs = [([], n)] ∧ (n = 1 ∨ n = 2)) := by
  have h0 := h.s0
  have h1 := h.s1
  have hs : r.st = 0 ∨ r.st = 1 ∨ r.st = 2 ∨ r.st = 3 ∨ r.st = 4 := by omega
  rcases hs with h | h | h | h | h <;> simp [rst, h]
set_option maxHeartbeats 1000000 in
theorem resets_spec {w : World} {k : Value → World → Prop} (a b : Str) (most : Int) (ha : a.length ≤ 1000000000000000) (hb : b.length ≤ 1000000000000000) (hk : ∀ w', Fr Non w w' → k (.bool true) w') : Cl Try.prog 8 [.string (mkS a), .string (mkS b), .int .i64 most] w k := by
  refine f8_ok ?_
  unfold f8
  rw [w64_id (by omega) (by omega)]
  refine ⟨fun _ => alive_spec fun w1 f1 => ⟨_, rfl, hk _ f1⟩, fun hlen => ?_⟩
  have hlen := of_decide_eq_false hlen
  refine new_spec most fun w1 x1 f1 => ⟨_, rfl, ?_⟩
  refine new_spec most fun w2 y2 f2 => ⟨_, rfl, ?_⟩
  have g2 : Fr Non w w2 := upN f1 f2 (fun g hg => hg.elim)
  have x2 := x1.fr f2 (fun _ _ h => h)
  have z1 : w.heap.size < w1.heap.size := x1.lt rfl
  refine feed_spec a x2 (rnew_ok most) (by simp [rnew]; omega) fun w3 X3 x3 f3 hX3 => ?_
  obtain ⟨ok3, sk3, ev3, m3⟩ := (rnew_ok most).fd a
  have sk3 : (fd (rnew most) a).skip ≤ a.length := by simpa [rnew] using sk3
  have ev3 : (fd (rnew most) a).evs.length ≤ a.length := by simpa [rnew] using ev3
  have y3 := y2.fr f3 (fun g hg e => by omega)
  have g3 : Fr Non w w3 := upN g2 f3 (fun g hg => by omega)
  have d3 : ∀ g, g = w1.heap.size → ¬ X3 g := dj hX3 (fun g hg e => by omega) (fun g hg => y2.lt hg)
  have u3 : ∀ g, X3 g → w.heap.size ≤ g := fun g hg => by rcases hX3 g hg with h | h; · omega
                                                          · have := g2.size; omega
  refine inside_spec x3 ⟨_, rfl, ?_⟩
  refine reset_spec x3 ok3 fun w4 X4 x4 f4 hX4 => ?_
  have y4 := y3.fr f4 (fun g hg => d3 g hg)
  have g4 : Fr Non w w4 := upN g3 f4 u3
  have d4 : ∀ g, g = w1.heap.size → ¬ X4 g := dj hX4 d3 (fun g hg => y3.lt hg)
  have u4 : ∀ g, X4 g → w.heap.size ≤ g := fun g hg => by rcases hX4 g hg with h | h; · exact u3 g h
                                                          · have := g3.size; omega
  obtain ⟨el, ek⟩ := rst_evs ok3
  refine drain_spec x4 (by rw [el]; split <;> omega) fun l w5 G5 hl5 hG5 x5 f5 => ⟨l, rfl, ?_⟩
  have y5 := y4.fr f5 (fun g hg => d4 g hg)
  have g5 : Fr Non w w5 := upN g4 f5 u4
  refine ⟨fun v w' => v = false ∧ w' = w5, ?_, ?_⟩
  · rintro v w6 ⟨rfl, rfl⟩
    refine ⟨fun h => by simp at h, fun _ => ?_⟩
    have okx : Ok { rst (fd (rnew most) a) with evs := [] } := ⟨by simp [rst], by simp [rst], by have := lim_pos most; simp [rst]; have := lim_pos (fd (rnew most) a).most; omega, ok3.k⟩
    refine feed_spec b x5 okx (by simp [rst]; omega) fun w7 X7 x7 f7 hX7 => ?_
    have y7 := y5.fr f7 (fun g hg => d4 g hg)
    have g7 : Fr Non w w7 := upN g5 f7 u4
    have d7 : ∀ g, g = w1.heap.size → ¬ X7 g := dj hX7 d4 (fun g hg => y5.lt hg)
    have u7 : ∀ g, X7 g → w.heap.size ≤ g := fun g hg => by rcases hX7 g hg with h | h; · exact u4 g h
                                                            · have := g5.size; omega
    obtain ⟨oky, sky, evy, my⟩ := (rnew_ok most).fd b
    have evy : (fd (rnew most) b).evs.length ≤ b.length := by simpa [rnew] using evy
    obtain ⟨s', hs'⟩ := fd_skipfree b (rnew most) (fd (rnew most) a).skip
    have ex : fd { rst (fd (rnew most) a) with evs := [] } b = { fd (rnew most) b with skip := s' } := by
      have e0 : ({ rst (fd (rnew most) a) with evs := [] } : RS) = { rnew most with skip := (fd (rnew most) a).skip } := by simp only [rst]; rw [m3]; rfl
      rw [e0]; exact hs'
    rw [ex] at x7
    refine feed_spec b y7 (rnew_ok most) (by simp [rnew]; omega) fun w8 Y8 y8 f8 hY8 => ?_
    have x8 := x7.fr f8 (fun g hg e => d7 g e hg)
    have g8 : Fr Non w w8 := upN g7 f8 (fun g hg => by omega)
    have d8 : ∀ g, X7 g → ¬ Y8 g := dj hY8 (fun g hg e => d7 g e hg) (fun g hg => x7.lt hg)
    have u8 : ∀ g, Y8 g → w.heap.size ≤ g := fun g hg => by rcases hY8 g hg with h | h; · omega
                                                            · have := g7.size; omega
    refine alive_spec fun w9 f9 => ⟨_, rfl, fun _ => ?_, fun h => by simp at h⟩
    have x9 := x8.fr f9 (fun _ _ h => h)
    have y9 := y8.fr f9 (fun _ _ h => h)
    have g9 := upN g8 f9 (fun g hg => hg.elim)
    refine drain_spec x9 (by simp; omega) fun l1 w10 G10 hl10 hG10 x10 f10 => ⟨l1, rfl, ?_⟩
    have y10 := y9.fr f10 (fun g hg e => d8 g e hg)
    have g10 : Fr Non w w10 := upN g9 f10 u7
    refine drain_spec y10 (by omega) fun l2 w11 G11 hl11 hG11 y11 f11 => ⟨l2, rfl, ?_⟩
    have g11 : Fr Non w w11 := upN g10 f11 u8
    have x11 := x10.fr f11 (fun g hg e => d8 g hg e)
    have hl10' := hl10.fr f11 (fun g hg e => by have h1 := hG10 g hg; have h2 := y9.lt e; omega)
    refine same_spec hl10' hl11 (by simp; omega) fun w12 f12 => ⟨_, rfl, fun _ => ?_, fun h => by simp at h⟩
    have x12 := x11.fr f12 (fun _ _ h => h)
    have y12 := y11.fr f12 (fun _ _ h => h)
    have g12 := upN g11 f12 (fun g hg => hg.elim)
    refine inside_spec x12 ⟨_, rfl, inside_spec y12 ⟨_, rfl, ?_⟩⟩
    simpa using hk _ g12
  · have hlen5 : l.len = (rst (fd (rnew most) a)).evs.length := hl5.elen
    rw [el] at hlen5
    refine inside_spec x5 ⟨_, rfl, fun h => by simp [rst] at h, fun _ => ?_⟩
    by_cases h0 : (fd (rnew most) a).st = 0
    · rw [if_pos h0] at hlen5
      simp only [h0, hlen5]
      refine ⟨fun h => by simp at h, fun _ => ⟨fun _ => ⟨fun h => by simp at h, fun _ => ⟨fun h => by simp at h, fun _ => by simp⟩⟩, fun h => by simp at h⟩⟩
    · rw [if_neg h0] at hlen5
      obtain ⟨n, hn, hn2⟩ := ek h0
      have hb0 : ((fd (rnew most) a).st != 0) = true := by simpa using h0
      rw [hn] at hl5
      obtain ⟨a0, haB, haC⟩ := hl5.ev (j := 0) (x := ([], n)) rfl
      have hc : w5.cell? ((a0.add ((0 : Int).toNat * 2)).add 1) = some (.int .i64 n) := haC.2.1
      rw [hb0, hlen5]
      refine ⟨fun h => by simp at h, fun _ => ⟨fun h => by simp at h, fun _ => ⟨fun _ => ⟨a0, haB, ⟨by omega, by omega⟩, n, hc, fun h => ⟨a0, haB, ⟨by omega, by omega⟩, n, hc, ?_, rfl⟩, fun _ => ⟨rfl, rfl⟩⟩, fun h => by simp at h⟩⟩⟩
      rcases hn2 with rfl | rfl
      · simp at h
      · rfl
end Go.Proofs.Ytmgmffoillbfeaa
