/- What the reader's functions do, one by one. -/
import Derived.Test.YtmgmffoillbfeaaX1
set_option linter.unusedSimpArgs false
set_option linter.unusedVariables false
namespace Go.Proofs.Ytmgmffoillbfeaa
open Go.V Go.RowKit

def cl (c : UInt8) : Int := if c = 11 then 1 else if c = 28 then 2 else if c = 13 then 3 else 0
def lim (m : Int) : Int := if m < 1 ∨ 32768 < m then 32768 else m
theorem u8_eq (c : UInt8) (n : Nat) (hn : n < 256) : ((c.toNat : Int) == (n : Int)) = decide (c = UInt8.ofNat n) := by
  rw [Bool.eq_iff_iff]
  simp only [beq_iff_eq, decide_eq_true_eq]
  constructor
  · intro h
    have : c.toNat = n := by omega
    rw [← this]; simp
  · rintro rfl
    simp [Nat.mod_eq_of_lt hn]
theorem class_spec {w : World} {k : Value → World → Prop} (c : UInt8) (hk : k (.int .i64 (cl c)) w) : Cl Try.prog 28 [.int .u8 (c.toNat : Int)] w k := by
  refine f28_ok ?_
  unfold f28
  have e1 : ((c.toNat : Int) == 11) = decide (c = 11) := u8_eq c 11 (by decide)
  have e2 : ((c.toNat : Int) == 28) = decide (c = 28) := u8_eq c 28 (by decide)
  have e3 : ((c.toNat : Int) == 13) = decide (c = 13) := u8_eq c 13 (by decide)
  rw [e1, e2, e3]
  unfold cl at hk
  refine ⟨fun h => ?_, fun h => ⟨fun h2 => ?_, fun h2 => ⟨fun h3 => ?_, fun h3 => ?_⟩⟩⟩ <;> simp only [decide_eq_true_eq, decide_eq_false_iff_not] at * <;> simp_all
theorem limit_spec {w : World} {k : Value → World → Prop} {b : Nat} {m : Int} (hc : w.cell? ⟨b, 0, none⟩ = some (.int .i64 m)) (hk : k (.int .i64 (lim m)) w) : Cl Try.prog 29 [.pointer (some ⟨b, 0, none⟩)] w k := by
  refine f29_ok ?_
  unfold f29
  refine ⟨fun v w' => v = decide (m < 1 ∨ 32768 < m) ∧ w' = w, ?_, _, rfl, _, hc, ?_, ?_⟩
  · rintro v w' ⟨rfl, rfl⟩
    unfold lim at hk
    refine ⟨fun h => ?_, fun h => ⟨_, rfl, _, hc, ?_⟩⟩
    · simp only [decide_eq_true_eq] at h; rw [if_pos h] at hk; exact hk
    · simp only [decide_eq_false_iff_not] at h; rw [if_neg h] at hk; exact hk
  · intro h; simp only [decide_eq_true_eq] at h; exact ⟨by simp [h], rfl⟩
  · intro h; simp only [decide_eq_false_iff_not] at h; exact ⟨_, rfl, _, hc, by simp [h], rfl⟩
theorem add_spec {w : World} {k : Value → World → Prop} {a b : Int} (ha : 0 ≤ a) (hb : 0 ≤ b) (h : a + b ≤ 9223372036854775807) (hk : k (.int .i64 (a + b)) w) : Cl Try.prog 30 [.int .i64 a, .int .i64 b] w k := by
  refine f30_ok ?_
  unfold f30
  rw [if_neg (by omega), if_neg (by omega), w64_id (by omega) (by omega), w64_id (by omega) (by omega)]
  refine ⟨fun h => ?_, fun _ => hk⟩
  simp only [decide_eq_true_eq] at h; omega

/-! ### The table -/
abbrev TK := Int × Int
abbrev TV := Int × Int × Bool × Bool
def tk (x : TK) : Value := .agg (List.toArray [.int .i64 x.1, .int .i64 x.2])
def tv (x : TV) : Value := .agg (List.toArray [.int .i64 x.1, .int .i64 x.2.1, .bool x.2.2.1, .bool x.2.2.2])
theorem tkeys : Keys Try.prog 65 tk := by
  refine keys_of (fs := #[⟨ "state", 3, 0, false, "", "caduceus/frame", 0⟩, ⟨ "class", 3, 1, false, "", "caduceus/frame", 8⟩]) (by kernel_rfl) ?_ (fun k => ⟨_, rfl⟩) ?_ ?_
  · rintro ⟨a, b⟩; show chkV Try.prog 4 65 (.agg (List.toArray [.int .i64 a, .int .i64 b])) = true; kernel_rfl
  · rintro ⟨a, b⟩ ⟨c, d⟩
    have : eqV Try.prog 4 65 (.agg (List.toArray [.int .i64 a, .int .i64 b])) (.agg (List.toArray [.int .i64 c, .int .i64 d])) = some (a == c && (b == d && true)) := by kernel_rfl
    unfold tk; rw [this]; congr 1
    rw [Bool.eq_iff_iff]; simp
  · rintro ⟨a, b⟩; exact bits_agg _ (by simp [bits_int])
def rows : Nat → List (TK × TV)
  | 0 => []
  | j + 1 => ins (ins (ins (ins (ins (rows j) (0, (j : Int)) (-1, 0, false, true)) (1, (j : Int)) (-1, 1, true, false)) (2, (j : Int)) (1, 0, false, true)) (3, (j : Int)) (-1, 3, false, false)) (4, (j : Int)) (2, 0, false, true)
def tab : List (TK × TV) :=
  ins (ins (ins (ins (ins (ins (ins (ins (ins (rows 4) (0, 1) (-1, 1, false, false)) (1, 1) (1, 1, false, false)) (1, 2) (-1, 2, false, false)) (2, 1) (1, 1, false, false)) (2, 3) (0, 0, false, false)) (3, 1) (2, 1, false, false)) (3, 2) (-1, 4, false, false)) (4, 1) (2, 1, false, false)) (4, 3) (2, 0, false, false)
theorem put_spec {w : World} {r : Nat} {l : List (TK × TV)} {C : World → Prop} (h : MapAt w r tk tv l) (a b c d : Int) (x y : Bool) (hC : ∀ w1, MapAt w1 r tk tv (ins l (a, b) (c, d, x, y)) → Fr (fun g => g = r) w w1 → C w1) :
    ∃ w1, (Instr.mapUpdate 59 (.map (some r)) (.agg (List.toArray [.int .i64 a, .int .i64 b])) (.agg (List.toArray [.int .i64 c, .int .i64 d, .bool x, .bool y]))).run Try.prog w = .ok () w1 ∧ C w1 := by
  obtain ⟨w1, h1, h2, h3⟩ := run_mapUpdate (P := Try.prog) (mt := 59) (vt := 62) tkeys (by kernel_rfl) h (a, b) (c, d, x, y)
  exact ⟨w1, h1, hC w1 h2 h3⟩
theorem table_spec {w : World} {k : Value → World → Prop} (hk : ∀ r w', w.heap.size ≤ r → MapAt w' r tk tv tab → Fr Non w w' → k (.map (some r)) w') : Cl Try.prog 27 [] w k := by
  refine f27_ok ?_
  unfold f27
  rintro r w1 rfl rfl
  refine ⟨fun m c w' => ∃ j : Nat, c = j ∧ j ≤ 4 ∧ m = 4 - j ∧ MapAt w' w.heap.size tk tv (rows j) ∧ Fr Non w w', ⟨4, 0, rfl, by omega, rfl, MapAt.new _ _ _, (Fr.refl _ _).alloc _⟩, ?_⟩
  rintro m c w' ⟨j, rfl, hj, rfl, hm, hf⟩
  have step : ∀ {w1 w2 : World}, Fr Non w w1 → Fr (fun g => g = w.heap.size) w1 w2 → Fr Non w w2 := fun h1 h2 => h1.trans h2 (fun b hb e => by omega)
  refine ⟨fun h => ?_, fun h => ?_⟩
  · simp only [decide_eq_true_eq] at h
    refine put_spec hm _ _ _ _ _ _ fun w1 h1 f1 => put_spec h1 _ _ _ _ _ _ fun w2 h2 f2 => put_spec h2 _ _ _ _ _ _ fun w3 h3 f3 => put_spec h3 _ _ _ _ _ _ fun w4 h4 f4 => put_spec h4 _ _ _ _ _ _ fun w5 h5 f5 => ?_
    exact ⟨4 - (j + 1), by omega, j + 1, by rw [w64_id (by omega) (by omega)]; push_cast; rfl, by omega, rfl, h5, step (step (step (step (step hf f1) f2) f3) f4) f5⟩
  · simp only [decide_eq_false_iff_not] at h
    obtain rfl : j = 4 := by omega
    refine put_spec hm _ _ _ _ _ _ fun w1 h1 f1 => put_spec h1 _ _ _ _ _ _ fun w2 h2 f2 => put_spec h2 _ _ _ _ _ _ fun w3 h3 f3 => put_spec h3 _ _ _ _ _ _ fun w4 h4 f4 => put_spec h4 _ _ _ _ _ _ fun w5 h5 f5 =>
      put_spec h5 _ _ _ _ _ _ fun w6 h6 f6 => put_spec h6 _ _ _ _ _ _ fun w7 h7 f7 => put_spec h7 _ _ _ _ _ _ fun w8 h8 f8 => put_spec h8 _ _ _ _ _ _ fun w9 h9 f9 => ?_
    exact hk _ _ (Nat.le_refl _) h9 (step (step (step (step (step (step (step (step (step hf f1) f2) f3) f4) f5) f6) f7) f8) f9)

/-! ### What a reader does -/
/-- A byte comes. -/
def stp (r : RS) (c : UInt8) : RS :=
  if r.st = 0 then (if c = 11 then { r with st := 1, inp := [] } else { r with skip := r.skip + 1 })
  else if r.st = 1 then
    (if c = 11 then { r with evs := r.evs ++ [([], 1)], inp := [] }
     else if c = 28 then { r with st := 2 }
     else if (r.inp.length : Int) = lim r.most then { r with st := 3 } else { r with inp := r.inp ++ [c] })
  else if r.st = 2 then
    (if c = 11 then { r with evs := r.evs ++ [([], 1)], st := 1, inp := [] }
     else if c = 13 then { r with evs := r.evs ++ [(r.inp, 0)], st := 0 }
     else { r with evs := r.evs ++ [([], 1)], st := 0, skip := r.skip + 1 })
  else if r.st = 3 then
    (if c = 11 then { r with evs := r.evs ++ [([], 2)], st := 1, inp := [] }
     else if c = 28 then { r with st := 4 } else r)
  else
    (if c = 11 then { r with evs := r.evs ++ [([], 2)], st := 1, inp := [] }
     else if c = 13 then { r with evs := r.evs ++ [([], 2)], st := 0 }
     else { r with evs := r.evs ++ [([], 2)], st := 0, skip := r.skip + 1 })
def fd (r : RS) (s : Str) : RS := s.foldl stp r
/-- What holds of every reader. -/
structure Ok (r : RS) : Prop where
  s0 : 0 ≤ r.st
  s1 : r.st ≤ 4
  i : (r.inp.length : Int) ≤ lim r.most
  k : 0 ≤ r.skip
theorem lim_pos (m : Int) : 1 ≤ lim m ∧ lim m ≤ 32768 := by unfold lim; split <;> omega
theorem Ok.stp {r : RS} (h : Ok r) (c : UInt8) : Ok (stp r c) ∧ (stp r c).skip ≤ r.skip + 1 ∧ (stp r c).evs.length ≤ r.evs.length + 1 ∧ (stp r c).most = r.most := by
  obtain ⟨h0, h1, h2, h3⟩ := h
  have hl := lim_pos r.most
  unfold Ytmgmffoillbfeaa.stp
  (repeat' split) <;> refine ⟨⟨?_, ?_, ?_, ?_⟩, ?_, ?_, ?_⟩ <;> (try simp) <;> omega
theorem Ok.fd {r : RS} (h : Ok r) (s : Str) : Ok (fd r s) ∧ (fd r s).skip ≤ r.skip + s.length ∧ (fd r s).evs.length ≤ r.evs.length + s.length ∧ (fd r s).most = r.most := by
  induction s generalizing r with
  | nil => exact ⟨h, by simp [Ytmgmffoillbfeaa.fd], by simp [Ytmgmffoillbfeaa.fd], rfl⟩
  | cons c s ih =>
    obtain ⟨h1, h2, h3, h4⟩ := h.stp c
    obtain ⟨g1, g2, g3, g4⟩ := ih h1
    refine ⟨g1, ?_, ?_, g4.trans h4⟩
    · simp only [Ytmgmffoillbfeaa.fd, List.foldl_cons, List.length_cons] at *; push_cast; omega
    · simp only [Ytmgmffoillbfeaa.fd, List.foldl_cons, List.length_cons] at *; omega

/-- The same, by the table. -/
def tstp (r : RS) (c : UInt8) (d : TV) : RS :=
  let r1 : RS := { r with evs := if d.1 == 0 then r.evs ++ [(r.inp, 0)] else if d.1 != -1 then r.evs ++ [([], d.1)] else r.evs, st := d.2.1 }
  if d.2.2.1 = true then (if (r.inp.length : Int) == lim r.most then { r1 with st := 3 } else { r1 with inp := r.inp ++ [c] })
  else if d.2.1 == 1 then { r1 with inp := [] } else if d.2.2.2 = true then { r1 with skip := r.skip + 1 } else r1
set_option maxHeartbeats 1000000 in
theorem tstp_eq {r : RS} (h0 : 0 ≤ r.st) (h1 : r.st ≤ 4) (c : UInt8) : ∃ d, lk tab (r.st, cl c) = some d ∧ tstp r c d = stp r c := by
  obtain ⟨most, st, inp, evs, skip⟩ := r
  simp only at h0 h1
  have hs : st = 0 ∨ st = 1 ∨ st = 2 ∨ st = 3 ∨ st = 4 := by omega
  have hc : (c = 11 ∧ cl c = 1) ∨ (c ≠ 11 ∧ c = 28 ∧ cl c = 2) ∨ (c ≠ 11 ∧ c ≠ 28 ∧ c = 13 ∧ cl c = 3) ∨ (c ≠ 11 ∧ c ≠ 28 ∧ c ≠ 13 ∧ cl c = 0) := by
    unfold cl
    by_cases e1 : c = 11
    · exact .inl ⟨e1, by simp [e1]⟩
    by_cases e2 : c = 28
    · exact .inr (.inl ⟨e1, e2, by simp [e2]⟩)
    by_cases e3 : c = 13
    · exact .inr (.inr (.inl ⟨e1, e2, e3, by simp [e3]⟩))
    · exact .inr (.inr (.inr ⟨e1, e2, e3, by simp [e1, e2, e3]⟩))
  have val : ∀ (a b : Int), (a = 0 ∨ a = 1 ∨ a = 2 ∨ a = 3 ∨ a = 4) → (b = 0 ∨ b = 1 ∨ b = 2 ∨ b = 3) → lk tab (a, b) = some
      (if a = 0 then (if b = 1 then (-1, 1, false, false) else (-1, 0, false, true))
       else if a = 1 then (if b = 1 then (1, 1, false, false) else if b = 2 then (-1, 2, false, false) else (-1, 1, true, false))
       else if a = 2 then (if b = 1 then (1, 1, false, false) else if b = 3 then (0, 0, false, false) else (1, 0, false, true))
       else if a = 3 then (if b = 1 then (2, 1, false, false) else if b = 2 then (-1, 4, false, false) else (-1, 3, false, false))
       else (if b = 1 then (2, 1, false, false) else if b = 3 then (2, 0, false, false) else (2, 0, false, true))) := by
    intro a b ha hb
    rcases ha with rfl | rfl | rfl | rfl | rfl <;> rcases hb with rfl | rfl | rfl | rfl <;> decide
  have fin : ∀ (a b : Int) (ha : a = 0 ∨ a = 1 ∨ a = 2 ∨ a = 3 ∨ a = 4) (hb : b = 0 ∨ b = 1 ∨ b = 2 ∨ b = 3) (d : TV), lk tab (a, b) = some d → st = a → cl c = b → tstp ⟨most, st, inp, evs, skip⟩ c d = stp ⟨most, st, inp, evs, skip⟩ c →
      ∃ d, lk tab (st, cl c) = some d ∧ tstp ⟨most, st, inp, evs, skip⟩ c d = stp ⟨most, st, inp, evs, skip⟩ c := fun a b _ _ d h1 h2 h3 h4 => ⟨d, by rw [h2, h3]; exact h1, h4⟩
  rcases hs with e | e | e | e | e <;> rcases hc with ⟨e1, e'⟩ | ⟨e1, e2, e'⟩ | ⟨e1, e2, e3, e'⟩ | ⟨e1, e2, e3, e'⟩ <;>
    refine fin _ _ (by decide) (by decide) _ (val _ _ (by decide) (by decide)) e e' ?_ <;> clear fin val <;> subst e <;> (try subst e1) <;> (try subst e2) <;> (try subst e3) <;>
      (first | rfl | (simp only [tstp, stp]; simp [*]))
end Go.Proofs.Ytmgmffoillbfeaa
