/- However bytes are cut into pieces, the events are the same. -/
import Derived.Test.YtmgmffoillbfeaaX9
set_option linter.unusedSimpArgs false
set_option linter.unusedVariables false
namespace Go.Proofs.Ytmgmffoillbfeaa
open Go.V Go.RowKit

theorem fr_cell {F : Nat → Prop} {w w' : World} (e : Fr F w w') {a : Addr} {v : Value} (hc : w.cell? a = some v) (hF : ¬ F a.block) : w'.cell? a = some v := by
  have hb := World.block_lt_of_cell? w a hc
  unfold World.cell? at hc ⊢
  rw [e.blk _ hb hF]; exact hc
/-- A slice from outside: its cells, by their numbers. -/
def Ar (w : World) (s : Sl) (n : Nat) (f : Nat → Value) : Prop := ∀ i, i < n → ∃ a, s.base = some a ∧ w.cell? (a.add i) = some (f i)
theorem Ar.fr {w w' : World} {s : Sl} {n : Nat} {f : Nat → Value} (h : Ar w s n f) (e : Fr Non w w') : Ar w' s n f := fun i hi => by
  obtain ⟨a, h1, h2⟩ := h i hi
  exact ⟨a, h1, fr_cell e h2 (fun h => h)⟩
def lowb (x : Int) : Nat := (BitVec.ofInt 64 x &&& BitVec.ofInt 64 31).toNat
theorem lowb_le (x : Int) : lowb x ≤ 31 := by
  unfold lowb
  rw [BitVec.toNat_and]
  exact Nat.and_le_right
theorem sub_take (b : Str) (i k : Nat) (h : i ≤ k) : b.take i ++ sub b (i : Int) (k : Int) = b.take k := by
  unfold sub
  simp only [Int.toNat_natCast]
  have h2 := List.take_append_drop i (b.take k)
  rw [List.take_take, Nat.min_eq_left h, List.drop_take] at h2
  exact h2
set_option maxHeartbeats 1000000 in
theorem pieces_spec {w : World} {k : Value → World → Prop} (b : Str) (most : Int) (cuts : Sl) (z : Nat → Int) (hb : b.length ≤ 1000000000000000) (hcl : cuts.len ≤ 9223372036854775807) (hz : Ar w cuts cuts.len (fun i => .int .i64 (z i))) (hk : ∀ w', Fr Non w w' → k (.bool true) w') :
    Cl Try.prog 4 [.string (mkS b), .int .i64 most, .slice cuts.base cuts.len cuts.cap] w k := by
  refine f4_ok ?_
  unfold f4
  refine ⟨fun v w' => w' = w ∧ (v = false → b.length ≤ 9000 ∧ cuts.len ≤ 60), ?_, fun _ => ⟨rfl, by simp⟩, fun h => ⟨rfl, fun h2 => ?_⟩⟩
  case refine_2 =>
    have h := of_decide_eq_false h
    have h2 := of_decide_eq_false h2
    exact ⟨by omega, by omega⟩
  rintro v w' ⟨rfl, hv⟩
  refine ⟨fun _ => alive_spec fun w1 f1 => ⟨_, rfl, hk _ f1⟩, fun hf => ?_⟩
  obtain ⟨hb9, hc60⟩ := hv hf
  refine new_spec most fun w1 x1 f1 => ⟨_, rfl, ?_⟩
  refine new_spec most fun w2 y2 f2 => ⟨_, rfl, ?_⟩
  have g2 : Fr Non w' w2 := upN f1 f2 (fun g hg => hg.elim)
  have x2 := x1.fr f2 (fun _ _ h => h)
  have z1 : w'.heap.size < w1.heap.size := x1.lt rfl
  obtain ⟨okb, skb, evb, mb⟩ := (rnew_ok most).fd b
  have evb : (fd (rnew most) b).evs.length ≤ b.length := by simpa [rnew] using evb
  refine feed_spec b x2 (rnew_ok most) (by simp [rnew]; omega) fun w3 X3 x3 f3 hX3 => ?_
  have y3 := y2.fr f3 (fun g hg e => by omega)
  have g3 : Fr Non w' w3 := upN g2 f3 (fun g hg => by omega)
  have d3 : ∀ g, g = w1.heap.size → ¬ X3 g := dj hX3 (fun g hg e => by omega) (fun g hg => y2.lt hg)
  have u3 : ∀ g, X3 g → w'.heap.size ≤ g := fun g hg => by rcases hX3 g hg with h | h; · omega
                                                           · have := g2.size; omega
  have hcell : ∀ {w4 : World}, Fr Non w' w4 → ∀ {j : Nat}, j < cuts.len → ∃ a, cuts.base = some a ∧ w4.cell? (a.add j) = some (.int .i64 (z j)) := fun f j hj => hz.fr f j hj
  -- the two readers, the second fed up to 'at'
  let St : Nat → World → Prop := fun q w4 => q ≤ b.length ∧ ∃ Y, Rep 45 67 w4 w'.heap.size (fd (rnew most) b) X3 ∧ Rep 45 67 w4 w1.heap.size (fd (rnew most) (b.take q)) Y ∧ (∀ g, Y g → ¬ X3 g) ∧ (∀ g, Y g → w'.heap.size ≤ g) ∧ Fr Non w' w4
  have feed : ∀ {q p : Nat} {w4 : World} {k' : Value → World → Prop}, St q w4 → q ≤ p → p ≤ b.length → (∀ w5, St p w5 → k' (.tuple #[]) w5) → Cl Try.prog 13 [.pointer (some ⟨w1.heap.size, 0, none⟩), .string (mkS (sub b q p))] w4 k' := by
    rintro q p w4 k' ⟨hq, Y, hx, hy, hd, hu, hf⟩ hqp hp hk'
    obtain ⟨oky, sky, evy, my⟩ := (rnew_ok most).fd (b.take q)
    have sky : (fd (rnew most) (b.take q)).skip ≤ (b.take q).length := by simpa [rnew] using sky
    have evy : (fd (rnew most) (b.take q)).evs.length ≤ (b.take q).length := by simpa [rnew] using evy
    have hsl := congrArg List.length (sub_take b q p hqp)
    simp only [List.length_append, List.length_take] at hsl sky evy
    refine feed_spec _ hy oky (by omega) fun w5 Y5 y5 f5 hY5 => hk' w5 ⟨hp, Y5, ?_, ?_, ?_, ?_, ?_⟩
    · exact hx.fr f5 (fun g hg e => hd g e hg)
    · rw [← fd_app, sub_take b q p hqp] at y5; exact y5
    · intro g hg hX
      rcases hY5 g hg with h | h
      · exact hd g h hX
      · have := hx.lt hX; omega
    · intro g hg
      rcases hY5 g hg with h | h
      · exact hu g h
      · have := hf.size; omega
    · exact upN hf f5 hu
  refine ⟨fun v w4 => ∃ q : Nat, v = q ∧ St q w4, ?_, ?_⟩
  · rintro v w4 ⟨q, rfl, hS⟩
    refine ⟨⟨by omega, by have := hS.1; omega, by omega⟩, ?_⟩
    refine feed hS hS.1 (Nat.le_refl _) ?_
    rintro w5 ⟨_, Y, x5, y5, d5, u5, g5⟩
    rw [List.take_length] at y5
    refine alive_spec fun w6 f6 => ⟨_, rfl, fun _ => ?_, fun h => by simp at h⟩
    have x6 := x5.fr f6 (fun _ _ h => h)
    have y6 := y5.fr f6 (fun _ _ h => h)
    have g6 := upN g5 f6 (fun g hg => hg.elim)
    refine drain_spec x6 (by omega) fun l1 w7 G7 hl7 hG7 x7 f7 => ⟨l1, rfl, ?_⟩
    have y7 := y6.fr f7 (fun g hg e => d5 g hg e)
    have g7 : Fr Non w' w7 := upN g6 f7 u3
    refine drain_spec y7 (by omega) fun l2 w8 G8 hl8 hG8 y8 f8 => ⟨l2, rfl, ?_⟩
    have g8 : Fr Non w' w8 := upN g7 f8 u5
    have x8 := x7.fr f8 (fun g hg e => d5 g e hg)
    have hl7' := hl7.fr f8 (fun g hg e => by have h1 := hG7 g hg; have h2 := y6.lt e; omega)
    refine same_spec (sa := l1) (sb := l2) hl7' hl8 (by omega) fun w9 f9 => ⟨_, rfl, fun _ => ?_, fun h => by simp at h⟩
    have x9 := x8.fr f9 (fun _ _ h => h)
    have y9 := y8.fr f9 (fun _ _ h => h)
    have g9 := upN g8 f9 (fun g hg => hg.elim)
    refine skipped_spec x9 ⟨_, rfl, skipped_spec y9 ⟨_, rfl, fun _ => ?_, fun h => by simp at h⟩⟩
    refine inside_spec x9 ⟨_, rfl, inside_spec y9 ⟨_, rfl, ?_⟩⟩
    simpa using hk _ g9
  · have hS0 : St 0 w3 := ⟨by omega, fun g => g = w1.heap.size, x3, by simpa [fd] using y3, d3, fun g hg => by omega, g3⟩
    refine ⟨fun m v i w4 => ∃ j q : Nat, v = q ∧ i = j ∧ j ≤ cuts.len ∧ m = cuts.len - j ∧ St q w4, ⟨cuts.len, 0, 0, rfl, rfl, by omega, by omega, hS0⟩, ?_⟩
    rintro m v i w4 ⟨j, q, rfl, rfl, hj, rfl, hS⟩
    refine ⟨fun h => ?_, fun h => ⟨q, rfl, hS⟩⟩
    have h := of_decide_eq_true h
    obtain ⟨a, ha, hcl⟩ := hcell hS.2.choose_spec.2.2.2.2 (j := j) (by omega)
    have e1 : a.add (((j : Int)).toNat * 1) = a.add j := by simp
    rw [ha]
    have hlow : (BitVec.ofInt 64 (z j) &&& BitVec.ofInt 64 31).toNat = lowb (z j) := rfl
    have hll := lowb_le (z j)
    have hq := hS.1
    refine ⟨a, rfl, ⟨by omega, by omega⟩, z j, by rw [e1]; exact hcl, ?_⟩
    rw [hlow, w64_id (x := ((lowb (z j) : Nat) : Int)) (by omega) (by omega), w64_id (by omega) (by omega)]
    refine ⟨fun _ => ⟨q, rfl, hS⟩, fun h2 => ?_⟩
    have h2 := of_decide_eq_false h2
    have ek : ((q : Int) + ((lowb (z j) : Nat) : Int)) = ((q + lowb (z j) : Nat) : Int) := by push_cast; rfl
    rw [ek] at h2 ⊢
    refine ⟨⟨by omega, by omega, by omega⟩, ?_⟩
    refine feed hS (by omega) (by omega) fun w5 hS5 => ?_
    exact ⟨cuts.len - (j + 1), by omega, j + 1, q + lowb (z j), rfl, by rw [w64_id (by omega) (by omega)]; push_cast; rfl, by omega, rfl, hS5⟩
end Go.Proofs.Ytmgmffoillbfeaa
