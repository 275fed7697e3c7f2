/- Bytes of a set taken off both ends of a text. -/
import Derived.Test.YtpkkbbdffhcpaaaDoorS4
set_option linter.unusedSimpArgs false
set_option linter.unusedVariables false
namespace Go.Proofs.YtpkkbbdffhcpaaaDoor
open Go.V Go.RowKit
/-- A set of ASCII bytes, as it lies in memory. -/
def setL (cs : Str) : List Value := (List.range 256).map fun i => .bool (decide (∃ c ∈ cs, c.toNat = i))
theorem setL_len (cs : Str) : (setL cs).length = 256 := by simp [setL]
theorem setL_get (cs : Str) {i : Nat} (hi : i < 256) : (setL cs)[i]? = some (.bool (decide (∃ c ∈ cs, c.toNat = i))) := by simp [setL, hi]
theorem setL_nil : setL [] = List.replicate 256 (.bool false) := by
  apply List.ext_getElem?
  intro i
  by_cases hi : i < 256
  · rw [setL_get [] hi, List.getElem?_replicate, if_pos hi]; congr 2
  · rw [List.getElem?_eq_none (by rw [setL_len]; omega), List.getElem?_eq_none (by rw [List.length_replicate]; omega)]
theorem setL_snoc (cs : Str) (c : UInt8) : (setL cs).set c.toNat (.bool true) = setL (cs ++ [c]) := by
  apply List.ext_getElem?
  intro i
  have hc := c.toNat_lt
  by_cases hi : i < 256
  · by_cases e : i = c.toNat
    · subst e
      rw [List.getElem?_set_self (by rw [setL_len]; exact hi), setL_get _ hi]
      congr 2
      symm
      rw [decide_eq_true_iff]
      exact ⟨c, by simp, rfl⟩
    · rw [List.getElem?_set_ne (fun h => e h.symm), setL_get _ hi, setL_get _ hi]
      congr 2
      rw [decide_eq_decide]
      constructor
      · rintro ⟨d, hd, h⟩; exact ⟨d, by simp [hd], h⟩
      · rintro ⟨d, hd, h⟩
        rcases List.mem_append.1 hd with hd | hd
        · exact ⟨d, hd, h⟩
        · simp at hd; subst hd; exact absurd h.symm e
  · rw [List.getElem?_eq_none (by simp [setL_len]; omega), List.getElem?_eq_none (by rw [setL_len]; omega)]
theorem setL_one (cs : Str) : (setL cs).all (·.oneCell') = true := by
  rw [List.all_eq_true]
  intro v hv
  simp only [setL, List.mem_map] at hv
  obtain ⟨i, _, rfl⟩ := hv
  rfl
def trimR (p : UInt8 → Bool) (s : Str) : Str := (s.reverse.dropWhile p).reverse
theorem trimR_snoc (p : UInt8 → Bool) (s : Str) (c : UInt8) : trimR p (s ++ [c]) = if p c then trimR p s else s ++ [c] := by
  unfold trimR
  rw [List.reverse_append]
  simp only [List.reverse_cons, List.reverse_nil, List.nil_append, List.singleton_append, List.dropWhile_cons]
  split <;> simp
theorem mem_nat (cs : Str) (c : UInt8) : decide (∃ d ∈ cs, d.toNat = c.toNat) = cs.contains c := by
  rw [Bool.eq_iff_iff, decide_eq_true_iff, List.contains_iff_mem]
  constructor
  · rintro ⟨d, hd, h⟩; have : d = c := UInt8.toNat_inj.1 h; exact this ▸ hd
  · intro h; exact ⟨c, h, rfl⟩
section
variable {w : World} {k : Value → World → Prop}
theorem makeset_spec (cs : Str) (hl : cs.length ≤ 1000000) (ha : ∀ c ∈ cs, c.toNat < 128) (hk : ∀ w', Fr Non w w' → k (.tuple (List.toArray [.agg (List.toArray (setL cs)), .bool true])) w') : Cl Tryd.prog 86 [.string (mkS cs)] w k := by
  refine f86_ok ?_
  unfold f86
  rintro b2 w3 rfl hw3
  have f3 : Fr Non w w3 := hw3 ▸ (Fr.refl Non w).alloc _
  have hB3 : Blk w3 w.heap.size 117 (setL []) := by rw [setL_nil]; exact hw3 ▸ Blk.new w _ _
  refine ⟨fun m i w' => ∃ j : Nat, i = j ∧ j ≤ cs.length ∧ m = cs.length - j ∧ Blk w' w.heap.size 117 (setL (cs.take j)) ∧ Fr Non w w', ⟨cs.length, 0, rfl, by omega, by omega, hB3, f3⟩, ?_⟩
  rintro m i w8 ⟨j, rfl, hj, rfl, hB, hf⟩
  refine ⟨fun h => ?_, fun h => ?_⟩
  · have hjl : j < cs.length := by have := of_decide_eq_true h; omega
    have e1 : cs.getD ((j : Int)).toNat 0 = cs[j] := by simp [hjl]
    have hlt := ha cs[j] (List.getElem_mem hjl)
    rw [e1]
    refine ⟨⟨by omega, by omega⟩, fun h => by have := of_decide_eq_true h; omega, fun _ => ⟨⟨by omega, by omega⟩, ?_⟩⟩
    have ea : (⟨w.heap.size, 0, none⟩ : Addr).add (((cs[j].toNat : Int)).toNat * 1) = ⟨w.heap.size, cs[j].toNat, none⟩ := by rw [add_mk]; simp
    rw [ea]
    refine ⟨hB.isS (by rw [setL_len]; omega), hB.free _, ?_⟩
    rintro w12 rfl
    refine ⟨cs.length - (j + 1), by omega, j + 1, by rw [w64_id (by omega) (by omega)]; push_cast; rfl, by omega, rfl, ?_, hf.set (a := ⟨w.heap.size, cs[j].toNat, none⟩) (fun h => absurd h (Nat.lt_irrefl _)) _⟩
    have := hB.set cs[j].toNat (.bool true)
    rw [setL_snoc] at this
    rw [List.take_succ_eq_append_getElem hjl]; exact this
  · obtain rfl : j = cs.length := by have := of_decide_eq_false h; omega
    rw [List.take_length] at hB
    refine ⟨setL cs, setL_len cs, hB.ats _ 0 0 (fun q v hq => by simpa using hq), setL_len cs, setL_one cs, mayCells_of hB 0 _ (by omega), ?_⟩
    rintro w14 rfl
    exact ⟨setL cs, setL_len cs, (hB.setAll rfl).ats _ 0 0 (fun q v hq => by simpa using hq), hk _ (hf.setAll hB rfl (fun h => absurd h (Nat.lt_irrefl _)))⟩
theorem contains_spec {b : Nat} {cs : Str} (c : UInt8) (hB : Blk w b 117 (setL cs)) (hk : k (.bool (cs.contains c)) w) : Cl Tryd.prog 109 [.pointer (some ⟨b, 0, none⟩), .int .u8 (c.toNat : Int)] w k := by
  refine f109_ok ?_
  unfold f109
  have hc := c.toNat_lt
  refine ⟨_, rfl, ⟨by omega, by omega⟩, cs.contains c, ?_, hk⟩
  rw [add_mk, Nat.zero_add]
  refine hB.cell ?_
  simp only [Int.toNat_natCast, Nat.mul_one]
  rw [setL_get cs hc, mem_nat]
theorem trimLeftASCII_spec {b : Nat} {cs : Str} (s : Str) (hB : Blk w b 117 (setL cs)) (hk : k (.string (mkS (s.dropWhile cs.contains))) w) : Cl Tryd.prog 87 [.string (mkS s), .pointer (some ⟨b, 0, none⟩)] w k := by
  refine f87_ok ?_
  unfold f87
  refine ⟨fun t w' => w' = w ∧ t = s.dropWhile cs.contains, fun t w' ⟨e1, e2⟩ => by subst e1 e2; exact hk, ?_⟩
  refine ⟨fun m t w' => m = t.length ∧ w' = w ∧ t.dropWhile cs.contains = s.dropWhile cs.contains, ⟨s.length, rfl, rfl, rfl⟩, ?_⟩
  rintro m t w' ⟨rfl, rfl, ht⟩
  refine ⟨fun h => ?_, fun h => ?_⟩
  · have h := of_decide_eq_true h
    cases t with
    | nil => simp at h
    | cons d t =>
      refine ⟨⟨by omega, h⟩, ?_⟩
      rw [show (d :: t).getD ((0 : Int)).toNat 0 = d from rfl]
      refine contains_spec d hB ⟨_, rfl, fun hn => ⟨rfl, ?_⟩, fun hn => ⟨⟨by omega, by simp; omega, by omega⟩, t.length, by simp, ?_⟩⟩
      · have hn : cs.contains d = false := by simpa using hn
        rw [← ht, List.dropWhile_cons, if_neg (by rw [hn]; simp)]
      · have hn : cs.contains d = true := by simpa using hn
        rw [show (1 : Int) = ((1 : Nat) : Int) from rfl, sub_suf]
        exact ⟨rfl, rfl, by rw [← ht, List.dropWhile_cons, if_pos hn]; rfl⟩
  · have h := of_decide_eq_false h
    cases t with
    | nil => exact ⟨rfl, by rw [← ht]; rfl⟩
    | cons d t => exact absurd h (by simp)
theorem trimRightASCII_spec {b : Nat} {cs : Str} (s : Str) (hs : s.length ≤ 1000000000000000) (hB : Blk w b 117 (setL cs)) (hk : k (.string (mkS (trimR cs.contains s))) w) : Cl Tryd.prog 88 [.string (mkS s), .pointer (some ⟨b, 0, none⟩)] w k := by
  refine f88_ok ?_
  unfold f88
  refine ⟨fun t w' => w' = w ∧ t = trimR cs.contains s, fun t w' ⟨e1, e2⟩ => by subst e1 e2; exact hk, ?_⟩
  refine ⟨fun m t w' => m = t.length ∧ w' = w ∧ trimR cs.contains t = trimR cs.contains s ∧ t.length ≤ s.length, ⟨s.length, rfl, rfl, rfl, Nat.le_refl _⟩, ?_⟩
  rintro m t w' ⟨rfl, rfl, ht, htl⟩
  refine ⟨fun h => ?_, fun h => ?_⟩
  · have h := of_decide_eq_true h
    obtain ⟨u, d, rfl⟩ : ∃ u d, t = u ++ [d] := ⟨t.dropLast, t.getLast (by intro e; simp [e] at h), (List.dropLast_concat_getLast _).symm⟩
    have hul : (u ++ [d]).length = u.length + 1 := by simp
    have ei : IntKind.i64.wrap (((u ++ [d]).length : Int) - 1) = (u.length : Int) := by rw [hul, w64_id (by omega) (by omega)]; push_cast; omega
    rw [ei]
    refine ⟨⟨by omega, by omega⟩, ?_⟩
    rw [show (u ++ [d]).getD ((u.length : Int)).toNat 0 = d from by simp]
    refine contains_spec d hB ⟨_, rfl, fun hn => ⟨rfl, ?_⟩, fun hn => ⟨⟨by omega, by omega, by omega⟩, u.length, by omega, ?_⟩⟩
    · have hn : cs.contains d = false := by simpa using hn
      rw [← ht, trimR_snoc, if_neg (by rw [hn]; simp)]
    · have hn : cs.contains d = true := by simpa using hn
      have es : sub (u ++ [d]) 0 (u.length : Int) = u := by simp [sub]
      rw [es]
      exact ⟨rfl, rfl, by rw [← ht, trimR_snoc, if_pos hn], by omega⟩
  · have h := of_decide_eq_false h
    have : t = [] := List.eq_nil_of_length_eq_zero (by omega)
    subst this
    exact ⟨rfl, by rw [← ht]; rfl⟩
/-- Bytes of an ASCII set of at least two are taken off both ends. -/
theorem trim_spec (s cs : Str) (hs : s.length ≤ 1000000000000000) (hl : cs.length ≤ 1000000) (h2 : 2 ≤ cs.length) (ha : ∀ c ∈ cs, c.toNat < 128) (hk : ∀ w', Fr Non w w' → k (.string (mkS ((trimR cs.contains s).dropWhile cs.contains))) w') : Cl Tryd.prog 56 [.string (mkS s), .string (mkS cs)] w k := by
  refine f56_ok ?_
  unfold f56
  have hcs : cs ≠ [] := fun e => by simp [e] at h2
  refine ⟨fun v w' => w' = w ∧ v = decide (s = []), ?_, fun h => ⟨rfl, ?_⟩, fun h => ⟨rfl, ?_⟩⟩
  case refine_2 => have h : s = [] := by simpa using h
                   simp [h]
  case refine_3 => have h : ¬ s = [] := by simpa using h
                   simp [h, hcs]
  rintro v w5 ⟨rfl, rfl⟩
  refine ⟨fun h => ?_, fun h => ?_⟩
  · have h := of_decide_eq_true h
    subst h
    exact hk _ (Fr.refl _ _)
  refine ⟨fun v w' => w' = w5 ∧ v = false, ?_, fun h => by simp at h; omega, fun _ => ⟨rfl, rfl⟩⟩
  rintro v w8 ⟨rfl, rfl⟩
  refine ⟨fun h => by simp at h, fun _ => ?_⟩
  refine makeset_spec cs hl ha fun w1 f1 => ⟨setL cs, true, rfl, ?_⟩
  rintro b20 w21 rfl hw21
  have hB0 : Blk w21 w1.heap.size 117 (List.replicate 256 (.bool false)) := hw21 ▸ Blk.new w1 _ _
  have f21 : Fr Non w1 w21 := hw21 ▸ (Fr.refl Non w1).alloc _
  refine ⟨setL_len cs, setL_one cs, mayCells_of hB0 0 _ (by rw [setL_len, List.length_replicate]; omega), ?_⟩
  rintro w22 hw22
  have hB : Blk w22 w1.heap.size 117 (setL cs) := hw22 ▸ hB0.setAll (by rw [setL_len, List.length_replicate])
  have f22 : Fr Non w1 w22 := hw22 ▸ f21.setAll hB0 (by rw [setL_len, List.length_replicate]) (fun h => absurd h (Nat.lt_irrefl _))
  refine ⟨fun _ => ?_, fun h => by simp at h⟩
  exact trimRightASCII_spec s hs hB ⟨_, rfl, trimLeftASCII_spec _ hB ⟨_, rfl, hk _ (upN f1 f22 (fun g hg => hg.elim))⟩⟩
end
end Go.Proofs.YtpkkbbdffhcpaaaDoor
