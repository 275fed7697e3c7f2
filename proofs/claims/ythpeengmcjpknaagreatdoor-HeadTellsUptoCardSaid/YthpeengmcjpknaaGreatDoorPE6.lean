/- escape.Read: what is read of a value. -/
import Derived.Test.YthpeengmcjpknaaGreatDoorPE5
set_option linter.unusedSimpArgs false
set_option linter.unusedVariables false
namespace Go.Proofs.YthpeengmcjpknaaGreatDoor
open Go.V Go.RowKit
section
variable {w : World} {k : Value → World → Prop}
theorem sign_spec (d : Dm) (p : Str) (hk : ∀ w', Fr Non w w' → k (.int .u8 ((signP d p).toNat : Int)) w') : Cl Tryz.prog 318 [.agg (List.toArray (dvD d)), .string (mkS p)] w k := by
  refine f318_ok ?_
  unfold f318
  intro b7 w8 hb7 hw8
  have f8 : Fr Non w w8 := hw8 ▸ (Fr.refl Non w).alloc _
  have hD : Blk w8 b7 23 (dvD d) := hb7 ▸ hw8 ▸ Blk.new w _ _
  have hc : ∀ {i : Nat} {v : Value}, (dvD d)[i]? = some v → w8.cell? ((⟨b7, 0, none⟩ : Addr).add i) = some v := fun h => by rw [add_mk, Nat.zero_add]; exact hD.cell h
  have hk' := hk w8 f8
  unfold signP at hk'
  refine ⟨fun h => ⟨_, hD.cell rfl, ?_⟩, fun h => ⟨fun h2 => ⟨_, hc (i := 1) rfl, ?_⟩, fun h2 => ⟨fun h3 => ⟨_, hc (i := 4) rfl, ?_⟩, fun h3 => ⟨fun h4 => ⟨_, hc (i := 2) rfl, ?_⟩, fun h4 => ⟨fun h5 => ⟨_, hc (i := 3) rfl, ?_⟩, fun h5 => ?_⟩⟩⟩⟩⟩
  all_goals simp only [beq_iff_eq, beq_eq_false_iff_ne, ne_eq] at *
  · rw [if_pos h] at hk'; exact hk'
  · rw [if_neg h, if_pos h2] at hk'; exact hk'
  · rw [if_neg h, if_neg h2, if_pos h3] at hk'; exact hk'
  · rw [if_neg h, if_neg h2, if_neg h3, if_pos h4] at hk'; exact hk'
  · rw [if_neg h, if_neg h2, if_neg h3, if_neg h4, if_pos h5] at hk'; exact hk'
  · rw [if_neg h, if_neg h2, if_neg h3, if_neg h4, if_neg h5] at hk'; exact hk'
theorem meant_spec (d : Dm) (p : Str) (hl : p.length ≤ 1099511627776) (hk : ∀ w' x b, Fr Non w w' → (b = true → meantP d p = some x) → (b = false → meantP d p = none) → k (.tuple (List.toArray [.string (mkS x), .bool b])) w') :
    Cl Tryz.prog 273 [.agg (List.toArray (dvD d)), .string (mkS p)] w k := by
  refine f273_ok ?_
  unfold f273
  intro b7 w8 hb7 hw8
  have f8 : Fr Non w w8 := hw8 ▸ (Fr.refl Non w).alloc _
  have hD : Blk w8 b7 23 (dvD d) := hb7 ▸ hw8 ▸ Blk.new w _ _
  refine ⟨_, _, _, _, _, hD.ats (dvD d) 0 0 (fun q v hq => by simpa using hq), sign_spec d p fun w14 g14 => ⟨_, rfl, fun h => ?_, fun h => ?_⟩⟩
  · have h0 : signP d p ≠ 0 := by intro e; rw [e] at h; simp at h
    intro b17 w18 hb17 hw18
    have g18 : Fr Non w14 w18 := hw18 ▸ (Fr.refl Non w14).alloc _
    have hB : Blk w18 b17 5 (bys [signP d p]) := hb17 ▸ hw18 ▸ Blk.new w14 _ _
    exact ⟨[signP d p], hB.bytes rfl, hk _ _ _ ((f8.trans' g14).trans' g18) (fun _ => by unfold meantP; rw [if_pos h0]) (fun e => by cases e)⟩
  have h0 : signP d p = 0 := by
    apply UInt8.toNat_inj.1
    have : ((signP d p).toNat : Int) = 0 := by simpa using h
    rw [show (0 : UInt8).toNat = 0 from rfl]; omega
  have hmt := meantP_two d p h0
  refine cutPrefix_spec p [88] ⟨_, _, rfl, unhex_spec _ (by
    split
    · rw [List.length_drop]; omega
    · exact hl) fun w24 g24 => ⟨_, _, rfl, fun hp => ?_, fun hp => ?_⟩⟩
  · rw [if_pos hp] at hmt ⊢
    have f24 := (f8.trans' g14).trans' g24
    refine ⟨fun he => ?_, fun he => ?_⟩
    · refine hk _ _ _ f24 (fun hb => ?_) (fun hb => ?_)
      · rw [hmt]
        show (match unhexP (p.drop 1) with
          | some (b :: r) => some (b :: r)
          | _ => none) = some ((unhexP (p.drop 1)).getD [])
        have hb : ((unhexP (p.drop 1)).getD [] == []) = false := by simpa using hb
        cases hu : unhexP (p.drop 1) with
        | none => rw [hu] at hb; simp at hb
        | some l =>
          cases l with
          | nil => rw [hu] at hb; simp at hb
          | cons a r => rfl
      · rw [hmt]
        have hb : ((unhexP (p.drop 1)).getD [] == []) = true := by simpa using hb
        cases hu : unhexP (p.drop 1) with
        | none => rfl
        | some l =>
          cases l with
          | nil => rfl
          | cons a r => rw [hu] at hb; simp at hb
    · refine hk _ _ _ f24 (fun hb => by cases hb) (fun _ => ?_)
      rw [hmt]
      cases hu : unhexP (p.drop 1) with
      | none => rfl
      | some l =>
        exfalso
        have he : ((match unhexP (p.drop 1) with
          | some _ => (0 : Int)
          | none => 10) == 0) = false := he
        rw [hu] at he
        cases he
  · rw [if_neg (by rw [hp]; simp)] at hmt
    exact hk _ _ _ ((f8.trans' g14).trans' g24) (fun hb => by cases hb) (fun _ => hmt)
theorem ixByte_spec (s : Str) (c : UInt8) (hk : k (.int .i64 (Lib.indexByte s c)) w) : Cl Tryz.prog 272 [.string (mkS s), .int .u8 (c.toNat : Int)] w k := by
  refine cl_of (Tryz.strings_IndexByte (mkS s) (c.toNat : Int) w) ?_
  rintro e w' ⟨rfl, rfl⟩
  refine ⟨_, rfl, ?_⟩
  have e1 : (c.toNat : Int).toNat.toUInt8 = c := by simp
  have e2 : (mkS s).data.toList = s := rfl
  rw [e1, e2]; exact hk
set_option maxHeartbeats 4000000 in
theorem read_spec (d : Dm) (ok : OkD d) (s : Str) (hl : s.length ≤ 1099511627776) (hk : ∀ w', Fr Non w w' → k (.string (mkS (readP d s))) w') : Cl Tryz.prog 156 [.agg (List.toArray (dvD d)), .string (mkS s)] w k := by
  refine f156_ok ?_
  unfold f156
  intro b7 w8 hb7 hw8
  have f8 : Fr Non w w8 := hw8 ▸ (Fr.refl Non w).alloc _
  have hD : Blk w8 b7 23 (dvD d) := hb7 ▸ hw8 ▸ Blk.new w _ _
  have hc : ∀ {w' : World} {i : Nat} {v : Value}, Fr Non w8 w' → (dvD d)[i]? = some v → w'.cell? ((⟨b7, 0, none⟩ : Addr).add i) = some v := fun f h => by rw [add_mk, Nat.zero_add]; exact (hD.fr f (fun h => h)).cell h
  have hrl := readP_len d s.length s (Nat.le_refl _)
  have dropc : ∀ j (hj : j < s.length), s.drop j = s[j] :: s.drop (j + 1) := fun j hj => List.drop_eq_getElem_cons hj
  have getc : ∀ j (hj : j < s.length), s.getD ((j : Int)).toNat 0 = s[j] := fun j hj => by rw [Int.toNat_natCast, List.getD_eq_getElem?_getD, List.getElem?_eq_getElem hj]; rfl
  refine ⟨fun m o i w' => ∃ (j : Nat) (acc : Str), i = j ∧ j ≤ s.length ∧ m = 2 * (s.length - j) ∧ OB w8.heap.size o acc w' ∧ Fr Non w8 w' ∧ acc ++ readP d (s.drop j) = readP d s,
    fun m o i w' => ∃ (j : Nat) (acc : Str) (hj : j < s.length), i = j ∧ m = 2 * (s.length - j) - 1 ∧ OB w8.heap.size o acc w' ∧ Fr Non w8 w' ∧ acc ++ (s[j] :: readP d (s.drop (j + 1))) = readP d s, ?_, ?_, ?_⟩
  · refine ⟨_, _, _, _, _, hD.ats (dvD d) 0 0 (fun q v hq => by simpa using hq), dvalid_spec (mD d ⟨none, 0, 0⟩) fun w20 g20 => ⟨_, rfl, fun h => ?_, fun h => ?_⟩⟩
    · rw [dv_ok ok] at h; cases h
    have hO : OB w8.heap.size ⟨none, 0, 0⟩ [] w20 := OB.nil _ _
    have he : ([] : Str) ++ readP d (s.drop 0) = readP d s := by simp
    have f0 := g20
    generalize hacc : ([] : Str) = acc at hO he
    refine ⟨fun h => ?_, fun h => ?_⟩
    · have hj0 : 0 = s.length := by have := (beq_iff_eq.1 h); omega
      have ea : acc = readP d s := by rw [← he, hj0, List.drop_length]; simp [readP, readF]
      exact ⟨acc, hO.bytes, by rw [ea]; exact hk _ (f8.trans' f0)⟩
    have hj : 0 < s.length := by
      have : 0 ≠ (s.length : Int) := by simpa using h
      omega
    rw [dropc 0 hj, readP_cons] at he
    have e1 : IntKind.i64.wrap (0 + 1) = ((0 + 1 : Nat) : Int) := by rw [w64_id (by omega) (by omega)]; rfl
    have eg : s.getD (0 : Int).toNat 0 = s[0] := getc 0 hj
    rw [eg, e1]
    rintro w50 rfl
    have f50 := f0.drew
    have hO50 := hO.fr (Fr.refl Non w20).drew
    refine ⟨⟨by omega, by omega⟩, _, hc (i := 3) f50 rfl, fun h2 => ?_, fun h2 => ?_⟩
    · have hne : s[0] ≠ d.e := by
        intro e; rw [e] at h2; simp at h2
      rw [if_neg hne] at he
      exact ⟨2 * (s.length - 0) - 1, 0, acc, hj, rfl, rfl, hO50, f50, he⟩
    have heq : s[0] = d.e := by
      apply UInt8.toNat_inj.1
      have : ((s[0].toNat : Int)) = (d.e.toNat : Int) := by simpa using h2
      omega
    rw [if_pos heq] at he
    rintro w53 rfl
    have f53 := f50.drew
    have hO53 := hO50.fr (Fr.refl Non _).drew
    refine ⟨⟨by omega, by omega, by omega⟩, _, hc (i := 3) f53 rfl, ?_⟩
    rw [sub_suf]
    refine ixByte_spec _ _ ⟨_, rfl, fun h3 => ?_, fun h3 => ?_⟩
    · rcases cut_index d.e (s.drop (0 + 1)) with ⟨q1, q2⟩ | ⟨n, q1, _, _⟩
      · rw [q2] at he
        exact ⟨2 * (s.length - 0) - 1, 0, acc, hj, rfl, rfl, hO53, f53, he⟩
      · have := of_decide_eq_true h3; omega
    rcases cut_index d.e (s.drop (0 + 1)) with ⟨q1, _⟩ | ⟨n, q1, q2, q3⟩
    · have := of_decide_eq_false h3; omega
    rw [q3] at he
    simp only at he
    rw [List.length_drop] at q2
    rw [q1]
    have e2 : IntKind.i64.wrap (((0 + 1 : Nat) : Int) + (n : Int)) = ((0 + 1 + n : Nat) : Int) := by rw [w64_id (by omega) (by omega)]; push_cast; rfl
    have e3 : sub s ((0 + 1 : Nat) : Int) ((0 + 1 + n : Nat) : Int) = (s.drop (0 + 1)).take n := by
      unfold sub; rw [Int.toNat_natCast, Int.toNat_natCast]; congr 1; omega
    rw [e2, e3]
    rintro w59 rfl
    have f59 := f53.drew
    have hO59 := hO53.fr (Fr.refl Non _).drew
    have hD59 := hD.fr f59 (fun h => h)
    refine ⟨_, _, _, _, _, hD59.ats (dvD d) 0 0 (fun q v hq => by simpa using hq), ⟨by omega, by omega, by omega⟩, meant_spec d _ (by rw [List.length_take, List.length_drop]; omega) fun w65 x b g65 ht hf => ⟨_, _, rfl, fun h4 => ?_, fun h4 => ?_⟩⟩
    · have hb : b = false := by simpa using h4
      rw [hf hb] at he
      exact ⟨2 * (s.length - 0) - 1, 0, acc, hj, rfl, rfl, hO59.fr g65, f59.trans' g65, he⟩
    have hb : b = true := by simpa using h4
    rw [ht hb] at he
    simp only at he
    rw [List.drop_drop] at he
    have hal := congrArg List.length he
    simp only [List.length_append] at hal
    obtain ⟨s', w', r1, r2, r3⟩ := OB.text (hO59.fr g65) (f59.trans' g65) x (by omega)
    refine ⟨s', w', r1, 2 * (s.length - (0 + 1 + (n + 1))), 0 + 1 + (n + 1), acc ++ x, ?_, by omega, rfl, r2, r3, by rw [← he, List.append_assoc]⟩
    rw [w64_id (x := (n : Int) + 2) (by omega) (by omega), w64_id (by omega) (by omega)]; push_cast; omega
  · rintro m o i w48 ⟨j, acc, rfl, hj1, rfl, hO, f0, he⟩
    refine ⟨fun h => ?_, fun h => ?_⟩
    · have hj0 : j = s.length := by have := (beq_iff_eq.1 h); omega
      have ea : acc = readP d s := by rw [← he, hj0, List.drop_length]; simp [readP, readF]
      exact ⟨acc, hO.bytes, by rw [ea]; exact hk _ (f8.trans' f0)⟩
    have hj : j < s.length := by
      have : (j : Int) ≠ (s.length : Int) := by simpa using h
      omega
    rw [dropc j hj, readP_cons] at he
    have e1 : IntKind.i64.wrap ((j : Int) + 1) = ((j + 1 : Nat) : Int) := by rw [w64_id (by omega) (by omega)]; push_cast; omega
    have eg : s.getD ((j : Int) : Int).toNat 0 = s[j] := getc j hj
    rw [eg, e1]
    rintro w50 rfl
    have f50 := f0.drew
    have hO50 := hO.fr (Fr.refl Non w48).drew
    refine ⟨⟨by omega, by omega⟩, _, hc (i := 3) f50 rfl, fun h2 => ?_, fun h2 => ?_⟩
    · have hne : s[j] ≠ d.e := by
        intro e; rw [e] at h2; simp at h2
      rw [if_neg hne] at he
      exact ⟨2 * (s.length - j) - 1, by omega, j, acc, hj, rfl, rfl, hO50, f50, he⟩
    have heq : s[j] = d.e := by
      apply UInt8.toNat_inj.1
      have : ((s[j].toNat : Int)) = (d.e.toNat : Int) := by simpa using h2
      omega
    rw [if_pos heq] at he
    rintro w53 rfl
    have f53 := f50.drew
    have hO53 := hO50.fr (Fr.refl Non _).drew
    refine ⟨⟨by omega, by omega, by omega⟩, _, hc (i := 3) f53 rfl, ?_⟩
    rw [sub_suf]
    refine ixByte_spec _ _ ⟨_, rfl, fun h3 => ?_, fun h3 => ?_⟩
    · rcases cut_index d.e (s.drop (j + 1)) with ⟨q1, q2⟩ | ⟨n, q1, _, _⟩
      · rw [q2] at he
        exact ⟨2 * (s.length - j) - 1, by omega, j, acc, hj, rfl, rfl, hO53, f53, he⟩
      · have := of_decide_eq_true h3; omega
    rcases cut_index d.e (s.drop (j + 1)) with ⟨q1, _⟩ | ⟨n, q1, q2, q3⟩
    · have := of_decide_eq_false h3; omega
    rw [q3] at he
    simp only at he
    rw [List.length_drop] at q2
    rw [q1]
    have e2 : IntKind.i64.wrap (((j + 1 : Nat) : Int) + (n : Int)) = ((j + 1 + n : Nat) : Int) := by rw [w64_id (by omega) (by omega)]; push_cast; rfl
    have e3 : sub s ((j + 1 : Nat) : Int) ((j + 1 + n : Nat) : Int) = (s.drop (j + 1)).take n := by
      unfold sub; rw [Int.toNat_natCast, Int.toNat_natCast]; congr 1; omega
    rw [e2, e3]
    rintro w59 rfl
    have f59 := f53.drew
    have hO59 := hO53.fr (Fr.refl Non _).drew
    have hD59 := hD.fr f59 (fun h => h)
    refine ⟨_, _, _, _, _, hD59.ats (dvD d) 0 0 (fun q v hq => by simpa using hq), ⟨by omega, by omega, by omega⟩, meant_spec d _ (by rw [List.length_take, List.length_drop]; omega) fun w65 x b g65 ht hf => ⟨_, _, rfl, fun h4 => ?_, fun h4 => ?_⟩⟩
    · have hb : b = false := by simpa using h4
      rw [hf hb] at he
      exact ⟨2 * (s.length - j) - 1, by omega, j, acc, hj, rfl, rfl, hO59.fr g65, f59.trans' g65, he⟩
    have hb : b = true := by simpa using h4
    rw [ht hb] at he
    simp only at he
    rw [List.drop_drop] at he
    have hal := congrArg List.length he
    simp only [List.length_append] at hal
    obtain ⟨s', w', r1, r2, r3⟩ := OB.text (hO59.fr g65) (f59.trans' g65) x (by omega)
    refine ⟨s', w', r1, 2 * (s.length - (j + 1 + (n + 1))), by omega, j + 1 + (n + 1), acc ++ x, ?_, by omega, rfl, r2, r3, by rw [← he, List.append_assoc]⟩
    rw [w64_id (x := (n : Int) + 2) (by omega) (by omega), w64_id (by omega) (by omega)]; push_cast; omega
  · rintro m o i w74 ⟨j, acc, hj, rfl, rfl, hO, f74, he⟩
    have hg : s.getD ((j : Int)).toNat 0 = s[j] := by rw [Int.toNat_natCast, List.getD_eq_getElem?_getD, List.getElem?_eq_getElem hj]; rfl
    rw [hg]
    refine ⟨⟨by omega, by omega⟩, ?_⟩
    intro b75 w76 hb75 hw76
    have g76 : Fr Non w74 w76 := hw76 ▸ (Fr.refl Non w74).alloc _
    have hB : Blk w76 b75 5 (bys [s[j]]) := hb75 ▸ hw76 ▸ Blk.new w74 _ _
    have hal := congrArg List.length he
    simp only [List.length_append, List.length_cons] at hal
    obtain ⟨s', w', r1, r2, r3⟩ := OB.push (hO.fr g76) (f74.trans' g76) hB (c := 1) (by simp) (by simp only [List.length_cons, List.length_nil]; omega)
    refine ⟨s', w', r1, 2 * (s.length - (j + 1)), by omega, j + 1, _, by rw [w64_id (by omega) (by omega)]; push_cast; rfl, by omega, rfl, r2, r3, ?_⟩
    rw [← he]; simp
end
end Go.Proofs.YthpeengmcjpknaaGreatDoor
