/- Functions that read messages: whether one is light; how many segments have a name; the place of one. -/
import Derived.Test.YthpeengmcjpknaaGreatDoorPSS
import Derived.Test.YthpeengmcjpknaaGreatDoorPVR
set_option linter.unusedSimpArgs false
set_option linter.unusedVariables false
namespace Go.Proofs.YthpeengmcjpknaaGreatDoor
open Go.V Go.RowKit
structure Mh where
  d1 : Int
  d2 : Int
  d3 : Int
  d4 : Int
  d5 : Int
  s : Sl
def mc (m : Mh) : List Value := [.int .u8 m.d1, .int .u8 m.d2, .int .u8 m.d3, .int .u8 m.d4, .int .u8 m.d5, .slice m.s.base m.s.len m.s.cap]
section
variable {w : World} {k : Value → World → Prop}
set_option maxHeartbeats 1000000 in
theorem light_any (m : Mh) (l : List Seg) (hR : RM w m.s l) (hS : SmM l) (hk : ∀ b w', Fr Non w w' → k (.bool b) w') : Cl Tryz.prog 9 [.agg (List.toArray (mc m))] w k := by
  refine f9_ok ?_
  unfold f9
  intro b7 w8 hb7 hw8
  have f8 : Fr Non w w8 := hw8 ▸ (Fr.refl Non w).alloc _
  have hB : Blk w8 b7 26 (mc m) := hb7 ▸ hw8 ▸ Blk.new w (mc m) 26
  have hR := hR.fr f8
  have hc : w8.cell? ((⟨b7, 0, none⟩ : Addr).add 5) = some (.slice m.s.base m.s.len m.s.cap) := by rw [add_mk]; exact hB.cell rfl
  have hL := hR.1
  have hS0 := hS.1
  unfold BB at hS0
  refine ⟨fun t n i w' => w' = w8 ∧ ∃ j : Nat, i = j ∧ j ≤ l.length ∧ t = l.length - j, ⟨l.length, rfl, 0, rfl, by omega, rfl⟩, ?_⟩
  rintro t n i w14 ⟨rfl, j, rfl, hj, rfl⟩
  refine ⟨fun v w' => w' = w14 ∧ (v = true → j < l.length), ?_, m.s, hc, fun h => ⟨rfl, fun _ => ?_⟩, fun h => ⟨rfl, fun h => by cases h⟩⟩
  case refine_2 => have := of_decide_eq_true h; omega
  rintro v w17 ⟨rfl, hv⟩
  refine ⟨fun hvt => ?_, fun _ => hk _ _ f8⟩
  have hj := hv hvt
  obtain ⟨a, ha, hn, x, hx, hX⟩ := hR.2 j hj
  obtain ⟨_, hS1, hSF⟩ := hS.2 _ (List.getElem_mem hj)
  unfold BB at hS1
  generalize hg : l[j].flds = fl at hX hS1 hSF
  have hXL := hX.1
  have B1 : (0 : Int) ≤ (j : Int) ∧ (j : Int) < (m.s.len : Int) := ⟨by omega, by omega⟩
  refine ⟨m.s, hc, a, ha, B1, x, hx, fun t n i w' => w' = w17 ∧ ∃ q : Nat, i = q ∧ q ≤ fl.length ∧ t = fl.length - q, ⟨fl.length, rfl, 0, rfl, by omega, rfl⟩, ?_⟩
  rintro t n i w27 ⟨rfl, q, rfl, hq, rfl⟩
  refine ⟨m.s, hc, a, ha, B1, x, hx, fun h => ?_, fun h => ⟨l.length - (j + 1), by omega, rfl, j + 1, by rw [w64_id (by omega) (by omega)]; push_cast; rfl, by omega, rfl⟩⟩
  have hq : q < fl.length := by have := of_decide_eq_true h; omega
  obtain ⟨a2, ha2, y, hy, hY⟩ := hX.2 q hq
  obtain ⟨hS2, hSR⟩ := hSF _ (List.getElem_mem hq)
  unfold BB at hS2
  generalize hg2 : fl[q] = fd at hY hS2 hSR
  have hYL := hY.1
  have B2 : (0 : Int) ≤ (q : Int) ∧ (q : Int) < (x.len : Int) := ⟨by omega, by omega⟩
  refine ⟨m.s, hc, a, ha, B1, x, hx, a2, ha2, B2, y, hy, fun t n i w' => w' = w27 ∧ ∃ r : Nat, i = r ∧ r ≤ fd.length ∧ t = fd.length - r, ⟨fd.length, rfl, 0, rfl, by omega, rfl⟩, ?_⟩
  rintro t n i w41 ⟨rfl, r, rfl, hr, rfl⟩
  refine ⟨m.s, hc, a, ha, B1, x, hx, a2, ha2, B2, y, hy, fun h => ?_, fun h => ⟨fl.length - (q + 1), by omega, rfl, q + 1, by rw [w64_id (by omega) (by omega)]; push_cast; rfl, by omega, rfl⟩⟩
  have hr : r < fd.length := by have := of_decide_eq_true h; omega
  obtain ⟨a3, ha3, z, hz, hZ⟩ := hY.2 r hr
  obtain ⟨hS3, hSC⟩ := hSR _ (List.getElem_mem hr)
  unfold BB at hS3
  generalize hg3 : fd[r] = rp at hZ hS3 hSC
  have hZL := hZ.1
  have B3 : (0 : Int) ≤ (r : Int) ∧ (r : Int) < (y.len : Int) := ⟨by omega, by omega⟩
  refine ⟨m.s, hc, a, ha, B1, x, hx, a2, ha2, B2, y, hy, a3, ha3, B3, z, hz, fun t n i w' => w' = w41 ∧ ∃ c : Nat, i = c ∧ c ≤ rp.length ∧ t = rp.length - c, ⟨rp.length, rfl, 0, rfl, by omega, rfl⟩, ?_⟩
  rintro t n i w59 ⟨rfl, c, rfl, hcc, rfl⟩
  refine ⟨m.s, hc, a, ha, B1, x, hx, a2, ha2, B2, y, hy, a3, ha3, B3, z, hz, fun h => ?_, fun h => ⟨fd.length - (r + 1), by omega, rfl, r + 1, by rw [w64_id (by omega) (by omega)]; push_cast; rfl, by omega, rfl⟩⟩
  have hcc : c < rp.length := by have := of_decide_eq_true h; omega
  obtain ⟨a4, ha4, u, hu, hU⟩ := hZ.2 c hcc
  have B4 : (0 : Int) ≤ (c : Int) ∧ (c : Int) < (z.len : Int) := ⟨by omega, by omega⟩
  exact ⟨m.s, hc, a, ha, B1, x, hx, a2, ha2, B2, y, hy, a3, ha3, B3, z, hz, a4, ha4, B4, u, hu, rp.length - (c + 1), by omega, rfl, c + 1, by rw [w64_id (by omega) (by omega)]; push_cast; rfl, by omega, rfl⟩
def cnt (name : Str) (l : List Seg) : Nat := l.countP (fun g => g.name == name)
theorem cnt_snoc (name : Str) {l : List Seg} {j : Nat} (hj : j < l.length) : cnt name (l.take (j + 1)) = cnt name (l.take j) + (if l[j].name == name then 1 else 0) := by
  unfold cnt; rw [List.take_succ_eq_append_getElem hj, List.countP_append]; simp [List.countP_cons]
theorem cnt_le (name : Str) (l : List Seg) : cnt name l ≤ l.length := List.countP_le_length
theorem count_spec (m : Mh) (name : Str) (l : List Seg) (hR : RM w m.s l) (hS : l.length ≤ BB) (hk : ∀ w', Fr Non w w' → k (.int .i64 (cnt name l)) w') : Cl Tryz.prog 55 [.agg (List.toArray (mc m)), .string (mkS name)] w k := by
  refine f55_ok ?_
  unfold f55
  intro b8 w9 hb8 hw9
  have f9 : Fr Non w w9 := hw9 ▸ (Fr.refl Non w).alloc _
  have hB : Blk w9 b8 26 (mc m) := hb8 ▸ hw9 ▸ Blk.new w (mc m) 26
  have hL := hR.1
  unfold BB at hS
  refine ⟨m.s, by rw [add_mk]; exact hB.cell rfl, fun t n i w' => ∃ j : Nat, i = j ∧ j ≤ l.length ∧ t = l.length - j ∧ n = (cnt name (l.take j) : Nat) ∧ Fr Non w w', ⟨l.length, 0, rfl, by omega, rfl, rfl, f9⟩, ?_⟩
  rintro t n i w16 ⟨j, rfl, hj, rfl, rfl, f16⟩
  refine ⟨fun h => ?_, fun h => ?_⟩
  · have hj : j < l.length := by have := of_decide_eq_true h; omega
    obtain ⟨a, ha, hn, x, hx, hX⟩ := (hR.fr f16).2 j hj
    have hle := cnt_le name (l.take j)
    have hs := cnt_snoc name hj
    simp only [List.length_take] at hle
    refine ⟨fun n w' => n = (cnt name (l.take (j + 1)) : Nat) ∧ Fr Non w w', ?_, a, ha, ⟨by omega, by omega⟩, l[j].name, x, ⟨hn, hx, trivial⟩, ?_⟩
    · rintro n w19 ⟨rfl, f19⟩
      exact ⟨l.length - (j + 1), by omega, j + 1, by rw [w64_id (by omega) (by omega)]; push_cast; rfl, by omega, rfl, rfl, f19⟩
    · intro b23 w24 hb23 hw24
      have hC : Blk w24 b23 79 [.string (mkS []), .slice none 0 0] := hb23 ▸ hw24 ▸ Blk.new w16 _ 79
      have f24 : Fr Non w16 w24 := hw24 ▸ (Fr.refl Non w16).alloc _
      refine ⟨mayCells_of hC 0 2 (by simp), fun w25 hw25 => ?_⟩
      have hD : Blk w25 b23 79 [.string (mkS l[j].name), .slice x.base x.len x.cap] := hw25 ▸ hC.setAll rfl
      have f25 : Fr Non w w25 := f16.trans' (hw25 ▸ f24.setAll hC (vs := [.string (mkS l[j].name), .slice x.base x.len x.cap]) rfl (fun h => absurd h (by omega)))
      refine ⟨l[j].name, hD.cell rfl, fun he => ⟨?_, f25⟩, fun he => ⟨?_, f25⟩⟩
      · rw [hs, he, w64_id (by omega) (by omega)]; simp
      · rw [hs, he]; simp
  · have : j = l.length := by have := of_decide_eq_false h; omega
    subst this
    rw [List.take_length]; exact hk _ f16
def atF (name : Str) (occ : Int) (l : List Seg) : Option Nat := (List.range l.length).find? fun i => decide (∃ g, l[i]? = some g ∧ g.name = name ∧ (cnt name (l.take (i + 1)) : Int) = occ)
def atI (o : Option Nat) : Int := match o with
  | some i => i
  | none => -1
theorem find_none {p : Nat → Bool} {n : Nat} (h : ∀ i, i < n → p i = false) : (List.range n).find? p = none := by
  rw [List.find?_eq_none]; intro x hx
  rw [h x (List.mem_range.1 hx)]; simp
theorem find_some {p : Nat → Bool} {n j : Nat} (hj : j < n) (h : ∀ i, i < j → p i = false) (hp : p j = true) : (List.range n).find? p = some j := by
  rw [List.find?_eq_some_iff_getElem]
  exact ⟨hp, j, by simpa using hj, by simp, fun i hi => by simp [h i hi]⟩
def atp (name : Str) (occ : Int) (l : List Seg) (i : Nat) : Bool := decide (∃ g, l[i]? = some g ∧ g.name = name ∧ (cnt name (l.take (i + 1)) : Int) = occ)
theorem atp_eq (name : Str) (occ : Int) {l : List Seg} {i : Nat} (hi : i < l.length) : atp name occ l i = (l[i].name == name && decide ((cnt name (l.take (i + 1)) : Int) = occ)) := by
  unfold atp
  rw [Bool.eq_iff_iff]
  simp [hi]
set_option maxHeartbeats 1000000 in
theorem at_spec (m : Mh) (name : Str) (occ : Int) (l : List Seg) (hR : RM w m.s l) (hS : l.length ≤ BB) (ho : -9223372036854775808 ≤ occ ∧ occ ≤ 9223372036854775807) (hk : ∀ w', Fr Non w w' → k (.int .i64 (atI (atF name occ l))) w') : Cl Tryz.prog 58 [.agg (List.toArray (mc m)), .string (mkS name), .int .i64 occ] w k := by
  refine f58_ok ?_
  unfold f58
  intro b9 w10 hb9 hw10 b11 w12 hb11 hw12 b13 w14 hb13 hw14
  have f10 : Fr Non w w10 := hw10 ▸ (Fr.refl Non w).alloc _
  have f12 : Fr Non w w12 := hw12 ▸ f10.alloc _
  have f14 : Fr Non w w14 := hw14 ▸ f12.alloc _
  have hB10 : Blk w10 b9 26 (mc m) := hb9 ▸ hw10 ▸ Blk.new w (mc m) 26
  have hB : Blk w14 b9 26 (mc m) := hw14 ▸ (hw12 ▸ hB10.alloc _ : Blk w12 _ _ _).alloc _
  have hN12 : Blk w12 b11 9 [.string (mkS name)] := hb11 ▸ hw12 ▸ Blk.new w10 _ 9
  have hN : Blk w14 b11 9 [.string (mkS name)] := hw14 ▸ hN12.alloc _
  have hO : Blk w14 b13 3 [.int .i64 occ] := hb13 ▸ hw14 ▸ Blk.new w12 _ 3
  have hL := hR.1
  have l9 := hB10.lt
  have l11 := hN12.lt
  have z9 : w.heap.size ≤ b9 := by omega
  have z10 : w.heap.size ≤ w10.heap.size := f10.size
  have z12 : w.heap.size ≤ w12.heap.size := f12.size
  unfold BB at hS
  refine ⟨m.s, by rw [add_mk]; exact hB.cell rfl, ?_⟩
  have e0 : IntKind.i64.wrap (occ - (cnt name (l.take 0) : Nat)) = occ := by simp only [List.take_zero, cnt, List.countP_nil]; rw [IntKind.wrap_i64]; omega
  refine f215_ok ?_
  unfold f215
  refine ⟨fun t i w' => ∃ j : Nat, i = j ∧ j ≤ l.length ∧ t = l.length - j ∧ Fr Non w w' ∧ Blk w' b11 9 [.string (mkS name)] ∧ Blk w' b13 3 [.int .i64 (IntKind.i64.wrap (occ - (cnt name (l.take j) : Nat)))] ∧ ∀ i, i < j → atp name occ l i = false,
    ⟨l.length, 0, rfl, by omega, rfl, f14, hN, by rw [e0]; exact hO, fun i h => by omega⟩, ?_⟩
  rintro t i w7 ⟨j, rfl, hj, rfl, f7, hN7, hO7, hno⟩
  refine ⟨fun h => ?_, fun h => ?_⟩
  · have hj : j < l.length := by have := of_decide_eq_true h; omega
    obtain ⟨a, ha, hn, x, hx, hX⟩ := (hR.fr f7).2 j hj
    have hle := cnt_le name (l.take j)
    have hs := cnt_snoc name hj
    have hp := atp_eq name occ hj
    rw [hs] at hp
    simp only [List.length_take] at hle
    refine ⟨a, ha, ⟨by omega, by omega⟩, l[j].name, x, ⟨hn, hx, trivial⟩, ?_⟩
    refine Cv.of (caps := [.pointer (some ⟨b11, 0, none⟩), .pointer (some ⟨b13, 0, none⟩)]) (.mk (by kernel_rfl)) ?_
    refine f216_ok ?_
    unfold f216
    intro b5 w6 hb5 hw6
    have f6 : Fr Non w7 w6 := hw6 ▸ (Fr.refl Non w7).alloc _
    have hG : Blk w6 b5 79 [.string (mkS l[j].name), .slice x.base x.len x.cap] := hb5 ▸ hw6 ▸ Blk.new w7 _ 79
    have hN6 := hN7.fr f6 (fun h => h)
    have hO6 := hO7.fr f6 (fun h => h)
    have l13 := hO7.lt
    refine ⟨fun w' => Fr Non w w' ∧ Blk w' b5 79 [.string (mkS l[j].name), .slice x.base x.len x.cap] ∧ Blk w' b11 9 [.string (mkS name)] ∧ Blk w' b13 3 [.int .i64 (IntKind.i64.wrap (occ - (cnt name (l.take (j + 1)) : Nat)))], ?_, l[j].name, hG.cell rfl, name, hN6.cell rfl, fun he => ⟨_, hO6.cell rfl, hO6.isS (by simp), hO6.free _, ?_⟩, fun he => ⟨f7.trans' f6, hG, hN6, by rw [hs, he]; exact hO6⟩⟩
    · rintro w8 ⟨f8, hG8, hN8, hO8⟩
      refine ⟨l[j].name, hG8.cell rfl, name, hN8.cell rfl, fun he => ⟨_, hO8.cell rfl, ⟨_, rfl, fun hz => ?_, fun hz => ?_⟩⟩, fun he => ⟨_, rfl, fun hz => (by cases hz), fun _ => ?_⟩⟩
      · have : atF name occ l = some j := find_some hj hno (by
          show atp name occ l j = true
          rw [hp, he]; rw [hs, he, IntKind.wrap_i64] at hz; simp only [if_true, beq_iff_eq, Bool.true_and, decide_eq_true_eq] at hz ⊢; omega)
        rw [this] at hk; exact ⟨_, rfl, hk _ f8⟩
      · refine ⟨l.length - (j + 1), by omega, j + 1, by rw [w64_id (by omega) (by omega)]; push_cast; rfl, by omega, rfl, f8, hN8, hO8, fun i hi => ?_⟩
        by_cases hij : i = j
        · subst hij; rw [hp, he]; rw [hs, he, IntKind.wrap_i64] at hz; simp only [if_true, beq_eq_false_iff_ne, Bool.true_and, decide_eq_false_iff_not, ne_eq] at hz ⊢; omega
        · exact hno i (by omega)
      · refine ⟨l.length - (j + 1), by omega, j + 1, by rw [w64_id (by omega) (by omega)]; push_cast; rfl, by omega, rfl, f8, hN8, hO8, fun i hi => ?_⟩
        by_cases hij : i = j
        · subst hij; rw [hp, he]; rfl
        · exact hno i (by omega)
    · rintro w12 rfl
      have e : IntKind.i64.wrap (IntKind.i64.wrap (occ - (cnt name (l.take j) : Nat)) - 1) = IntKind.i64.wrap (occ - (cnt name (l.take (j + 1)) : Nat)) := by
        rw [hs, he]; simp only [IntKind.wrap_i64, if_true]; omega
      rw [e]
      have n13 : w.heap.size ≤ b13 := by omega
      have hlt5 : b13 < b5 := by omega
      exact ⟨(f7.trans' f6).set (a := ⟨b13, 0, none⟩) (fun h => by simp only at h; omega) _, hG.ne (a := ⟨b13, 0, none⟩) (by simp only; omega) _, hN6.ne (a := ⟨b13, 0, none⟩) (by simp only; omega) _, hO6.set 0 _⟩
  · have : j = l.length := by have := of_decide_eq_false h; omega
    subst this
    have : atF name occ l = none := find_none hno
    rw [this] at hk; exact ⟨_, rfl, hk _ f7⟩
end
end Go.Proofs.YthpeengmcjpknaaGreatDoor
