/- Functions that read messages: whether one is light; how many segments have a name; the place of one. -/
import Derived.Test.YtoaoofobidhfjaaGreatDoorWSS
import Derived.Test.YtoaoofobidhfjaaGreatDoorWVR
set_option linter.unusedSimpArgs false
set_option linter.unusedVariables false
namespace Go.Proofs.YtoaoofobidhfjaaGreatDoor
open Go.V Go.RowKit
structure Mh where
  d1 : Int
  d2 : Int
  d3 : Int
  d4 : Int
  d5 : Int
  s : Sl
def mc (m : Mh) : List Value := [.int .u8 m.d1, .int .u8 m.d2, .int .u8 m.d3, .int .u8 m.d4, .int .u8 m.d5, .slice m.s.base m.s.len m.s.cap]
section
variable {w : World} {k : Value → World → Prop}
set_option maxHeartbeats 1000000 in
theorem light_any (m : Mh) (l : List Seg) (hR : RM w m.s l) (hS : SmM l) (hk : ∀ b w', Fr Non w w' → k (.bool b) w') : Cl Tryz.prog 14 [.agg (List.toArray (mc m))] w k := by
  refine f14_ok ?_
  unfold f14
  intro b7 w8 hb7 hw8
  have f8 : Fr Non w w8 := hw8 ▸ (Fr.refl Non w).alloc _
  have hB : Blk w8 b7 26 (mc m) := hb7 ▸ hw8 ▸ Blk.new w (mc m) 26
  have hR := hR.fr f8
  have hc : w8.cell? ((⟨b7, 0, none⟩ : Addr).add 5) = some (.slice m.s.base m.s.len m.s.cap) := by rw [add_mk]; exact hB.cell rfl
  have hL := hR.1
  have hS0 := hS.1
  unfold BB at hS0
  refine ⟨fun t n i w' => w' = w8 ∧ ∃ j : Nat, i = j ∧ j ≤ l.length ∧ t = l.length - j, ⟨l.length, rfl, 0, rfl, by omega, rfl⟩, ?_⟩
  rintro t n i w14 ⟨rfl, j, rfl, hj, rfl⟩
  refine ⟨fun v w' => w' = w14 ∧ (v = true → j < l.length), ?_, m.s, hc, fun h => ⟨rfl, fun _ => ?_⟩, fun h => ⟨rfl, fun h => by cases h⟩⟩
  case refine_2 => have := of_decide_eq_true h; omega
  rintro v w17 ⟨rfl, hv⟩
  refine ⟨fun hvt => ?_, fun _ => hk _ _ f8⟩
  have hj := hv hvt
  obtain ⟨a, ha, hn, x, hx, hX⟩ := hR.2 j hj
  obtain ⟨_, hS1, hSF⟩ := hS.2 _ (List.getElem_mem hj)
  unfold BB at hS1
  generalize hg : l[j].flds = fl at hX hS1 hSF
  have hXL := hX.1
  have B1 : (0 : Int) ≤ (j : Int) ∧ (j : Int) < (m.s.len : Int) := ⟨by omega, by omega⟩
  refine ⟨m.s, hc, a, ha, B1, x, hx, fun t n i w' => w' = w17 ∧ ∃ q : Nat, i = q ∧ q ≤ fl.length ∧ t = fl.length - q, ⟨fl.length, rfl, 0, rfl, by omega, rfl⟩, ?_⟩
  rintro t n i w27 ⟨rfl, q, rfl, hq, rfl⟩
  refine ⟨m.s, hc, a, ha, B1, x, hx, fun h => ?_, fun h => ⟨l.length - (j + 1), by omega, rfl, j + 1, by rw [w64_id (by omega) (by omega)]; push_cast; rfl, by omega, rfl⟩⟩
  have hq : q < fl.length := by have := of_decide_eq_true h; omega
  obtain ⟨a2, ha2, y, hy, hY⟩ := hX.2 q hq
  obtain ⟨hS2, hSR⟩ := hSF _ (List.getElem_mem hq)
  unfold BB at hS2
  generalize hg2 : fl[q] = fd at hY hS2 hSR
  have hYL := hY.1
  have B2 : (0 : Int) ≤ (q : Int) ∧ (q : Int) < (x.len : Int) := ⟨by omega, by omega⟩
  refine ⟨m.s, hc, a, ha, B1, x, hx, a2, ha2, B2, y, hy, fun t n i w' => w' = w27 ∧ ∃ r : Nat, i = r ∧ r ≤ fd.length ∧ t = fd.length - r, ⟨fd.length, rfl, 0, rfl, by omega, rfl⟩, ?_⟩
  rintro t n i w41 ⟨rfl, r, rfl, hr, rfl⟩
  refine ⟨m.s, hc, a, ha, B1, x, hx, a2, ha2, B2, y, hy, fun h => ?_, fun h => ⟨fl.length - (q + 1), by omega, rfl, q + 1, by rw [w64_id (by omega) (by omega)]; push_cast; rfl, by omega, rfl⟩⟩
  have hr : r < fd.length := by have := of_decide_eq_true h; omega
  obtain ⟨a3, ha3, z, hz, hZ⟩ := hY.2 r hr
  obtain ⟨hS3, hSC⟩ := hSR _ (List.getElem_mem hr)
  unfold BB at hS3
  generalize hg3 : fd[r] = rp at hZ hS3 hSC
  have hZL := hZ.1
  have B3 : (0 : Int) ≤ (r : Int) ∧ (r : Int) < (y.len : Int) := ⟨by omega, by omega⟩
  refine ⟨m.s, hc, a, ha, B1, x, hx, a2, ha2, B2, y, hy, a3, ha3, B3, z, hz, fun t n i w' => w' = w41 ∧ ∃ c : Nat, i = c ∧ c ≤ rp.length ∧ t = rp.length - c, ⟨rp.length, rfl, 0, rfl, by omega, rfl⟩, ?_⟩
  rintro t n i w59 ⟨rfl, c, rfl, hcc, rfl⟩
  refine ⟨m.s, hc, a, ha, B1, x, hx, a2, ha2, B2, y, hy, a3, ha3, B3, z, hz, fun h => ?_, fun h => ⟨fd.length - (r + 1), by omega, rfl, r + 1, by rw [w64_id (by omega) (by omega)]; push_cast; rfl, by omega, rfl⟩⟩
  have hcc : c < rp.length := by have := of_decide_eq_true h; omega
  obtain ⟨a4, ha4, u, hu, hU⟩ := hZ.2 c hcc
  have B4 : (0 : Int) ≤ (c : Int) ∧ (c : Int) < (z.len : Int) := ⟨by omega, by omega⟩
  exact ⟨m.s, hc, a, ha, B1, x, hx, a2, ha2, B2, y, hy, a3, ha3, B3, z, hz, a4, ha4, B4, u, hu, rp.length - (c + 1), by omega, rfl, c + 1, by rw [w64_id (by omega) (by omega)]; push_cast; rfl, by omega, rfl⟩
def cnt (name : Str) (l : List Seg) : Nat := l.countP (fun g => g.name == name)
theorem cnt_snoc (name : Str) {l : List Seg} {j : Nat} (hj : j < l.length) : cnt name (l.take (j + 1)) = cnt name (l.take j) + (if l[j].name == name then 1 else 0) := by
  unfold cnt; rw [List.take_succ_eq_append_getElem hj, List.countP_append]; simp [List.countP_cons]
theorem cnt_le (name : Str) (l : List Seg) : cnt name l ≤ l.length := List.countP_le_length
def atF (name : Str) (occ : Int) (l : List Seg) : Option Nat := (List.range l.length).find? fun i => decide (∃ g, l[i]? = some g ∧ g.name = name ∧ (cnt name (l.take (i + 1)) : Int) = occ)
def atI (o : Option Nat) : Int := match o with
  | some i => i
  | none => -1
theorem find_none {p : Nat → Bool} {n : Nat} (h : ∀ i, i < n → p i = false) : (List.range n).find? p = none := by
  rw [List.find?_eq_none]; intro x hx
  rw [h x (List.mem_range.1 hx)]; simp
theorem find_some {p : Nat → Bool} {n j : Nat} (hj : j < n) (h : ∀ i, i < j → p i = false) (hp : p j = true) : (List.range n).find? p = some j := by
  rw [List.find?_eq_some_iff_getElem]
  exact ⟨hp, j, by simpa using hj, by simp, fun i hi => by simp [h i hi]⟩
def atp (name : Str) (occ : Int) (l : List Seg) (i : Nat) : Bool := decide (∃ g, l[i]? = some g ∧ g.name = name ∧ (cnt name (l.take (i + 1)) : Int) = occ)
theorem atp_eq (name : Str) (occ : Int) {l : List Seg} {i : Nat} (hi : i < l.length) : atp name occ l i = (l[i].name == name && decide ((cnt name (l.take (i + 1)) : Int) = occ)) := by
  unfold atp
  rw [Bool.eq_iff_iff]
  simp [hi]
end
end Go.Proofs.YtoaoofobidhfjaaGreatDoor
